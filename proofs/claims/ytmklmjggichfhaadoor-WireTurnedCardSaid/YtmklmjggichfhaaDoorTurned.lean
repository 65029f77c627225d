/-
  Turned: WireTurned's walk.
-/
import Derived.Test.YtmklmjggichfhaaDoorFrames
import Derived.Test.YtmklmjggichfhaaDoorTurp
import Derived.Laws.OwnMore
namespace Go.Proofs.YtmklmjggichfhaaDoor
open Go.RowKit

structure TF (l l2 F : List UInt8) : Prop where
  len : F.length = 8 + l.length
  more : unframe (F ++ l2) = some l
  turn : ∀ q y, 4 ≤ q → q < F.length → y ≠ F.getD q 0 → unframe (F.set q y) = none
  cut : ∀ q, q < F.length → unframe (F.take q) = none
theorem tf_frame (l l2 : List UInt8) (h : l.length ≤ 2000) : TF l l2 (frameB l) :=
  ⟨frameB_len l, unframe_more l l2 (by omega), fun q y h4 hq hy => turned_none l q y (by omega) h4 hq hy, fun q hq => cut_none l q (by omega) hq⟩

set_option maxRecDepth 8000 in
set_option maxHeartbeats 1600000 in
theorem turned_long (A A2 : Option Addr) (n c n2 c2 : Nat) (x m : Int) (w : World) (hn : 2000 < n ∨ 2000 < n2) :
    Calls Tryd.prog 6 #[.slice A n c, .int .i64 x, .slice A2 n2 c2, .int .u32 m] w fun e w' => e = .returned (.bool true) ∧ Below w.heap.size w w' := by
  by_cases h1 : 2000 < n
  · have hn1 : (2000 : Int) < (n : Int) := by omega
    clear hn h1
    go_enter Tryd.func6, Tryd.ntmps6
    go_wp2_with (go_at_call 11; refine (awake_calls _).mono ?_; rintro e w1 ⟨rfl, f1⟩)
    go_ret
    exact ⟨rfl, f1.toBelow'⟩
  · have hn1 : (n : Int) ≤ 2000 := by omega
    have hn2 : (2000 : Int) < (n2 : Int) := by omega
    clear hn h1
    go_enter Tryd.func6, Tryd.ntmps6
    go_wp2_with (go_at_call 11; refine (awake_calls _).mono ?_; rintro e w1 ⟨rfl, f1⟩)
    go_ret
    exact ⟨rfl, f1.toBelow'⟩

theorem turn_bit (x : UInt8) (r : Nat) (hr : r < 8) : ∃ y : UInt8, y ≠ x ∧ bits BinOp.xor IntKind.u8 (x.toNat : Int) (2 ^ r % 256) = (y.toNat : Int) := by
  have h1 : ((2 : Int) ^ r % 256) = ((2 ^ r : Nat) : Int) ∧ 0 < 2 ^ r ∧ 2 ^ r < 256 := by
    have : r = 0 ∨ r = 1 ∨ r = 2 ∨ r = 3 ∨ r = 4 ∨ r = 5 ∨ r = 6 ∨ r = 7 := by omega
    rcases this with rfl | rfl | rfl | rfl | rfl | rfl | rfl | rfl <;> decide
  obtain ⟨h1, h2, h3⟩ := h1
  have hx := x.toNat_lt
  have hm : (UInt8.ofNat (2 ^ r)).toNat = 2 ^ r := by simp only [UInt8.toNat_ofNat']; omega
  refine ⟨x ^^^ UInt8.ofNat (2 ^ r), fun e => ?_, ?_⟩
  · have h := congrArg (fun z => x.toNat ^^^ z.toNat) e
    simp only [UInt8.toNat_xor, ← Nat.xor_assoc, Nat.xor_self, Nat.zero_xor, hm] at h
    omega
  · rw [h1, u8_xor_nat _ _ hx h3, UInt8.toNat_xor, hm]
theorem mask_byte (x : UInt8) (M j : Nat) (hj : j < 4) (_ : M < 4294967296) : bits BinOp.xor IntKind.u8 (x.toNat : Int) ((M : Int) / 2 ^ (8 * j) % 256) = ((x ^^^ UInt8.ofNat (M / 256 ^ j)).toNat : Int) := by
  have hx := x.toNat_lt
  have h1 : (M : Int) / 2 ^ (8 * j) % 256 = ((M / 256 ^ j % 256 : Nat) : Int) := by
    have : j = 0 ∨ j = 1 ∨ j = 2 ∨ j = 3 := by omega
    rcases this with rfl | rfl | rfl | rfl <;> simp
  rw [h1, u8_xor_nat _ _ hx (by omega), UInt8.toNat_xor]
  congr 2
theorem bv_set (l : List UInt8) (q : Nat) (y : UInt8) : (bv l).set q (.int .u8 (y.toNat : Int)) = bv (l.set q y) := by simp [bv, List.map_set]
theorem unframe_some {l x : List UInt8} {w w' : World} {e : Ending} (hx : unframe l = some x) (h : Unframed l w e w') : ∃ A c, e = .returned (.tuple #[.slice A x.length c, .int .i64 ((8 + x.length : Nat) : Int), .int .i64 0]) ∧ Rd w' w.heap.size w'.heap.size A x ∧ Fr NoB w w' := by
  have := unframe_gen h
  unfold uX uN uE at this
  rw [hx] at this
  exact this
theorem unframe_none {l : List UInt8} {w w' : World} {e : Ending} (hx : unframe l = none) (h : Unframed l w e w') : e = .returned (.tuple #[.slice none 0 0, .int .i64 0, .int .i64 4]) ∧ Fr NoB w w' := by
  obtain ⟨h, f⟩ := h
  rw [hx] at h
  exact ⟨h, f⟩

/-- What is told of a frame that is turned. -/
theorem unframe_turned {l2 l F : List UInt8} {q T : Nat} {y : UInt8} {w w' : World} {e : Ending} (tf : TF l l2 F) (hq : q = T / 8) (hqF : q < F.length) (hy : y ≠ F.getD q 0) (h : Unframed (F.set q y) w e w') :
    ∃ (A : Option Addr) (X c : Nat) (N E : Int), e = .returned (.tuple #[.slice A X c, .int .i64 N, .int .i64 E]) ∧ Fr NoB w w' ∧ ((E = 4 ∧ X = 0 ∧ N = 0) ∨ (E = 0 ∧ N ≤ (F.length : Int) ∧ (T : Int) < 32)) := by
  cases hu : unframe (F.set q y) with
  | none =>
    obtain ⟨rfl, f⟩ := unframe_none hu h
    exact ⟨none, 0, 0, 0, 4, rfl, f, .inl ⟨rfl, rfl, rfl⟩⟩
  | some x =>
    obtain ⟨A, c, rfl, -, f⟩ := unframe_some hu h
    refine ⟨A, x.length, c, _, 0, rfl, f, .inr ⟨rfl, ?_, ?_⟩⟩
    · have := unframe_len hu
      rw [List.length_set] at this
      omega
    · by_cases h4 : 4 ≤ q
      · rw [tf.turn q y h4 hqF hy] at hu; cases hu
      · omega
theorem frame_gen2 {l : List UInt8} {w w' : World} {e : Ending} (h : Framed l w e w') : ∃ A c, e = .returned (.tuple #[.slice A (frameB l).length c, .int .i64 0]) ∧ (frameB l).length ≤ c ∧ c ≤ maxLen ∧ Rd w' w.heap.size w'.heap.size A (frameB l) ∧ Fr NoB w w' := by
  obtain ⟨v, rfl, o, f⟩ := h
  obtain ⟨A, c, rfl, h1, h2⟩ := own_form o
  exact ⟨A, c, rfl, h1, h2, own_rd o, f⟩
set_option maxRecDepth 8000 in
set_option maxHeartbeats 6400000 in
theorem turned_short (A A2 : Option Addr) (l l2 F : List UInt8) (c c2 : Nat) (x m : Int) (w : World) (h : Rd w 0 w.heap.size A l) (h2 : Rd w 0 w.heap.size A2 l2) (hn : l.length ≤ 2000) (hn2 : l2.length ≤ 2000) (hm0 : 0 ≤ m) (hm1 : m < 4294967296) (hF : frameB l = F) (tf : TF l l2 F) :
    Calls Tryd.prog 6 #[.slice A l.length c, .int .i64 x, .slice A2 l2.length c2, .int .u32 m] w fun e w' => e = .returned (.bool true) ∧ Below w.heap.size w w' := by
  have hn1 : (l.length : Int) ≤ 2000 := by omega
  have hn21 : (l2.length : Int) ≤ 2000 := by omega
  have hlen := tf.len
  have hfl : (F.length : Int) ≤ 2008 := by omega
  have hfp : (8 : Int) ≤ (F.length : Int) := by omega
  have hll : ((8 + l.length : Nat) : Int) = (F.length : Int) := by omega
  have Hll := Lib.hid hll
  have e1 := Int.emod_nonneg x (show (8 * (F.length : Int)) ≠ 0 by omega)
  have e2 := Int.emod_lt_of_pos x (show 0 < (8 * (F.length : Int)) by omega)
  obtain ⟨T, hT, hT8⟩ : ∃ T : Nat, x % (8 * (F.length : Int)) = (T : Int) ∧ T < 8 * F.length := ⟨(x % (8 * (F.length : Int))).toNat, by omega, by omega⟩
  have hP := fun W => pick_calls x (8 * (F.length : Int)) W (by omega) (by omega)
  rw [hT] at hP
  have HP := Lib.hid hP
  have HF := Lib.hid fun W (f : Fr NoB w W) => (frame_calls A l c 0 w.heap.size W (h.fr f (Nat.le_refl _) (fun _ _ _ x => x)) f.size (by omega)).mono fun _ _ x => frame_gen2 x
  rw [hF] at HF
  have HC := Lib.hid fun B d lo hi W (r : Rd W lo hi B F) => copy_calls B F d lo hi W r (by omega)
  obtain ⟨J, hJ⟩ : ∃ J, F ++ l2 = J := ⟨_, rfl⟩
  have hJl : J.length ≤ 4008 := by rw [← hJ, List.length_append]; omega
  have hu1 := tf.more
  rw [hJ] at hu1
  have HU1 := Lib.hid fun B d lo hi W (r : Rd W lo hi B J) (hh : hi ≤ W.heap.size) (hc : J.length ≤ d) (hm : d ≤ maxLen) => (unframe_calls B J d lo hi W r hh hc hm (by omega)).mono fun _ _ x => unframe_some hu1 x
  rw [hll] at HU1
  have HJ := Lib.hid hJ
  have HS := Lib.hid fun B d lo hi W (r : Rd W lo hi B l) (f : Fr NoB w W) => same_calls B A l l d c lo hi 0 w.heap.size W r (h.fr f (Nat.le_refl _) (fun _ _ _ x => x)) (by omega) (by omega)
  rw [show (l == l) = true by simp] at HS
  obtain ⟨i0, hi0, hz0, hz1, hz2⟩ := info_parts info_byte
  have hw64 : wrap64 (8 * (F.length : Int)) = 8 * (F.length : Int) := by unfold wrap64; omega
  have hi64 : IntKind.i64.wrap (8 * (F.length : Int)) = 8 * (F.length : Int) := by rw [IntKind.wrap_i64]; omega
  have TF0 := Lib.hid tf
  have H0 := Lib.hid h
  have H2 := Lib.hid h2
  have HT := Lib.hid hT8
  clear e1 e2 hT hP hF hT8 tf h h2 hll hn hn2 hlen hJ hJl hu1
  go_enter Tryd.func6, Tryd.ntmps6
  go_wp2_with (go_at_call 11; refine (awake_calls _).mono ?_; rintro e w1 ⟨rfl, f1⟩; have F1 := Lib.hid f1; clear f1)
  go_wp2_with (go_at_call 33; refine (HF.out _ F1.out).mono ?_; rintro e w2 ⟨A1, c1, rfl, m1, m2, r2, f2⟩; have M1 := Lib.hid m1; have M2 := Lib.hid m2; clear m1 m2; have R2 := Lib.hid r2; have F2 := Lib.hid (F1.out.then f2); clear r2 f2)
  refine (HC.out _ _ _ _ _ R2.out).mono ?_
  rintro e w3 ⟨v3, rfl, o3, b3⟩
  have F3 := Lib.hid (F2.out.then (Fr.ofBelow b3))
  have R3 := Lib.hid (R2.out.fr (Fr.ofBelow (M := NoB) b3) (Nat.le_refl _) (fun _ _ _ x => x))
  have HO := Lib.hid o3
  have HB := Lib.hid b3
  clear o3 b3
  go_wp2_with (at_builtin; refine wpList_append_src _ rfl _ _ 22 rfl w2.heap.size 5 i0 (.int .u8 0) 1 1 Tryd.underlying22 hi0 hz0 hz1 hz2 rfl (by decide) v3 F.length (bv F) rfl HO.out A2 l2.length c2 (bv l2) rfl (by simp) (H2.out.fr F3.out (Nat.le_refl _) (fun _ _ _ x => x)).srcs (bv_one l2) (by unfold maxLen; omega) (by omega) HB.out.size ?_)
  intro v4 w4 hA
  have F4 := Lib.hid (F3.out.up hA.fr fun k hk => Nat.le_trans F2.out.size (HO.out.lt k hk).1)
  have R4w := Lib.hid (R3.out.fr hA.fr (Nat.le_trans (Nat.le_refl _) HB.out.size) fun k _ hk hk2 => by have := (HO.out.lt k hk2).1; omega)
  rw [← bv_append, HJ.out] at hA
  obtain ⟨A4, c4, rfl, k1, k2, r4⟩ := hA.rd
  have R4 := Lib.hid r4
  have K1 := Lib.hid k1
  have K2 := Lib.hid k2
  have S1 := Lib.hid (Nat.le_trans HB.out.size hA.fr.size)
  clear hA r4 HO HB R3 k1 k2 hz0 hz1 hz2 hi0
  go_wp2_with (go_at_call 35; refine (HU1.out _ _ _ _ _ R4.out (Nat.le_refl _) K1.out K2.out).mono ?_; rintro e w5 ⟨A5, c5, rfl, r5, f5⟩; have R5 := Lib.hid r5; have F5 := Lib.hid (F4.out.then f5); have G5 := Lib.hid f5; clear r5 f5)
  refine (HS.out _ _ _ _ _ R5.out F5.out).mono ?_
  rintro e w6 ⟨rfl, n6, rfl⟩
  have F6 := Lib.hid (F5.out.drewN n6)
  have R6 := Lib.hid ((R4w.out.fr G5.out S1.out (fun _ _ _ x => x)).fr ((Fr.refl NoB w5).drewN n6) (Nat.le_trans S1.out G5.out.size) (fun _ _ _ x => x))
  have S6 : Hid (w2.heap.size ≤ (w5.drewN n6).heap.size) := Nat.le_trans S1.out G5.out.size
  clear F5 R5 G5 HS HU1 R4 F4 K1 K2 R4w HJ F3 R2 F1
  generalize w5.drewN n6 = w6 at F6 R6 S6 ⊢
  go_wp2_with (go_at_call 20; refine (HP.out _).mono ?_; rintro e w7 ⟨rfl, rfl⟩)
  refine (HC.out _ _ _ _ _ R6.out).mono ?_
  rintro e w8 ⟨v8, rfl, o8, b8⟩
  obtain ⟨g, c8, rfl, hg1, hg2⟩ := o8.form (by omega)
  obtain ⟨q, hq⟩ : ∃ q, q = T / 8 := ⟨_, rfl⟩
  obtain ⟨r, hr⟩ : ∃ r, r = T % 8 := ⟨_, rfl⟩
  have hqF : q < F.length := by have := HT.out; omega
  have hqT : (T : Int) / 8 = (q : Int) := by omega
  have hrT : (T : Int) % 8 = (r : Int) := by omega
  obtain ⟨y, hy1, hy2⟩ := turn_bit (F.getD q 0) r (by omega)
  have hcell := (o8.cellAt q (by omega)).trans (bv_get F q hqF)
  have hfr := o8.frozenAt q
  have hqF1 : (q : Int) < (F.length : Int) := by omega
  have hqc : (q : Int) ≤ (c1 : Int) := by have := M1.out; omega
  have hst := (o8.stored q (.int .u8 (y.toNat : Int))).1
  rw [bv_set] at hst
  have hst2 : ∀ lo W, lo = w6.heap.size → W = w8.setCell ⟨g, q, none⟩ (.int .u8 (y.toNat : Int)) → Rd W lo W.heap.size (some ⟨g, 0, none⟩) (F.set q y) := fun lo W h1 h2 => by
    subst h1; subst h2
    rw [show F.length = (F.set q y).length by rw [List.length_set]] at hst
    exact own_rd hst
  have hU2 := fun d lo hi W (r : Rd W lo hi (some ⟨g, 0, none⟩) (F.set q y)) (hh : hi ≤ W.heap.size) (hc : F.length ≤ d) (hm : d ≤ maxLen) => (unframe_calls (some ⟨g, 0, none⟩) (F.set q y) d lo hi W r hh (by rw [List.length_set]; exact hc) hm (by rw [List.length_set]; omega)).mono fun _ _ x => unframe_turned TF0.out hq hqF hy1 x
  rw [List.length_set] at hU2
  have hU3 := fun lo hi W (r : Rd W lo hi A1 F) (hh : hi ≤ W.heap.size) => (unframe_calls A1 (F.take q) c1 lo hi W r.take hh (by rw [List.length_take]; have := M1.out; omega) M2.out (by rw [List.length_take]; omega)).mono fun _ _ x => unframe_none (TF0.out.cut q hqF) x
  rw [show (F.take q).length = q by rw [List.length_take]; omega] at hU3
  have F8 := Lib.hid ((F6.out.then (Fr.ofBelow b8)).setCell (p := ⟨g, q, none⟩) (fun h => absurd hg1 (by have := F6.out.size; simp only at h; omega)) (.int .u8 (y.toNat : Int)))
  have R8w := Lib.hid (((R6.out.fr (Fr.ofBelow (M := NoB) b8) S6.out (fun _ _ _ x => x)).fr ((Fr.refl (OneB g) w8).setCell (p := ⟨g, q, none⟩) (fun _ => rfl) (.int .u8 (y.toNat : Int))) (Nat.le_trans S6.out b8.size) (fun k _ h2 h3 => by simp only [OneB] at h3; have := S6.out; omega)))
  have S8 : Hid (w2.heap.size ≤ (w8.setCell ⟨g, q, none⟩ (.int .u8 (y.toNat : Int))).heap.size) := by
    have h1 := S6.out
    have h2 := b8.size
    show w2.heap.size ≤ (w8.setCell ⟨g, q, none⟩ (.int .u8 (y.toNat : Int))).heap.size
    simp only [World.setCell, Array.size_modify]
    omega
  obtain ⟨hc8a, hc8b⟩ : F.length ≤ c8 ∧ c8 ≤ maxLen := by
    obtain ⟨A', c', he, h1, h2⟩ := own_form o8
    cases he
    exact ⟨h1, h2⟩
  have C8a := Lib.hid hc8a
  have C8b := Lib.hid hc8b
  have HY2 := Lib.hid hy2
  have HST := Lib.hid hst2
  have HU2 := Lib.hid hU2
  have HU3 := Lib.hid hU3
  generalize F.getD q 0 = x0 at hcell HY2 hy1 hy2
  clear o8 b8 hq hr hg1 hg2 hqF hst hst2 hU2 hU3 hc8a hc8b hy1 hy2
  go_wp2_with (go_at_call 35; rw [HY2.out]; refine (HU2.out _ _ _ _ (HST.out _ _ rfl rfl) (Nat.le_refl _) C8a.out C8b.out).mono ?_; rintro e w9 ⟨A9, X9, c9, N9, E9, rfl, f9, h9⟩)
  have R9 := Lib.hid (R8w.out.fr f9 S8.out (fun _ _ _ x => x))
  have F9 := Lib.hid (F8.out.then f9)
  have S9 := Lib.hid (Nat.le_trans S8.out f9.size)
  clear f9 R8w F8 S8 HST HU2 hcell hfr HY2 S6 R6 F6
  refine (HU3.out _ _ _ R9.out S9.out).mono ?_
  rintro e w10 ⟨rfl, f10⟩
  have F10 := Lib.hid (F9.out.then f10)
  clear f10 F9 R9 S9 HU3 hqT hrT
  rcases h9 with h9 | h9
  · obtain ⟨rfl, rfl, rfl⟩ := h9
    by_cases h4 : l.length < 4
    · have h4i : (l.length : Int) < 4 := by omega
      clear h4
      go_wp2
      go_ret
      exact ⟨rfl, F10.out.toBelow'⟩
    · have h4i : (4 : Int) ≤ (l.length : Int) := by omega
      by_cases h0 : m = 0
      · subst h0
        clear h4
        go_wp2
        go_ret
        exact ⟨rfl, F10.out.toBelow'⟩
      · obtain ⟨M, rfl⟩ : ∃ M : Nat, m = (M : Int) := ⟨m.toNat, by omega⟩
        have hM0 : M ≠ 0 := by omega
        have hM : M < 4294967296 := by omega
        have hne : ((M : Int) == 0) = false := by rw [beq_eq_false_iff_ne]; omega
        obtain ⟨k, hk, hk4⟩ : ∃ k : Nat, (T : Int) % ((l.length : Int) - 3) = (k : Int) ∧ k + 4 ≤ l.length := ⟨((T : Int) % ((l.length : Int) - 3)).toNat, by have := Int.emod_nonneg (T : Int) (show (l.length : Int) - 3 ≠ 0 by omega); omega, by have := Int.emod_nonneg (T : Int) (show (l.length : Int) - 3 ≠ 0 by omega); have := Int.emod_lt_of_pos (T : Int) (show 0 < (l.length : Int) - 3 by omega); omega⟩
        have hP2 := fun W => pick_calls (T : Int) ((l.length : Int) - 3) W (by omega) (by omega)
        rw [hk] at hP2
        have hC2 := copy_calls A l c 0 w.heap.size w10 (H0.out.fr F10.out (Nat.le_refl _) (fun _ _ _ x => x)) (by omega)
        have hw3 : IntKind.i64.wrap ((l.length : Int) - 3) = (l.length : Int) - 3 := by rw [IntKind.wrap_i64]; omega
        have hd1 := fun lo hi W (r : Rd W lo hi A l) (hh : hi ≤ W.heap.size) => sum_calls A l c lo hi W r hh (by omega)
        have hd2 := fun B d lo hi W (r : Rd W lo hi B (dN l k M 4)) (hh : hi ≤ W.heap.size) => sum_calls B (dN l k M 4) d lo hi W r hh (by rw [dN_len]; omega)
        rw [dN_len] at hd2
        have hsum := dN_sum l k M hk4 hM hM0
        generalize hk1 : (crc (dN l k M 4)).toNat = K1 at hsum hd2
        generalize hk2 : (crc l).toNat = K2 at hsum hd1
        have hbn : ((K1 : Int) != (K2 : Int)) = true := by rw [bne_iff_ne]; omega
        have HP2 := Lib.hid hP2
        have HC2 := Lib.hid hC2
        have HD1 := Lib.hid hd1
        have HD2 := Lib.hid hd2
        have HBN := Lib.hid hbn
        have HK4 := Lib.hid hk4
        have HMM := Lib.hid hM
        clear hP2 hC2 hd1 hd2 hsum hk1 hk2 hbn hk hM0 h4 hM hm0 hm1
        go_wp2_with (first
          | (go_at_call 20; refine (HP2.out _).mono ?_; rintro e w11 ⟨rfl, rfl⟩)
          | (go_at_call 39; refine HC2.out.mono ?_; rintro e w12 ⟨v12, rfl, o12, b12⟩; obtain ⟨g2, c12, rfl, hg21, hg22⟩ := o12.form (by omega)))
        have F12 := Lib.hid (F10.out.then (Fr.ofBelow b12))
        have t0 : w12.ownsRow w10.heap.size 5 1 (.slice (some ⟨g2, 0, none⟩) l.length c12) l.length (bv (dN l k M 0)) := o12
        have HG21 := Lib.hid hg21
        clear o12 b12 hg21 hg22 HC2 hw3 hne
        go_loopw [23] (fun i wr => ∃ j : Nat, j ≤ 4 ∧ i = .int .i64 (j : Int) ∧ wr.ownsRow w10.heap.size 5 1 (.slice (some ⟨g2, 0, none⟩) l.length c12) l.length (bv (dN l k M j)) ∧ Fr NoB w wr) (fun i _ => 4 - (intOf i).toNat)
        case atStart => exact ⟨0, by omega, rfl, t0, F12.out⟩
        case round =>
          obtain ⟨j, hj, rfl, ho, hf⟩ := hrel
          have FR := Lib.hid hf
          clear hf
          by_cases hlt : j < 4
          · have hkj : k + j < (dN l k M j).length := by rw [dN_len]; have := HK4.out; omega
            have hcell := (ho.cellAt (k + j) (by rw [dN_len] at hkj; omega)).trans (bv_get (dN l k M j) (k + j) hkj)
            rw [dN_at l k M j (k + j) (Nat.le_refl _)] at hcell
            have hfr := ho.frozenAt (k + j)
            have hmb := mask_byte (l.getD (k + j) 0) M j hlt HMM.out
            have hst := (ho.stored (k + j) (.int .u8 ((l.getD (k + j) 0 ^^^ UInt8.ofNat (M / 256 ^ j)).toNat : Int))).1
            rw [bv_set] at hst
            have HST := Lib.hid (show (wr.setCell ⟨g2, k + j, none⟩ (.int .u8 ((l.getD (k + j) 0 ^^^ UInt8.ofNat (M / 256 ^ j)).toNat : Int))).ownsRow w10.heap.size 5 1 (.slice (some ⟨g2, 0, none⟩) l.length c12) l.length (bv (dN l k M (j + 1))) from hst)
            generalize l.getD (k + j) 0 = x1 at hcell hmb HST
            generalize (x1 ^^^ UInt8.ofNat (M / 256 ^ j)) = y1 at hmb HST
            have HMB := Lib.hid hmb
            have hkj1 : ((k : Int) + (j : Int)) < (l.length : Int) := by have := HK4.out; omega
            have hwk : IntKind.i64.wrap ((k : Int) + (j : Int)) = (k : Int) + (j : Int) := by rw [IntKind.wrap_i64]; omega
            have hwk8 : IntKind.i64.wrap (8 * (j : Int)) = 8 * (j : Int) := by rw [IntKind.wrap_i64]; omega
            have htn : ((k : Int) + (j : Int)).toNat = k + j := by omega
            have hi1 : (j : Int) < 4 := by omega
            clear ho hst hmb hkj
            go_wp2
            go_roundw
            case rel =>
              rw [HMB.out]
              exact ⟨j + 1, by omega, by go_num, HST.out, FR.out.setCell (p := ⟨g2, k + j, none⟩) (fun h => by have h1 := HG21.out; have h2 := F10.out.size; simp only at h; omega) _⟩
            case measure => simp [intOf]; omega
          · obtain rfl : j = 4 := by omega
            have RD := Lib.hid (own_rd (l := dN l k M 4) (by rw [dN_len]; exact ho))
            clear ho hlt hj
            go_wp2_with (fail)
            refine (HD2.out _ _ _ _ _ RD.out (Nat.le_refl _)).mono ?_
            rintro e w13 ⟨rfl, f13⟩
            have F13 := Lib.hid (FR.out.then f13)
            clear f13
            go_wp2_with (fail)
            refine (HD1.out _ _ _ (H0.out.fr F13.out (Nat.le_refl _) (fun _ _ _ x => x)) F13.out.size).mono ?_
            rintro e w14 ⟨rfl, f14⟩
            have hbn := HBN.out
            go_wp2
            go_ret
            exact ⟨rfl, (F13.out.then f14).toBelow'⟩

  · obtain ⟨rfl, hN9, hT32⟩ := h9
    by_cases h4 : l.length < 4
    · have h4i : (l.length : Int) < 4 := by omega
      clear h4
      go_wp2
      go_ret
      exact ⟨rfl, F10.out.toBelow'⟩
    · have h4i : (4 : Int) ≤ (l.length : Int) := by omega
      by_cases h0 : m = 0
      · subst h0
        clear h4
        go_wp2
        go_ret
        exact ⟨rfl, F10.out.toBelow'⟩
      · obtain ⟨M, rfl⟩ : ∃ M : Nat, m = (M : Int) := ⟨m.toNat, by omega⟩
        have hM0 : M ≠ 0 := by omega
        have hM : M < 4294967296 := by omega
        have hne : ((M : Int) == 0) = false := by rw [beq_eq_false_iff_ne]; omega
        obtain ⟨k, hk, hk4⟩ : ∃ k : Nat, (T : Int) % ((l.length : Int) - 3) = (k : Int) ∧ k + 4 ≤ l.length := ⟨((T : Int) % ((l.length : Int) - 3)).toNat, by have := Int.emod_nonneg (T : Int) (show (l.length : Int) - 3 ≠ 0 by omega); omega, by have := Int.emod_nonneg (T : Int) (show (l.length : Int) - 3 ≠ 0 by omega); have := Int.emod_lt_of_pos (T : Int) (show 0 < (l.length : Int) - 3 by omega); omega⟩
        have hP2 := fun W => pick_calls (T : Int) ((l.length : Int) - 3) W (by omega) (by omega)
        rw [hk] at hP2
        have hC2 := copy_calls A l c 0 w.heap.size w10 (H0.out.fr F10.out (Nat.le_refl _) (fun _ _ _ x => x)) (by omega)
        have hw3 : IntKind.i64.wrap ((l.length : Int) - 3) = (l.length : Int) - 3 := by rw [IntKind.wrap_i64]; omega
        have hd1 := fun lo hi W (r : Rd W lo hi A l) (hh : hi ≤ W.heap.size) => sum_calls A l c lo hi W r hh (by omega)
        have hd2 := fun B d lo hi W (r : Rd W lo hi B (dN l k M 4)) (hh : hi ≤ W.heap.size) => sum_calls B (dN l k M 4) d lo hi W r hh (by rw [dN_len]; omega)
        rw [dN_len] at hd2
        have hsum := dN_sum l k M hk4 hM hM0
        generalize hk1 : (crc (dN l k M 4)).toNat = K1 at hsum hd2
        generalize hk2 : (crc l).toNat = K2 at hsum hd1
        have hbn : ((K1 : Int) != (K2 : Int)) = true := by rw [bne_iff_ne]; omega
        have HP2 := Lib.hid hP2
        have HC2 := Lib.hid hC2
        have HD1 := Lib.hid hd1
        have HD2 := Lib.hid hd2
        have HBN := Lib.hid hbn
        have HK4 := Lib.hid hk4
        have HMM := Lib.hid hM
        clear hP2 hC2 hd1 hd2 hsum hk1 hk2 hbn hk hM0 h4 hM hm0 hm1
        go_wp2_with (first
          | (go_at_call 20; refine (HP2.out _).mono ?_; rintro e w11 ⟨rfl, rfl⟩)
          | (go_at_call 39; refine HC2.out.mono ?_; rintro e w12 ⟨v12, rfl, o12, b12⟩; obtain ⟨g2, c12, rfl, hg21, hg22⟩ := o12.form (by omega)))
        have F12 := Lib.hid (F10.out.then (Fr.ofBelow b12))
        have t0 : w12.ownsRow w10.heap.size 5 1 (.slice (some ⟨g2, 0, none⟩) l.length c12) l.length (bv (dN l k M 0)) := o12
        have HG21 := Lib.hid hg21
        clear o12 b12 hg21 hg22 HC2 hw3 hne
        go_loopw [23] (fun i wr => ∃ j : Nat, j ≤ 4 ∧ i = .int .i64 (j : Int) ∧ wr.ownsRow w10.heap.size 5 1 (.slice (some ⟨g2, 0, none⟩) l.length c12) l.length (bv (dN l k M j)) ∧ Fr NoB w wr) (fun i _ => 4 - (intOf i).toNat)
        case atStart => exact ⟨0, by omega, rfl, t0, F12.out⟩
        case round =>
          obtain ⟨j, hj, rfl, ho, hf⟩ := hrel
          have FR := Lib.hid hf
          clear hf
          by_cases hlt : j < 4
          · have hkj : k + j < (dN l k M j).length := by rw [dN_len]; have := HK4.out; omega
            have hcell := (ho.cellAt (k + j) (by rw [dN_len] at hkj; omega)).trans (bv_get (dN l k M j) (k + j) hkj)
            rw [dN_at l k M j (k + j) (Nat.le_refl _)] at hcell
            have hfr := ho.frozenAt (k + j)
            have hmb := mask_byte (l.getD (k + j) 0) M j hlt HMM.out
            have hst := (ho.stored (k + j) (.int .u8 ((l.getD (k + j) 0 ^^^ UInt8.ofNat (M / 256 ^ j)).toNat : Int))).1
            rw [bv_set] at hst
            have HST := Lib.hid (show (wr.setCell ⟨g2, k + j, none⟩ (.int .u8 ((l.getD (k + j) 0 ^^^ UInt8.ofNat (M / 256 ^ j)).toNat : Int))).ownsRow w10.heap.size 5 1 (.slice (some ⟨g2, 0, none⟩) l.length c12) l.length (bv (dN l k M (j + 1))) from hst)
            generalize l.getD (k + j) 0 = x1 at hcell hmb HST
            generalize (x1 ^^^ UInt8.ofNat (M / 256 ^ j)) = y1 at hmb HST
            have HMB := Lib.hid hmb
            have hkj1 : ((k : Int) + (j : Int)) < (l.length : Int) := by have := HK4.out; omega
            have hwk : IntKind.i64.wrap ((k : Int) + (j : Int)) = (k : Int) + (j : Int) := by rw [IntKind.wrap_i64]; omega
            have hwk8 : IntKind.i64.wrap (8 * (j : Int)) = 8 * (j : Int) := by rw [IntKind.wrap_i64]; omega
            have htn : ((k : Int) + (j : Int)).toNat = k + j := by omega
            have hi1 : (j : Int) < 4 := by omega
            clear ho hst hmb hkj
            go_wp2
            go_roundw
            case rel =>
              rw [HMB.out]
              exact ⟨j + 1, by omega, by go_num, HST.out, FR.out.setCell (p := ⟨g2, k + j, none⟩) (fun h => by have h1 := HG21.out; have h2 := F10.out.size; simp only at h; omega) _⟩
            case measure => simp [intOf]; omega
          · obtain rfl : j = 4 := by omega
            have RD := Lib.hid (own_rd (l := dN l k M 4) (by rw [dN_len]; exact ho))
            clear ho hlt hj
            go_wp2_with (fail)
            refine (HD2.out _ _ _ _ _ RD.out (Nat.le_refl _)).mono ?_
            rintro e w13 ⟨rfl, f13⟩
            have F13 := Lib.hid (FR.out.then f13)
            clear f13
            go_wp2_with (fail)
            refine (HD1.out _ _ _ (H0.out.fr F13.out (Nat.le_refl _) (fun _ _ _ x => x)) F13.out.size).mono ?_
            rintro e w14 ⟨rfl, f14⟩
            have hbn := HBN.out
            go_wp2
            go_ret
            exact ⟨rfl, (F13.out.then f14).toBelow'⟩

theorem turned_walk (A A2 : Option Addr) (l l2 : List UInt8) (c c2 : Nat) (x m : Int) (w : World) (h : Rd w 0 w.heap.size A l) (h2 : Rd w 0 w.heap.size A2 l2) (hm0 : 0 ≤ m) (hm1 : m < 4294967296) :
    Calls Tryd.prog 6 #[.slice A l.length c, .int .i64 x, .slice A2 l2.length c2, .int .u32 m] w fun e w' => e = .returned (.bool true) ∧ Below w.heap.size w w' := by
  by_cases hn : 2000 < l.length ∨ 2000 < l2.length
  · exact turned_long A A2 l.length c l2.length c2 x m w hn
  · exact turned_short A A2 l l2 (frameB l) c c2 x m w h h2 (by omega) (by omega) hm0 hm1 rfl (tf_frame l l2 (by omega))

end Go.Proofs.YtmklmjggichfhaaDoor
