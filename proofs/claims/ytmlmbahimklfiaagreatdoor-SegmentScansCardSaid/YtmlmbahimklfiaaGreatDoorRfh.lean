/-
  Rfh: Rff, Rfg, Rfh.
-/
import Derived.Test.YtmlmbahimklfiaaGreatDoorFrn
import Derived.Deep.RegionHeld3
/- Rff -/
namespace Go.Proofs.YtmlmbahimklfiaaGreatDoor
open Go.RowKit

theorem st1_bit (c : BitVec 32) : c.getLsbD 0 = decide (c.toNat % 2 = 1) := by rw [BitVec.getLsbD, Nat.testBit_zero]
theorem st1_half (c : BitVec 32) (h : c.toNat % 2 = 0) : (c.toNat : Int) / 2 = ((st1 c).toNat : Int) := by
  have e : st1 c = c >>> 1 := st1_even (by rw [st1_bit]; simp [h])
  rw [e, BitVec.toNat_ushiftRight, Nat.shiftRight_eq_div_pow]
  omega
theorem st1_odd (c : BitVec 32) (h : c.toNat % 2 = 1) : bits BinOp.xor IntKind.u32 ((c.toNat : Int) / 2) 3988292384 = ((st1 c).toNat : Int) := by
  have hc := c.isLt
  have e3 : ((c.toNat : Int) / 2) = ((c.toNat / 2 : Nat) : Int) := by omega
  have e4 : (3988292384 : Int) = ((3988292384 : Nat) : Int) := rfl
  rw [e3, e4, u32_xor_nat _ _ (by omega) (by omega)]
  congr 1
  unfold st1
  rw [st1_bit, BitVec.toNat_xor, BitVec.toNat_ushiftRight, Nat.shiftRight_eq_div_pow]
  simp [h, poly]
theorem bv_sub (c : BitVec 32) : 4294967295 - (c.toNat : Int) = ((~~~c).toNat : Int) := by
  have hc := c.isLt
  rw [BitVec.toNat_not]
  omega

set_option maxRecDepth 20000 in
set_option maxHeartbeats 3200000 in
theorem rsum_calls (A : Option Addr) (l : List UInt8) (c lo hi : Nat) (w : World) (h : Rd w lo hi A l) (hl : l.length ≤ 140737488355328) :
    Calls Tryz.prog 61 #[.slice A l.length c] w fun e w' => e = .returned (.int .u32 (crc l).toNat) ∧ w = w' := by
  go_enter Tryz.func61, Tryz.ntmps61
  have HH := Lib.hid h
  clear h
  go_wp2
  go_loop [3, 4] (fun c j => ∃ m : Nat, m ≤ l.length ∧ j = .int .i64 (m : Int) ∧ c = .int .u32 ((crcL (BitVec.allOnes 32) (l.take m)).toNat : Int)) (fun _ j => l.length - (intOf j).toNat)
  case atStart => exact ⟨0, by omega, rfl, rfl⟩
  case round =>
    obtain ⟨m, hm, rfl, rfl⟩ := hrel
    by_cases hml : m < l.length
    · obtain ⟨b, o, rfl, -, -, hc0⟩ := HH.out (by omega)
      have hc := hc0 m hml
      have HN := Lib.hid (show crcL (BitVec.allOnes 32) (l.take (m + 1)) = stN 8 (crcL (BitVec.allOnes 32) (l.take m) ^^^ BitVec.ofNat 32 (l.getD m 0).toNat) by
        rw [List.take_succ_eq_append_getElem hml, crcL, List.foldl_append]
        simp only [List.foldl_cons, List.foldl_nil, crcB]
        simp [List.getD, hml, crcL])
      clear hc0
      generalize l.getD m 0 = x at hc HN
      generalize crcL (BitVec.allOnes 32) (l.take m) = C at HN
      have e1 := bv_x8 C x
      have hx := x.toNat_lt
      have hb1 := C.isLt
      generalize C ^^^ BitVec.ofNat 32 x.toNat = C1 at HN e1
      go_wp2
      go_loop [3, 5] (fun c j => ∃ k : Nat, k ≤ 8 ∧ j = .int .i64 (k : Int) ∧ c = .int .u32 ((stN k C1).toNat : Int)) (fun _ j => 8 - (intOf j).toNat)
      case atStart => exact ⟨0, by omega, rfl, by first | rfl | (simp only [stN]; rw [← e1]) | exact congrArg (Value.int .u32) e1⟩
      case round =>
        obtain ⟨k, hk, rfl, rfl⟩ := hrel
        clear e1
        by_cases hk8 : k < 8
        · have HS := Lib.hid (stN_succ k C1)
          generalize stN k C1 = D at HS
          have hb2 := D.isLt
          by_cases h2 : D.toNat % 2 = 1
          · have hm2 : (D.toNat : Int) % 2 = 1 := by omega
            have e5 := st1_odd D h2
            clear h2
            go_wp2
            go_round
            case rel => exact ⟨k + 1, by omega, by go_num, by rw [HS.out]⟩
            case measure => simp [intOf]; omega
          · have hm2 : (D.toNat : Int) % 2 = 0 := by omega
            have e5 := st1_half D (by omega)
            clear h2
            go_wp2
            go_round
            case rel => exact ⟨k + 1, by omega, by go_num, by rw [HS.out]⟩
            case measure => simp [intOf]; omega
        · obtain rfl : k = 8 := by omega
          clear hk8
          rw [← HN.out]
          go_wp2
          go_round
          case rel => exact ⟨m + 1, by omega, by go_num, rfl⟩
          case measure => simp [intOf]; omega
    · have HN := Lib.hid (show crc l = ~~~(crcL (BitVec.allOnes 32) (l.take m)) by rw [List.take_of_length_le (by omega)]; rfl)
      generalize crcL (BitVec.allOnes 32) (l.take m) = C at HN
      have hb1 := C.isLt
      go_wp2
      go_ret
      refine ⟨?_, rfl⟩
      rw [HN.out, ← bv_sub]
      rfl

set_option maxRecDepth 20000 in
set_option maxHeartbeats 800000 in
theorem rfour_calls (n : Nat) (hn : n < 4294967296) (w : World) :
    Calls Tryz.prog 60 #[.int .u32 n] w fun e w' => ∃ v, e = .returned v ∧ w'.ownsRow w.heap.size 5 1 v 4 (bv (fourB n)) ∧ Below w.heap.size w w' := by
  go_enter Tryz.func60, Tryz.ntmps60
  go_wp2
  go_ret
  refine ⟨_, rfl, ?_, (Below.refl _ _).alloc (Nat.le_refl _) _⟩
  rw [four_bv n hn]
  exact World.ownsRow_lit (size := 1) w #[_, _, _, _] 4 (Nat.le_refl _) (by unfold maxLen; omega) rfl

set_option maxRecDepth 20000 in
set_option maxHeartbeats 800000 in
theorem rnumber_calls (A : Option Addr) (l : List UInt8) (c lo hi : Nat) (w : World) (h : Rd w lo hi A l) (hl : 4 ≤ l.length) (hm : l.length ≤ 140737488355328) :
    Calls Tryz.prog 69 #[.slice A l.length c] w fun e w' => e = .returned (.int .u32 (numB l)) ∧ ∃ n, w' = w.drewN n := by
  obtain ⟨b, o, rfl, -, -, hc⟩ := h (by omega)
  have c0 := hc 0 (by omega)
  have c1 := hc 1 (by omega)
  have c2 := hc 2 (by omega)
  have c3 := hc 3 (by omega)
  obtain ⟨x0, x1, x2, x3, r, rfl⟩ : ∃ x0 x1 x2 x3 r, l = x0 :: x1 :: x2 :: x3 :: r := by
    match l, hl with
    | x0 :: x1 :: x2 :: x3 :: r, _ => exact ⟨x0, x1, x2, x3, r, rfl⟩
  simp only [List.getD_cons_zero, List.getD_cons_succ, Nat.add_zero] at c0 c1 c2 c3
  have h0 := x0.toNat_lt; have h1 := x1.toNat_lt; have h2 := x2.toNat_lt; have h3 := x3.toNat_lt
  clear h hc
  go_enter Tryz.func69, Tryz.ntmps69
  go_wp2
  go_quiet (fail)
  go_wp2
  go_ret
  refine ⟨?_, _, rfl⟩
  refine ret_int ?_
  simp only [numB]
  omega

end Go.Proofs.YtmlmbahimklfiaaGreatDoor

/- Rfg -/
namespace Go.Proofs.YtmlmbahimklfiaaGreatDoor
open Go.RowKit

theorem rsum_fr (A : Option Addr) (l : List UInt8) (c lo hi : Nat) (w : World) (h : Rd w lo hi A l) (_ : hi ≤ w.heap.size) (hl : l.length ≤ 140737488355328) :
    Calls Tryz.prog 61 #[.slice A l.length c] w fun e w' => e = .returned (.int .u32 (crc l).toNat) ∧ Fr NoB w w' :=
  (rsum_calls A l c lo hi w h hl).mono fun _ _ ⟨a, b⟩ => ⟨a, b ▸ Fr.refl NoB w⟩

set_option maxRecDepth 20000 in
set_option maxHeartbeats 800000 in
theorem rframe_long (A : Option Addr) (n c : Nat) (w : World) (h : 1048576 < n) (hm : n ≤ 140737488355328) :
    Calls Tryz.prog 28 #[.slice A n c] w fun e w' => e = .returned (.tuple #[.slice none 0 0, .int .i64 3]) ∧ w = w' := by
  go_enter Tryz.func28, Tryz.ntmps28
  go_wp2
  go_ret2
  exact ⟨rfl, rfl⟩

set_option maxRecDepth 20000 in
set_option maxHeartbeats 1600000 in
theorem rframe_calls (A : Option Addr) (l : List UInt8) (c lo hi : Nat) (w : World) (h : Rd w lo hi A l) (hh : hi ≤ w.heap.size) (hl : l.length ≤ 1048576) :
    Calls Tryz.prog 28 #[.slice A l.length c] w (Framed l w) := by
  obtain ⟨i0, hi0, hz0, hz1, hz2⟩ := info_parts info_byte
  have hcr := (crc l).isLt
  go_enter Tryz.func28, Tryz.ntmps28
  go_wp2_with (go_at_call 60; refine (rfour_calls l.length (by omega) _).mono ?_)
  rintro e w1 ⟨v1, rfl, o1, b1⟩
  have f1 : Fr NoB w w1 := Fr.ofBelow b1
  have r1 := h.fr f1 hh (fun _ _ _ x => x)
  obtain ⟨A1, c1, rfl, _, _⟩ := own_form o1
  go_wp2_with (go_at_call 61; refine (rsum_fr A l c lo hi _ r1 (Nat.le_trans hh f1.size) (by omega)).mono ?_)
  rintro e w2 ⟨rfl, f2⟩
  have o2 := own_fr o1 f2 (fun _ _ x => x)
  have r2 := r1.fr f2 (Nat.le_trans hh f1.size) (fun _ _ _ x => x)
  have f12 := f1.then f2
  clear o1 r1 b1
  go_wp2_with (go_at_call 60; refine (rfour_calls (crc l).toNat (by omega) _).mono ?_)
  rintro e w3 ⟨v3, rfl, o3, b3⟩
  have f3 : Fr NoB w2 w3 := Fr.ofBelow b3
  have o4 := own_fr o2 f3 (fun _ _ x => x)
  have r3 := r2.fr f3 (Nat.le_trans hh f12.size) (fun _ _ _ x => x)
  have f13 := f12.then f3
  obtain ⟨A3, c3, rfl, _, _⟩ := own_form o3
  have hs3 := own_srcs o3
  clear o2 r2 b3 o3
  go_wp2_with (at_builtin; refine wpList_append_src _ rfl _ _ 24 rfl w.heap.size 5 i0 (.int .u8 0) 1 1 Tryz.underlying24 hi0 hz0 hz1 hz2 rfl (by decide) _ 4 (bv (fourB l.length)) rfl o4 A3 4 c3 (bv (fourB (crc l).toNat)) rfl rfl hs3 (bv_one _) (by unfold maxLen; omega) (by omega) f13.size ?_)
  intro v4 w4 hA4
  have f14 : Fr NoB w w4 := f13.trans hA4.fr fun k hk h1 => absurd (o4.lt k h1).1 (by omega)
  have o5 := hA4.own
  clear hA4 o4 hs3 f13 r3
  have r4 := h.fr f14 hh (fun _ _ _ x => x)
  obtain ⟨A4, c4, rfl, _, _⟩ := own_form o5
  go_wp2_with (at_builtin; refine wpList_append_src _ rfl _ _ 24 rfl w.heap.size 5 i0 (.int .u8 0) 1 1 Tryz.underlying24 hi0 hz0 hz1 hz2 rfl (by decide) _ _ _ rfl o5 A l.length c (bv l) rfl (by simp) r4.srcs (bv_one _) (by unfold maxLen; omega) (by omega) f14.size ?_)
  intro v5 w5 hA5
  have f15 : Fr NoB w w5 := f14.trans hA5.fr fun k hk h1 => absurd (o5.lt k h1).1 (by omega)
  have o6 := hA5.own
  clear hA5 o5 f14 r4
  obtain ⟨A5, c5, rfl, _, _⟩ := own_form o6
  have HF := Lib.hid f15
  clear f15
  go_wp2
  go_ret2
  refine ⟨_, rfl, ?_, HF.out⟩
  have e1 : (frameB l).length = 4 + 4 + l.length := by simp [frameB, fourB]; omega
  have e2 : bv (frameB l) = bv (fourB l.length) ++ bv (fourB (crc l).toNat) ++ bv l := by simp [frameB]
  rw [e1, e2]
  exact o6

set_option maxRecDepth 20000 in
set_option maxHeartbeats 1600000 in
theorem runframe_short (A : Option Addr) (l : List UInt8) (c : Nat) (w : World) (hl : l.length < 8) :
    Calls Tryz.prog 31 #[.slice A l.length c] w (Unframed l w) := by
  have q : Unframed l w (.returned (.tuple #[.slice none 0 0, .int .i64 0, .int .i64 4])) w := by
    refine ⟨?_, Fr.refl _ _⟩
    simp only [unframe, if_pos hl]
  go_enter Tryz.func31, Tryz.ntmps31
  go_wp2
  go_ret3
  exact q

set_option maxRecDepth 20000 in
set_option maxHeartbeats 1600000 in
theorem runframe_big (A : Option Addr) (l : List UInt8) (c lo hi : Nat) (w : World) (h : Rd w lo hi A l) (hm : l.length ≤ 140737488355328) (hl : 8 ≤ l.length) (hb : 1048576 < numB l ∨ l.length - 8 < numB l) :
    Calls Tryz.prog 31 #[.slice A l.length c] w (Unframed l w) := by
  have q : ∀ n, Unframed l w (.returned (.tuple #[.slice none 0 0, .int .i64 0, .int .i64 4])) (w.drewN n) := by
    intro n
    refine ⟨?_, (Fr.refl _ _).drewN _⟩
    simp only [unframe, if_neg (show ¬ l.length < 8 by omega), if_pos hb]
  have hnl := numB_lt l
  go_enter Tryz.func31, Tryz.ntmps31
  go_wp2_with (go_at_call 69; refine (rnumber_calls A l c lo hi _ h (by omega) hm).mono ?_)
  rintro e w1 ⟨rfl, n, rfl⟩
  generalize numB l = N at *
  go_wp2
  by_cases h1 : 1048576 < N
  · have d1 : decide (1048576 < N) = true := by simpa using h1
    have d1' : decide ((1048576 : Int) < (N : Int)) = true := by rw [decide_eq_true_iff]; omega
    clear hb h
    go_quiet (fail)
    go_wp2
    go_ret3
    have := q (n + nq)
    simpa using this
  · have d1 : decide (1048576 < N) = false := by simpa using h1
    have d1' : decide ((1048576 : Int) < (N : Int)) = false := by rw [decide_eq_false_iff_not]; omega
    have d2' : decide ((l.length : Int) - 8 < (N : Int)) = true := by rw [decide_eq_true_iff]; omega
    clear hb h
    go_quiet (fail)
    go_wp2
    go_ret3
    have := q (n + nq)
    simpa using this

end Go.Proofs.YtmlmbahimklfiaaGreatDoor

/- Rfh -/
namespace Go.Proofs.YtmlmbahimklfiaaGreatDoor
open Go.RowKit

set_option maxRecDepth 20000 in
set_option maxHeartbeats 3200000 in
theorem runframe_fits (A : Option Addr) (l : List UInt8) (c lo hi : Nat) (w : World) (h : Rd w lo hi A l) (hh : hi ≤ w.heap.size) (hlc : l.length ≤ c) (hcm : c ≤ maxLen) (hm : l.length ≤ 140737488355328) (hl : 8 ≤ l.length) (h1 : numB l ≤ 1048576) (h2 : numB l + 8 ≤ l.length) :
    Calls Tryz.prog 31 #[.slice A l.length c] w (Unframed l w) := by
  have hq : ∀ w', Fr NoB w w' → (crc ((l.drop 8).take (numB l))).toNat ≠ numB (l.drop 4) → Unframed l w (.returned (.tuple #[.slice none 0 0, .int .i64 0, .int .i64 4])) w' := by
    intro w' hf hne
    refine ⟨?_, hf⟩
    simp only [unframe, if_neg (show ¬ l.length < 8 by omega), if_neg (show ¬ (1048576 < numB l ∨ l.length - 8 < numB l) by omega), if_neg hne]
  have hy : ∀ w' v, Fr NoB w w' → (crc ((l.drop 8).take (numB l))).toNat = numB (l.drop 4) → w'.ownsRow w.heap.size 5 1 v (numB l) (bv ((l.drop 8).take (numB l))) → Unframed l w (.returned (.tuple #[v, .int .i64 (8 + numB l : Nat), .int .i64 0])) w' := by
    intro w' v hf he ho
    have e : ((l.drop 8).take (numB l)).length = numB l := by simp; omega
    refine ⟨?_, hf⟩
    simp only [unframe, if_neg (show ¬ l.length < 8 by omega), if_neg (show ¬ (1048576 < numB l ∨ l.length - 8 < numB l) by omega), if_pos he, e]
    exact ⟨v, rfl, ho⟩
  have r4 : Rd w lo hi (A.map (·.add 4)) (l.drop 4) := by
    have := Rd.drop (n := 4) h (by omega) hlc
    rwa [if_neg (by omega)] at this
  have r8 : ∀ B : Option Addr, (c = 8 → B = A) → (c ≠ 8 → B = A.map (·.add 8)) → Rd w lo hi B ((l.drop 8).take (numB l)) := by
    intro B b1 b2
    have := Rd.drop (n := 8) h (by omega) hlc
    by_cases h8 : c = 8
    · rw [b1 h8]; rw [if_pos h8] at this; exact this.take
    · rw [b2 h8]; rw [if_neg h8] at this; exact this.take
  have hnl := numB_lt l
  obtain ⟨i0, hi0, hz0, hz1, hz2⟩ := info_parts info_byte
  have hc' := hcm
  unfold maxLen at hc'
  have e8 : ((l.drop 8).take (numB l)).length = numB l := by simp; omega
  have e4 : (l.drop 4).length = l.length - 4 := by simp
  have hsum := fun B c W (hW : Rd W lo hi B ((l.drop 8).take (numB l))) (hs : hi ≤ W.heap.size) => rsum_fr B ((l.drop 8).take (numB l)) c lo hi W hW hs (by omega)
  have hnum := fun B c W (hW : Rd W lo hi B (l.drop 4)) => rnumber_calls B (l.drop 4) c lo hi W hW (by omega) (by omega)
  rw [e8] at hsum
  rw [e4] at hnum
  have hn2 := numB_lt (l.drop 4)
  have hcr := (crc ((l.drop 8).take (numB l))).isLt
  generalize (crc ((l.drop 8).take (numB l))).toNat = C at *
  generalize numB (l.drop 4) = D at *
  generalize hN : numB l = N at *
  generalize hX : (l.drop 8).take N = X at *
  generalize l.drop 4 = Y at *
  have HS := Lib.hid hsum
  have HM := Lib.hid hnum
  have E8 := Lib.hid e8
  have HQ := Lib.hid hq
  have HY := Lib.hid hy
  have R4 := Lib.hid r4
  have R8 := Lib.hid r8
  clear e8 e4 hsum hnum hq hy r4 r8 hX
  have hnm := rnumber_calls A l c lo hi w h (by omega) hm
  rw [hN] at hnm
  have HNM := Lib.hid hnm
  clear hnm hN
  have d1 : decide (1048576 < N) = false := by rw [decide_eq_false_iff_not]; omega
  have d1' : decide ((1048576 : Int) < (N : Int)) = false := by rw [decide_eq_false_iff_not]; omega
  have d2' : decide ((l.length : Int) - 8 < (N : Int)) = false := by rw [decide_eq_false_iff_not]; omega
  have hi1 : (8 : Int) ≤ 8 + (N : Int) := by omega
  have hi2 : 8 + (N : Int) ≤ (c : Int) := by omega
  have hi3 : (4 : Int) ≤ (l.length : Int) := by omega
  have hi4 : (l.length : Int) ≤ (c : Int) := by omega
  have hi5 : ¬ c = 4 := by omega
  have hw8 : IntKind.i64.wrap ((l.length : Int) - 8) = (l.length : Int) - 8 := by rw [IntKind.wrap_i64]; omega
  have hw1 : IntKind.i64.wrap (8 + (N : Int)) = 8 + N := by rw [IntKind.wrap_i64]; omega
  have hw2 : (8 + (N : Int)).toNat = 8 + N := by omega
  have hw3 : (8 + (N : Int)) % 4294967296 = 8 + N := by omega
  have hw4 : IntKind.u32.wrap (8 + (N : Int)) = 8 + N := by rw [IntKind.wrap_u32]; omega
  have hw5 : IntKind.i64.wrap (N : Int) = N := by rw [IntKind.wrap_i64]; omega
  by_cases h8 : c = 8
  · subst h8
    obtain rfl : N = 0 := by omega
    have hl8 : l.length = 8 := by omega
    have HM8 := HM.out
    have HN8 := HNM.out
    rw [hl8] at HM8 HN8
    simp only [Nat.reduceSub] at HM8
    rw [hl8]
    clear HM HNM d1 d1' d2' hi1 hi2 hi3 hi4 hi5 hw8 hw1 hw2 hw3 hw4 hw5 hl8 hl hm hlc hcm hc' h1 h2 hnl h
    have HM := Lib.hid HM8
    have HNM := Lib.hid HN8
    clear HM8 HN8
    have hw8 : IntKind.i64.wrap 8 = 8 := by rw [IntKind.wrap_i64]; omega
    have hwu : IntKind.u32.wrap 8 = 8 := by rw [IntKind.wrap_u32]; omega
    have hw0 : IntKind.i64.wrap 0 = 0 := by rw [IntKind.wrap_i64]; omega
    go_enter Tryz.func31, Tryz.ntmps31
    go_wp2_with (go_at_call 69; refine HNM.out.mono ?_; rintro e w1 ⟨rfl, n, rfl⟩)
    go_wp2
    go_region_held3 (fun _ => True) (exact True.intro) (first
      | (go_at_call 61; refine (HS.out _ _ _ ?_ ?_).mono ?_; exact R8.out _ (fun _ => rfl) (fun x => absurd rfl x); exact hh; rintro e w2 ⟨rfl, f2⟩)
      | (go_at_call 69; refine (HM.out _ _ _ ?_).mono ?_; exact (R4.out.fr (M := NoB) (Fr.undrewN f2) hh (fun _ _ _ x => x)); rintro e w3 ⟨rfl, n3, rfl⟩))
    have F2 := Lib.hid (Fr.undrewN f2)
    clear f2
    by_cases hCD : C = D
    · have hb : ((C : Int) != (D : Int)) = false := by simp [hCD]
      have F3 : Fr NoB w (w2.drewN n3) := F2.out.drewN n3
      have ho2 := World.ownsRow_lit (size := 1) (base := w.heap.size) (e := 5) (w2.drewN n3) #[] 0 F3.size (by unfold maxLen; omega) rfl
      have HO := Lib.hid ho2
      have hs8 := ((R8.out _ (fun _ => rfl) (fun x => absurd rfl x)).fr (F3.alloc (.cells #[] 5)) hh (fun _ _ _ x => x)).srcs
      rw [E8.out] at hs8
      have HS8 := Lib.hid hs8
      have HF3 := Lib.hid F3
      clear ho2 hs8 F3
      go_wp2_with (at_builtin; refine wpList_append_src _ rfl _ _ 24 rfl w.heap.size 5 i0 (.int .u8 0) 1 1 Tryz.underlying24 hi0 hz0 hz1 hz2 rfl (by decide) _ _ _ rfl HO.out _ 0 _ (bv X) rfl (by rw [bv_length, E8.out]; try omega) HS8.out (bv_one _) (by unfold maxLen; omega) (by omega) (by have := HF3.out.size; simp at this ⊢; omega) ?_)
      intro v4 w4 ha
      have f4 : Fr NoB w w4 := (HF3.out.alloc _).trans ha.fr fun k hk h => by have := HF3.out.size; have q : (w2.drewN n3).heap.size = w2.heap.size := rfl; simp only [Value.ownBlock, Option.some.injEq] at h; omega
      have o4 : w4.ownsRow w.heap.size 5 1 v4 0 (bv X) := by simpa using ha.own
      obtain ⟨A4, c4, rfl, _, _⟩ := own_form o4
      have HF4 := Lib.hid f4
      have HO4 := Lib.hid o4
      clear ha f4 o4
      go_wp2
      go_ret3
      exact HY.out _ _ HF4.out hCD HO4.out
    · have hb : ((C : Int) != (D : Int)) = true := by rw [bne_iff_ne]; omega
      have HCD := Lib.hid hCD
      clear hCD
      go_wp2
      go_ret3
      exact HQ.out _ (F2.out.drewN n3) HCD.out
  · have HW3 := Lib.hid hw3
    have HW4 := Lib.hid hw4
    have HW5 := Lib.hid hw5
    have HW8 := Lib.hid hw8
    have HW1 := Lib.hid hw1
    have HW2 := Lib.hid hw2
    clear hw8 hw1 hw2 hw3 hw4 hw5
    go_enter Tryz.func31, Tryz.ntmps31
    go_wp2_with (go_at_call 69; refine HNM.out.mono ?_; rintro e w1 ⟨rfl, n, rfl⟩)
    go_wp2
    have hw8 := HW8.out
    have hw1 := HW1.out
    have hw2 := HW2.out
    have hw3 := HW3.out
    have hw4 := HW4.out
    have hw5 := HW5.out
    go_region_held3 (fun _ => True) (exact True.intro) (first
      | (go_at_call 61; refine (HS.out _ _ _ ?_ ?_).mono ?_; exact R8.out _ (fun x => absurd x h8) (fun _ => rfl); exact hh; rintro e w2 ⟨rfl, f2⟩)
      | (go_at_call 69; refine (HM.out _ _ _ ?_).mono ?_; exact (R4.out.fr (M := NoB) (Fr.undrewN f2) hh (fun _ _ _ x => x)); rintro e w3 ⟨rfl, n3, rfl⟩))
    have F2 := Lib.hid (Fr.undrewN f2)
    clear f2
    by_cases hCD : C = D
    · have hb : ((C : Int) != (D : Int)) = false := by simp [hCD]
      have F3 : Fr NoB w (w2.drewN n3) := F2.out.drewN n3
      have ho2 := World.ownsRow_lit (size := 1) (base := w.heap.size) (e := 5) (w2.drewN n3) #[] 0 F3.size (by unfold maxLen; omega) rfl
      have HO := Lib.hid ho2
      have hs8 := ((R8.out _ (fun x => absurd x h8) (fun _ => rfl)).fr (F3.alloc (.cells #[] 5)) hh (fun _ _ _ x => x)).srcs
      rw [E8.out] at hs8
      have HS8 := Lib.hid hs8
      have HF3 := Lib.hid F3
      clear ho2 hs8 F3
      go_wp2_with (at_builtin; refine wpList_append_src _ rfl _ _ 24 rfl w.heap.size 5 i0 (.int .u8 0) 1 1 Tryz.underlying24 hi0 hz0 hz1 hz2 rfl (by decide) _ _ _ rfl HO.out _ N _ (bv X) rfl (by rw [bv_length, E8.out]; try omega) HS8.out (bv_one _) (by unfold maxLen; omega) (by omega) (by have := HF3.out.size; simp at this ⊢; omega) ?_)
      intro v4 w4 ha
      have f4 : Fr NoB w w4 := (HF3.out.alloc _).trans ha.fr fun k hk h => by have := HF3.out.size; have q : (w2.drewN n3).heap.size = w2.heap.size := rfl; simp only [Value.ownBlock, Option.some.injEq] at h; omega
      have o4 : w4.ownsRow w.heap.size 5 1 v4 N (bv X) := by simpa using ha.own
      obtain ⟨A4, c4, rfl, _, _⟩ := own_form o4
      have HF4 := Lib.hid f4
      have HO4 := Lib.hid o4
      clear ha f4 o4
      go_wp2
      go_ret3
      exact HY.out _ _ HF4.out hCD HO4.out
    · have hb : ((C : Int) != (D : Int)) = true := by rw [bne_iff_ne]; omega
      have HCD := Lib.hid hCD
      clear hCD
      go_wp2
      go_ret3
      exact HQ.out _ (F2.out.drewN n3) HCD.out

theorem runframe_calls (A : Option Addr) (l : List UInt8) (c lo hi : Nat) (w : World) (h : Rd w lo hi A l) (hh : hi ≤ w.heap.size) (hlc : l.length ≤ c) (hcm : c ≤ maxLen) (hm : l.length ≤ 140737488355328) :
    Calls Tryz.prog 31 #[.slice A l.length c] w (Unframed l w) := by
  by_cases h8 : l.length < 8
  · exact runframe_short A l c w h8
  · by_cases hb : 1048576 < numB l ∨ l.length - 8 < numB l
    · exact runframe_big A l c lo hi w h hm (by omega) hb
    · exact runframe_fits A l c lo hi w h hh hlc hcm hm (by omega) (by omega) (by omega)

end Go.Proofs.YtmlmbahimklfiaaGreatDoor
