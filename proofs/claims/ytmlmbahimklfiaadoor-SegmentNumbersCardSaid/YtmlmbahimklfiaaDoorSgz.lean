/-
  Sgz: SegmentNumbers' walk.
-/
import Derived.Test.YtmlmbahimklfiaaDoorSgv
namespace Go.Proofs.YtmlmbahimklfiaaDoor
open Go.RowKit

theorem wp_region_post {P : Program} {id : Nat} {ops : Array Oper} {b : Bool} {Q : Exit → Act → World → Prop} {a : Act} {w : World} (R : Act → Act → World → Prop) (h1 : (Code.region id ops b).wp P (fun e a' w' => match e with | .normal => R a a' w' | _ => False) a w) (h2 : ∀ a' w', R a a' w' → Q .normal a' w') : (Code.region id ops b).wp P Q a w :=
  Code.wp_mono (fun e a' w' h => by cases e <;> first | exact h2 _ _ h | exact h.elim) h1
theorem tells_not_n {A : Option Addr} {b : List UInt8} {c lo hi n : Nat} {tt : Int} {v : Value} {w : World} (h : Rd w lo hi A b) (hh : hi ≤ w.heap.size) (hn : b.length = n) (hlc : n ≤ c) (hcm : c ≤ maxLen) (hb : n ≤ 1000000000) (hH : Has w) (hs : ((segB (scan b)).length : Int) ≠ tt) (hv : ∃ B n k, v = .slice B n k) :
    Calls Tryd.prog 7 #[.slice A n c, .int .i64 tt, v] w fun e w' => e = .returned (.bool false) ∧ Fr NoB w w' := by
  subst hn
  exact tells_not A b c lo hi tt v w h hh hlc hcm hb hH hs hv
theorem own_lit (W : World) (l : List UInt8) (hl : l.length ≤ maxLen) : (W.alloc (.cells (bv l).toArray 5)).ownsRow W.heap.size 5 1 (.slice (some ⟨W.heap.size, 0, none⟩) l.length l.length) l.length (bv l) :=
  ⟨by simp, .inr ⟨_, l.length, _, rfl, Nat.le_refl _, heap_alloc_new W _, Nat.le_refl _, hl, by simp, by rw [Nat.mul_one, List.take_of_length_le (by simp)]⟩⟩
theorem RdZ.new2 (w : World) (o : Obj) (l : List Int) (t : TypeId) : RdZ ((w.alloc o).alloc (.cells (l.map (Value.int .i64)).toArray t)) (some ⟨w.heap.size + 1, 0, none⟩) l := by
  have := RdZ.new (w.alloc o) l t
  rwa [World.size_alloc] at this
theorem lt_of_own {w : World} {base e n c g : Nat} {xs : List Value} (h : w.ownsRow base e 1 (.slice (some ⟨g, 0, none⟩) n c) n xs) : g < w.heap.size := (h.lt g rfl).2
theorem own_base_le {w : World} {base e n c : Nat} {A : Option Addr} {xs : List Value} (h : w.ownsRow base e 1 (.slice A n c) n xs) (hn : 0 < n) : base ≤ w.heap.size := by
  obtain ⟨g, cap, hv, hb, hlt⟩ := h.form hn
  omega
theorem made8 (W : World) : (Instr.makeSlice 22 (.int .i64 8) (.int .i64 8)).run Tryd.prog W = .ok (.slice (some ⟨W.heap.size, 0, none⟩) 8 8) (W.alloc (.cells (bv (List.replicate 8 0)).toArray 5)) := by
  obtain ⟨i0, hi, hz0, hz1, hz2⟩ := info_parts info_byte
  have h := run_make (P := Tryd.prog) W 22 5 i0 (.int .u8 0) Tryd.underlying22 hi hz0 .i64 .i64 8 8 (by omega) (by omega) (by rw [hz2]; omega) (by omega)
  rw [hz1] at h
  rw [h]
  have e : madeCells (Value.int IntKind.u8 0).cells (Int.toNat 8 * 1) = (bv (List.replicate 8 0)).toArray := by
    rw [← Array.toList_inj, show (Value.int IntKind.u8 0).cells = #[.int .u8 0] from rfl, toList_madeCells_one, Nat.mul_one]
    simp [bv]
  rw [e]
  rfl
theorem made100 (W : World) : (Instr.makeSlice 22 (.int .i64 100) (.int .i64 100)).run Tryd.prog W = .ok (.slice (some ⟨W.heap.size, 0, none⟩) 100 100) (W.alloc (.cells (bv (List.replicate 100 0)).toArray 5)) := by
  obtain ⟨i0, hi, hz0, hz1, hz2⟩ := info_parts info_byte
  have h := run_make (P := Tryd.prog) W 22 5 i0 (.int .u8 0) Tryd.underlying22 hi hz0 .i64 .i64 100 100 (by omega) (by omega) (by rw [hz2]; omega) (by omega)
  rw [hz1] at h
  rw [h]
  have e : madeCells (Value.int IntKind.u8 0).cells (Int.toNat 100 * 1) = (bv (List.replicate 100 0)).toArray := by
    rw [← Array.toList_inj, show (Value.int IntKind.u8 0).cells = #[.int .u8 0] from rfl, toList_madeCells_one, Nat.mul_one]
    simp [bv]
  rw [e]
  rfl
theorem zs {l : List Int} (h : ∀ z ∈ l, ZOk z) : ∀ d ∈ l.map syncD, RightD d := by
  intro d hd
  obtain ⟨z, hz, rfl⟩ := List.mem_map.1 hd
  exact syncD_ok (h z hz)
theorem kN12 (k : Nat) : kN (([1, 2] : List Int).map syncD) k = if k < 14 then 0 else if k < 28 then 1 else 2 := by
  show (if segN (syncD 1) ≤ k then (if segN (syncD 2) ≤ k - segN (syncD 1) then 0 + 1 else 0) + 1 else 0) = _
  rw [segN1, segN2]
  by_cases h : k < 14
  · rw [if_neg (by omega), if_pos h]
  · rw [if_pos (by omega), if_neg h]
    by_cases h2 : k < 28
    · rw [if_neg (by omega), if_pos h2]
    · rw [if_pos (by omega), if_neg h2]
theorem scan_low {k : Nat} (h : k < 14) : scan ((segB (([1, 2] : List Int).map syncD)).take k) = ([] : List Int).map syncD := by
  rw [cut_scan r12 up12, kN12, if_pos h]; rfl
theorem scan_mid {k : Nat} (h1 : ¬ k < 14) (h2 : k < 28) : scan ((segB (([1, 2] : List Int).map syncD)).take k) = ([1] : List Int).map syncD := by
  rw [cut_scan r12 up12, kN12, if_neg h1, if_pos h2]; rfl
theorem z5 : ZOk 5 := by unfold ZOk; omega
theorem z3 : ZOk 3 := by unfold ZOk; omega
theorem z9 : ZOk 9 := by unfold ZOk; omega
theorem zb : ∀ z ∈ ([1, 4294967296, 4611686018427387904] : List Int), ZOk z := by
  intro z hz
  simp only [List.mem_cons, List.not_mem_nil, or_false] at hz
  unfold ZOk
  omega
theorem scan112 : scan (segB (([1, 1, 2] : List Int).map syncD)) = ([1] : List Int).map syncD :=
  scan_fall (ds := [syncD 1]) (by simp [syncD_ok z1]) (by simp [Rise, syncD, syncF]) (syncD 1) (syncD_ok z1) (by simp [lastZ, syncD, syncF]) [syncD 2]
theorem scan539 : scan (segB (([5, 3, 9] : List Int).map syncD)) = ([5] : List Int).map syncD :=
  scan_fall (ds := [syncD 5]) (by simp [syncD_ok z5]) (by simp [Rise, syncD, syncF]) (syncD 3) (syncD_ok z3) (by simp [lastZ, syncD, syncF]) [syncD 9]
theorem scanbig : scan (segB (([1, 4294967296, 4611686018427387904] : List Int).map syncD)) = ([1, 4294967296, 4611686018427387904] : List Int).map syncD :=
  scan_segB (zs zb) (by simp [Rise, syncD, syncF])
def bz2 : List UInt8 := [0] ++ segB (([2] : List Int).map syncD)
def bBT : List UInt8 := segB (([1] : List Int).map syncD) ++ bz2
def bz8 : List UInt8 := List.replicate 8 0 ++ segB (([2] : List Int).map syncD)
def bNN : List UInt8 := segB (([1] : List Int).map syncD) ++ bz8
theorem bz2_len : bz2.length = 15 := by decide
theorem bz8_len : bz8.length = 22 := by decide
theorem bBT_len : bBT.length = 29 := by decide
theorem bNN_len : bNN.length = 36 := by decide
theorem scan_betw : scan bBT = ([1] : List Int).map syncD :=
  scan_stop (ds := [syncD 1]) (by simp [syncD_ok z1]) (by simp [Rise, syncD, syncF]) (fun n => scanF_none (by decide))
theorem scan_none8 : scan bNN = ([1] : List Int).map syncD :=
  scan_stop (ds := [syncD 1]) (by simp [syncD_ok z1]) (by simp [Rise, syncD, syncF]) (fun n => scanF_nog (x := []) (by decide) (by decide))
theorem scan_zero : scan (List.replicate 100 0) = ([] : List Int).map syncD := scanF_nog (x := []) (by decide) (by decide)
set_option maxRecDepth 8000 in
set_option maxHeartbeats 25600000 in
theorem snumbers_walk (w : World) (hH : Has w) :
    Calls Tryd.prog 3 #[] w fun e w' => e = .returned (.bool true) ∧ Fr NoB w w' := by
  obtain ⟨i0, hi0, hz0, hz1, hz2⟩ := info_parts info_byte
  have HW := Lib.hid hH
  clear hH
  obtain ⟨M8, hM8⟩ : ∃ M8, (bv (List.replicate 8 0)).toArray = M8 := ⟨_, rfl⟩
  have HM8 : Hid (∀ W : World, (W.alloc (.cells M8 5)).ownsRow W.heap.size 5 1 (.slice (some ⟨W.heap.size, 0, none⟩) 8 8) 8 (bv (List.replicate 8 0))) := Lib.hid (fun W => hM8 ▸ own_lit W (List.replicate 8 0) (by decide))
  have hmk8 := made8
  simp only [hM8] at hmk8
  clear hM8
  obtain ⟨M9, hM9⟩ : ∃ M9, (bv (List.replicate 100 0)).toArray = M9 := ⟨_, rfl⟩
  have HM9 : Hid (∀ W : World, (W.alloc (.cells M9 5)).ownsRow W.heap.size 5 1 (.slice (some ⟨W.heap.size, 0, none⟩) 100 100) 100 (bv (List.replicate 100 0))) := Lib.hid (fun W => hM9 ▸ own_lit W (List.replicate 100 0) (by decide))
  have hmk100 := made100
  simp only [hM9] at hmk100
  clear hM9
  go_enter Tryd.func3, Tryd.ntmps3
  go_wp2_with (fail)
  refine (rows_n (RdZ.new w [1, 2] _) rfl (by decide) z12 len12 (HW.out.fr ((Fr.refl NoB w).alloc _))).mono ?_
  rintro e w1 ⟨A1, c1, rfl, h1, h2, -, hr1, f1⟩
  have F1 := Lib.hid (((Fr.refl NoB w).alloc (.cells #[.int .i64 1, .int .i64 2] 24)).then f1)
  have HR1 := Lib.hid hr1
  clear f1 hr1
  go_wp2
  go_loopw [2] (fun i W => ∃ k : Nat, k ≤ 29 ∧ i = .int .i64 (k : Int) ∧ Fr NoB w1 W) (fun i _ => 29 - (intOf i).toNat)
  case atStart => exact ⟨0, by omega, rfl, Fr.refl _ _⟩
  case round =>
    obtain ⟨k, hk, rfl, hf⟩ := hrel
    have F := Lib.hid hf
    clear hf
    have hk0 : (0 : Int) ≤ (k : Int) := by omega
    by_cases hlt : k < 29
    · have hle : (k : Int) ≤ 28 := by omega
      have hkc : (k : Int) ≤ (c1 : Int) := by omega
      have hkm : k ≤ c1 := by omega
      have hkb : k ≤ 1000000000 := by omega
      have hln : ((segB (([1, 2] : List Int).map syncD)).take k).length = k := by rw [List.length_take, len12]; omega
      have HR2 := fun W (G : Fr NoB wr W) => (HR1.out.fr (F.out.then G) (Nat.le_refl _) (fun _ _ _ x => x)).take (n := k)
      by_cases h14 : k < 14
      · have hg1 : ¬ (14 : Int) ≤ (k : Int) := by omega
        have hg2 : decide ((14 : Int) ≤ (k : Int)) = false := decide_eq_false hg1
        have hg3 : ((k : Int) == 28) = false := by rw [beq_eq_false_iff_ne]; omega
        have HS := Lib.hid (scan_low h14)
        have HR3 := Lib.hid HR2
        have HLN := Lib.hid hln
        clear HR2 hln h14
        go_wp2_with (fail)
        refine (tells_n (HR3.out wr (Fr.refl _ _)) F.out.size (RdZ.nil wr none) HLN.out rfl hkm h2 hkb (by decide) (by simp) HS.out rfl (HW.out.fr (F1.out.then F.out))).mono ?_
        rintro e w2 ⟨rfl, f2⟩
        go_wp2
        go_roundw
        case rel => exact ⟨k + 1, by omega, by go_num, F.out.then f2⟩
        case measure => simp [intOf]; omega
      · have hg1 : (14 : Int) ≤ (k : Int) := by omega
        have hg2 : decide ((14 : Int) ≤ (k : Int)) = true := decide_eq_true hg1
        by_cases h28 : k < 28
        · have hg3 : ((k : Int) == 28) = false := by rw [beq_eq_false_iff_ne]; omega
          have HS := Lib.hid (scan_mid h14 h28)
          have HR3 := Lib.hid HR2
          have HLN := Lib.hid hln
          clear HR2 hln h14 h28
          go_wp2_with (fail)
          refine (tells_not_n (HR3.out wr (Fr.refl _ _)) F.out.size HLN.out hkm h2 hkb (HW.out.fr (F1.out.then F.out)) (by rw [HS.out, len1]; decide) ⟨_, _, _, rfl⟩).mono ?_
          rintro e w2 ⟨rfl, f2⟩
          go_wp2_with (fail)
          refine (tells_n (HR3.out _ (f2.then ((Fr.refl NoB w2).alloc _))) (Nat.le_trans (F.out.then f2).size (by simp)) (RdZ.new w2 [1] _) HLN.out rfl hkm h2 hkb (by decide) (by simp [z1]) HS.out (by rw [len1]; rfl) (HW.out.fr (((F1.out.then F.out).then f2).then ((Fr.refl NoB w2).alloc _)))).mono ?_
          rintro e w3 ⟨rfl, f3⟩
          go_wp2
          go_roundw
          case rel => exact ⟨k + 1, by omega, by go_num, (F.out.then (f2.then ((Fr.refl NoB w2).alloc _))).then f3⟩
          case measure => simp [intOf]; omega
        · have hk28 : k = 28 := by omega
          have hg3 : ((k : Int) == 28) = true := by rw [hk28]; rfl
          have hsc : scan ((segB (([1, 2] : List Int).map syncD)).take k) = ([1, 2] : List Int).map syncD := by rw [hk28, List.take_of_length_le (by rw [len12]; decide)]; exact scan12
          have HS := Lib.hid hsc
          have HR3 := Lib.hid HR2
          have HLN := Lib.hid hln
          have HR4 := Lib.hid (fun W (G : Fr NoB wr W) => HR1.out.fr (F.out.then G) (Nat.le_refl _) (fun _ _ _ x => x))
          clear HR2 hln h14 h28 hk28 hsc
          go_wp2_with (fail)
          refine (tells_not_n (HR3.out wr (Fr.refl _ _)) F.out.size HLN.out hkm h2 hkb (HW.out.fr (F1.out.then F.out)) (by rw [HS.out, len12]; decide) ⟨_, _, _, rfl⟩).mono ?_
          rintro e w2 ⟨rfl, f2⟩
          go_wp2_with (fail)
          refine (tells_not_n (HR3.out _ (f2.then ((Fr.refl NoB w2).alloc _))) (Nat.le_trans (F.out.then f2).size (by simp)) HLN.out hkm h2 hkb (HW.out.fr (((F1.out.then F.out).then f2).then ((Fr.refl NoB w2).alloc _))) (by rw [HS.out, len12]; decide) ⟨_, _, _, rfl⟩).mono ?_
          rintro e w3 ⟨rfl, f3⟩
          have F3 := Lib.hid ((f2.then ((Fr.refl NoB w2).alloc (.cells #[.int .i64 1] 24))).then f3)
          clear f2 f3
          go_wp2_with (fail)
          refine (tells_n (HR4.out _ (F3.out.then ((Fr.refl NoB w3).alloc _))) (Nat.le_trans (F.out.then F3.out).size (by simp)) (RdZ.new w3 [1, 2] _) len12 rfl h1 h2 (by decide) (by decide) z12 scan12 (by rw [len12]; rfl) (HW.out.fr (((F1.out.then F.out).then F3.out).then ((Fr.refl NoB w3).alloc _)))).mono ?_
          rintro e w4 ⟨rfl, f4⟩
          go_wp2
          go_roundw
          case rel => exact ⟨k + 1, by omega, by go_num, ((F.out.then F3.out).then ((Fr.refl NoB w3).alloc _)).then f4⟩
          case measure => simp [intOf]; omega
    · have hlt2 : ¬ (k : Int) ≤ 28 := by omega
      have FR := Lib.hid (F1.out.then F.out)
      clear HR1 F1 F hlt hk h1 h2
      go_wp2_with (fail)
      refine (rows_n (RdZ.new wr [1] _) rfl (by decide) (by simp [z1]) len1 (HW.out.fr (FR.out.then ((Fr.refl NoB wr).alloc _)))).mono ?_
      rintro e w3 ⟨A3, c3, rfl, h3, h3m, ho3, -, f3⟩
      have F3 := Lib.hid ((FR.out.then ((Fr.refl NoB wr).alloc (.cells #[.int .i64 1] 24))).then f3)
      have F3b := Lib.hid (((Fr.refl NoB wr).alloc (.cells #[.int .i64 1] 24)).then f3)
      have ho0 := own_lit w3 [0] (by decide)
      have HL3 := Lib.hid (fun g (hg : (Value.slice A3 14 c3).ownBlock = some g) => (ho3.lt g hg).2)
      have HL3b := Lib.hid (show (wr.alloc (.cells (([1] : List Int).map (Value.int .i64)).toArray 24)).heap.size ≤ w3.heap.size from f3.size)
      have HO3 := Lib.hid ho3
      have HO0 := Lib.hid ho0
      clear f3 ho3 ho0
      go_wp2_with (fail)
      refine (rows_n (RdZ.new2 w3 (.cells #[.int .u8 0] 5) [2] _) rfl (by decide) (by simp [z2]) (by decide : (segB ([2].map syncD)).length = 14) (HW.out.fr ((F3.out.then ((Fr.refl NoB w3).alloc _)).then ((Fr.refl NoB _).alloc _)))).mono ?_
      rintro e w4 ⟨A4, c4, rfl, h4, h4m, -, hr4, f4⟩
      have g4 := ((Fr.refl NoB (w3.alloc (.cells #[.int .u8 0] 5))).alloc (.cells #[.int .i64 2] 24)).then f4
      have ho0 := own_keep HO0.out (fun g hg => g4.block g (HO0.out.lt g hg).2 (fun x => x))
      have F34 := Lib.hid (((Fr.refl NoB w3).alloc (.cells #[.int .u8 0] 5)).then g4)
      have ho3 := own_keep HO3.out (fun g hg => F34.out.block g (HO3.out.lt g hg).2 (fun x => x))
      have hsb2 : (bv (segB ([2].map syncD))).length = 14 * 1 := by rw [bv_length]; decide
      have hl2 : (segB (([2] : List Int).map syncD)).length = 14 := by decide
      have hw34 : w3.heap.size ≤ w4.heap.size := F34.out.size
      have hrs : 0 < 14 → ∃ ad, A4 = some ad ∧ ∀ j u, (bv (segB ([2].map syncD)))[j]? = some u → w4.cell? (ad.add j) = some u := fun _ => hr4.srcs (by rw [hl2]; decide)
      clear f4 g4 HO3 HO0 hr4
      simp only [List.length_singleton, bv_cons, bv_nil, UInt8.toNat_zero] at ho0
      go_wp2_with (first | (at_builtin; refine wpList_append_src _ rfl _ _ 22 rfl w3.heap.size 5 i0 (.int .u8 0) 1 1 Tryd.underlying22 hi0 hz0 hz1 hz2 rfl (by decide) (.slice (some ⟨w3.heap.size, 0, none⟩) 1 1) 1 _ rfl ho0 A4 14 c4 (bv (segB ([2].map syncD))) rfl hsb2 hrs (bv_one _) (by decide) (by decide) hw34 ?_) | fail)
      intro v5 w5 hA5
      have ho3' := own_keep ho3 (fun g hg => hA5.fr.block g (ho3.lt g hg).2 (fun hx => by
        have h1 : w3.heap.size = g := by simpa [Value.ownBlock] using hx
        have := HL3.out g hg
        omega))
      have ho5 : w5.ownsRow w3.heap.size 5 1 v5 bz2.length (bv bz2) := by
        rw [bz2_len]
        exact hA5.own
      have F35 := Lib.hid (F34.out.upE hA5.fr (fun k hk => by (have h1 : w3.heap.size = k := (by simpa [Value.ownBlock] using hk)); omega))
      obtain ⟨A5, c5, rfl, -, -⟩ := own_form ho5
      have hr5 := own_rd ho5
      rw [bz2_len]
      have hsb5 : (bv bz2).length = 15 * 1 := by rw [bv_length, bz2_len]
      have hrs5 : 0 < 15 → ∃ ad, A5 = some ad ∧ ∀ j u, (bv bz2)[j]? = some u → w5.cell? (ad.add j) = some u := fun _ => hr5.srcs (by rw [bz2_len]; decide)
      have hbw : (wr.alloc (.cells (([1] : List Int).map (Value.int .i64)).toArray 24)).heap.size ≤ w5.heap.size := by have := HL3b.out; exact Nat.le_trans this F35.out.size
      clear hA5 hr5 ho5 ho0 hsb2 hrs hl2 hw34 ho3
      go_wp2_with (first | (at_builtin; refine wpList_append_src _ rfl _ _ 22 rfl (wr.alloc (.cells (([1] : List Int).map (Value.int .i64)).toArray 24)).heap.size 5 i0 (.int .u8 0) 1 1 Tryd.underlying22 hi0 hz0 hz1 hz2 rfl (by decide) (.slice A3 14 c3) 14 _ rfl ho3' A5 15 c5 (bv bz2) rfl hsb5 hrs5 (bv_one _) (by decide) (by decide) hbw ?_) | fail)
      intro v6 w6 hA6
      have ho6 : w6.ownsRow (wr.heap.size + 1) 5 1 v6 bBT.length (bv bBT) := by
        rw [bBT_len]; show w6.ownsRow _ _ _ _ _ (bv (_ ++ _)); rw [bv_append]
        exact hA6.own
      have F36 := Lib.hid ((F3b.out.then F35.out).trans hA6.fr (fun k hk hx => absurd hk (by have := FR.out.size; have h1 := (ho3'.lt k hx).1; rw [World.size_alloc] at h1; omega)))
      obtain ⟨A6, c6, rfl, hc6, hc6m⟩ := own_form ho6
      have hr6 := own_rd ho6
      rw [bBT_len] at hc6 ⊢
      have HR6 := Lib.hid hr6
      have FR6 := Lib.hid (FR.out.then F36.out)
      clear hA6 hr6 ho6 ho3' hsb5 hrs5 hbw F34 F35 F3 HL3 HL3b FR h3 h3m h4 h4m
      go_wp2_with (fail)
      refine wp_region_post (fun a a' W' => ∃ x39 x40 x41 x42 x43 x44 A8 c8, a' = { tmps := (((((((a.tmps.setIfInBounds 39 x39).setIfInBounds 40 x40).setIfInBounds 41 x41).setIfInBounds 42 x42).setIfInBounds 43 x43).setIfInBounds 44 x44).setIfInBounds 45 (.slice A8 36 c8)).setIfInBounds 5 (.slice A8 36 c8), defers := a.defers } ∧ 36 ≤ c8 ∧ c8 ≤ maxLen ∧ Rd W' w6.heap.size W'.heap.size A8 bNN ∧ Fr NoB w6 W') ?_ ?_
      · refine wp_region_any (by kernel_rfl) (wpAny_of_J (S := fun _ _ => True) _ _ _ _ ?_)
        show wpAnyJ _ _ _ _ _ _ _ _ w6.drew
        have q0 : Fr NoB w6 w6.drew := (Fr.refl NoB w6).drew
        generalize w6.drew = X0 at q0 ⊢
        simp only [List.size_toArray, List.length_cons, List.length_nil, Nat.reduceAdd]
        refine J_all (rs := [0, 2, 3]) (by kernel_rfl) (by simp) (fun i hi => ?_)
        simp only [List.mem_cons, List.not_mem_nil, or_false] at hi
        rcases hi with rfl | rfl | rfl
        · refine J_oneH (by simp only [List.getElem?_toArray, List.getElem?_cons_zero]; rfl) rfl (fun K hK => ?_)
          go_simp
          obtain ⟨X1, e1⟩ : ∃ X1, World.alloc X0 (.cells #[.int .i64 1] 24) = X1 := ⟨_, rfl⟩
          obtain ⟨B1, b1⟩ : ∃ B1, X0.heap.size = B1 := ⟨_, rfl⟩
          have f1 : Fr NoB X0 X1 := by rw [← e1]; exact (Fr.refl NoB _).alloc _
          have z39_1 : RdZ X1 (some ⟨B1, 0, none⟩) [1] := by rw [← e1, ← b1]; exact RdZ.new _ [1] _
          rw [e1, b1]
          clear e1 b1
          have q1 := q0.then f1
          try simp only [Act.put, List.setIfInBounds_toArray, List.set_cons_zero, List.set_cons_succ]
          refine hK.out _ _ ⟨trivial, ?_⟩
          refine J_all (rs := [1, 2, 3]) (by kernel_rfl) (by simp) (fun i hi => ?_)
          simp only [List.mem_cons, List.not_mem_nil, or_false] at hi
          rcases hi with rfl | rfl | rfl
          · refine J_oneH (by simp only [List.getElem?_toArray, List.getElem?_cons_succ, List.getElem?_cons_zero]; rfl) rfl (fun K hK => ?_)
            go_simp
            refine (rows_n z39_1 rfl (by decide) (by simp [z1]) len1 (HW.out.fr ((FR6.out).then q1))).mono ?_
            rintro e X2 ⟨A40, c40, rfl, k40, k40m, o40_2, -, f2⟩
            have o40b_2 : w6.heap.size ≤ X1.heap.size := q1.size
            have z39_2 := z39_1.fr f2
            have q2 := q1.then f2
            try dsimp only
            refine hK.out _ _ ⟨trivial, ?_⟩
            refine J_all (rs := [2, 3]) (by kernel_rfl) (by simp) (fun i hi => ?_)
            simp only [List.mem_cons, List.not_mem_nil, or_false] at hi
            rcases hi with rfl | rfl
            · refine J_oneH (by simp only [List.getElem?_toArray, List.getElem?_cons_succ, List.getElem?_cons_zero]; rfl) rfl (fun K hK => ?_)
              go_simp
              obtain ⟨X3, e3⟩ : ∃ X3, World.alloc X2 (.cells M8 5) = X3 := ⟨_, rfl⟩
              obtain ⟨B3, b3⟩ : ∃ B3, X2.heap.size = B3 := ⟨_, rfl⟩
              have f3 : Fr NoB X2 X3 := by rw [← e3]; exact (Fr.refl NoB _).alloc _
              have m41_3 : X3.ownsRow B3 5 1 (.slice (some ⟨B3, 0, none⟩) 8 8) 8 (bv (List.replicate 8 0)) := by rw [← e3, ← b3]; exact HM8.out _
              have m41b_3 : w6.heap.size ≤ B3 := by rw [← b3]; exact q2.size
              have hap : ∀ g, Value.ownBlock (.slice A40 14 c40) = some g → ¬ g = B3 := fun g hg => by have := (o40_2.lt g hg).2; omega
              rw [e3, b3]
              clear e3 b3
              have z39_3 := z39_2.fr f3
              have o40_3 := own_keep o40_2 (fun g hg => f3.block g (o40_2.lt g hg).2 (fun x => x))
              have q3 := q2.then f3
              try simp only [Act.put, List.setIfInBounds_toArray, List.set_cons_zero, List.set_cons_succ]
              refine hK.out _ _ ⟨trivial, ?_⟩
              refine J_all (rs := [3]) (by kernel_rfl) (by simp) (fun i hi => ?_)
              obtain rfl := List.mem_singleton.1 hi
              · refine J_oneH (by simp only [List.getElem?_toArray, List.getElem?_cons_succ, List.getElem?_cons_zero]; rfl) rfl (fun K hK => ?_)
                go_simp
                obtain ⟨X4, e4⟩ : ∃ X4, World.alloc X3 (.cells #[.int .i64 2] 24) = X4 := ⟨_, rfl⟩
                obtain ⟨B4, b4⟩ : ∃ B4, X3.heap.size = B4 := ⟨_, rfl⟩
                have f4 : Fr NoB X3 X4 := by rw [← e4]; exact (Fr.refl NoB _).alloc _
                have z42_4 : RdZ X4 (some ⟨B4, 0, none⟩) [2] := by rw [← e4, ← b4]; exact RdZ.new _ [2] _
                rw [e4, b4]
                clear e4 b4
                have z39_4 := z39_3.fr f4
                have o40_4 := own_keep o40_3 (fun g hg => f4.block g (o40_3.lt g hg).2 (fun x => x))
                have m41_4 := own_keep m41_3 (fun g hg => f4.block g (m41_3.lt g hg).2 (fun x => x))
                have q4 := q3.then f4
                try simp only [Act.put, List.setIfInBounds_toArray, List.set_cons_zero, List.set_cons_succ]
                refine hK.out _ _ ⟨trivial, ?_⟩
                refine J_all (rs := [4]) (by kernel_rfl) (by simp) (fun i hi => ?_)
                obtain rfl := List.mem_singleton.1 hi
                · refine J_oneH (by simp only [List.getElem?_toArray, List.getElem?_cons_succ, List.getElem?_cons_zero]; rfl) rfl (fun K hK => ?_)
                  go_simp
                  refine (rows_n z42_4 rfl (by decide) (by simp [z2]) (by decide : (segB ([2].map syncD)).length = 14) (HW.out.fr ((FR6.out).then q4))).mono ?_
                  rintro e X5 ⟨A43, c43, rfl, k43, k43m, -, r43_5, f5⟩
                  have z39_5 := z39_4.fr f5
                  have z42_5 := z42_4.fr f5
                  have o40_5 := own_keep o40_4 (fun g hg => f5.block g (o40_4.lt g hg).2 (fun x => x))
                  have m41_5 := own_keep m41_4 (fun g hg => f5.block g (m41_4.lt g hg).2 (fun x => x))
                  have q5 := q4.then f5
                  try dsimp only
                  refine hK.out _ _ ⟨trivial, ?_⟩
                  refine J_all (rs := [5]) (by kernel_rfl) (by simp) (fun i hi => ?_)
                  obtain rfl := List.mem_singleton.1 hi
                  · refine J_oneH (by simp only [List.getElem?_toArray, List.getElem?_cons_succ, List.getElem?_cons_zero]; rfl) rfl (fun K hK => ?_)
                    refine wp_append_src X5 (.tmp 41) (.tmp 43) 22 rfl B3 5 i0 (.int .u8 0) 1 1 Tryd.underlying22 hi0 hz0 hz1 hz2 rfl (by decide) (.slice (some ⟨B3, 0, none⟩) 8 8) 8 _ rfl m41_5 A43 14 c43 (bv (segB (([2] : List Int).map syncD))) rfl (by rw [bv_length]; decide) (fun _ => r43_5.srcs (by decide)) (bv_one _) (by decide) (by decide) (Nat.le_of_lt (lt_of_own m41_5)) ?_
                    intro v44 X6 h6
                    have o44 : X6.ownsRow B3 5 1 v44 bz8.length (bv bz8) := by rw [bz8_len]; show X6.ownsRow _ _ _ _ _ (bv (_ ++ _)); rw [bv_append]; exact h6.own
                    have o40_6 := own_keep o40_5 (fun g hg => h6.fr.block g (o40_5.lt g hg).2 (fun hx => hap g hg (by simpa [Value.ownBlock] using hx.symm)))
                    have q6 := q5.upE h6.fr (fun g hg => by (have h1 : B3 = g := (by simpa [Value.ownBlock] using hg)); have := m41b_3; omega)
                    obtain ⟨A44, c44, rfl, -, -⟩ := own_form o44
                    have r44 := own_rd o44
                    rw [bz8_len]
                    try simp only [Act.put, List.setIfInBounds_toArray, List.set_cons_zero, List.set_cons_succ]
                    refine hK.out _ _ ⟨trivial, ?_⟩
                    refine J_all (rs := [6]) (by kernel_rfl) (by simp) (fun i hi => ?_)
                    obtain rfl := List.mem_singleton.1 hi
                    · refine J_oneH (by simp only [List.getElem?_toArray, List.getElem?_cons_succ, List.getElem?_cons_zero]; rfl) rfl (fun K hK => ?_)
                      refine wp_append_src X6 (.tmp 40) (.tmp 44) 22 rfl _ 5 i0 (.int .u8 0) 1 1 Tryd.underlying22 hi0 hz0 hz1 hz2 rfl (by decide) (.slice A40 14 c40) 14 _ rfl o40_6 A44 22 c44 (bv bz8) rfl (by rw [bv_length, bz8_len]) (fun _ => r44.srcs (by rw [bz8_len]; decide)) (bv_one _) (by decide) (by decide) (by have := q6.size; have := (o40_6); first | exact own_base_le this (by decide) | omega) ?_
                      intro v45 X7 h7
                      have q7 := q6.upE h7.fr (fun g hg => by have := (o40_6.lt g hg).1; have := o40b_2; omega)
                      have o45 := h7.own
                      have o46 : X7.ownsRow w6.heap.size 5 1 v45 bNN.length (bv bNN) := by rw [bNN_len]; show X7.ownsRow _ _ _ _ _ (bv (_ ++ _)); rw [bv_append]; exact own_lowx o45 o40b_2
                      obtain ⟨A45, c45, rfl, k45, k45m⟩ := own_form o46
                      have r45 := own_rd o46
                      rw [bNN_len] at k45 ⊢
                      try simp only [Act.put, List.setIfInBounds_toArray, List.set_cons_zero, List.set_cons_succ]
                      refine hK.out _ _ ⟨trivial, ?_⟩
                      refine J_all (rs := [7]) (by kernel_rfl) (by simp) (fun i hi => ?_)
                      obtain rfl := List.mem_singleton.1 hi
                      · refine J_oneH (by simp only [List.getElem?_toArray, List.getElem?_cons_succ, List.getElem?_cons_zero]; rfl) rfl (fun K hK => ?_)
                        go_simp
                        try simp only [List.setIfInBounds_toArray, List.set_cons_zero, List.set_cons_succ]
                        refine hK.out _ _ ⟨trivial, ?_⟩
                        try simp only [List.setIfInBounds_toArray, List.set_cons_zero, List.set_cons_succ]
                        refine J_done (by kernel_rfl) ?_
                        exact ⟨_, _, _, _, _, _, _, _, rfl, k45, k45m, r45, q7⟩
            · refine J_oneH (by simp only [List.getElem?_toArray, List.getElem?_cons_succ, List.getElem?_cons_zero]; rfl) rfl (fun K hK => ?_)
              go_simp
              obtain ⟨X3, e3⟩ : ∃ X3, World.alloc X2 (.cells #[.int .i64 2] 24) = X3 := ⟨_, rfl⟩
              obtain ⟨B3, b3⟩ : ∃ B3, X2.heap.size = B3 := ⟨_, rfl⟩
              have f3 : Fr NoB X2 X3 := by rw [← e3]; exact (Fr.refl NoB _).alloc _
              have z42_3 : RdZ X3 (some ⟨B3, 0, none⟩) [2] := by rw [← e3, ← b3]; exact RdZ.new _ [2] _
              rw [e3, b3]
              clear e3 b3
              have z39_3 := z39_2.fr f3
              have o40_3 := own_keep o40_2 (fun g hg => f3.block g (o40_2.lt g hg).2 (fun x => x))
              have q3 := q2.then f3
              try simp only [Act.put, List.setIfInBounds_toArray, List.set_cons_zero, List.set_cons_succ]
              refine hK.out _ _ ⟨trivial, ?_⟩
              refine J_all (rs := [2, 4]) (by kernel_rfl) (by simp) (fun i hi => ?_)
              simp only [List.mem_cons, List.not_mem_nil, or_false] at hi
              rcases hi with rfl | rfl
              · refine J_oneH (by simp only [List.getElem?_toArray, List.getElem?_cons_succ, List.getElem?_cons_zero]; rfl) rfl (fun K hK => ?_)
                go_simp
                obtain ⟨X4, e4⟩ : ∃ X4, World.alloc X3 (.cells M8 5) = X4 := ⟨_, rfl⟩
                obtain ⟨B4, b4⟩ : ∃ B4, X3.heap.size = B4 := ⟨_, rfl⟩
                have f4 : Fr NoB X3 X4 := by rw [← e4]; exact (Fr.refl NoB _).alloc _
                have m41_4 : X4.ownsRow B4 5 1 (.slice (some ⟨B4, 0, none⟩) 8 8) 8 (bv (List.replicate 8 0)) := by rw [← e4, ← b4]; exact HM8.out _
                have m41b_4 : w6.heap.size ≤ B4 := by rw [← b4]; exact q3.size
                have hap : ∀ g, Value.ownBlock (.slice A40 14 c40) = some g → ¬ g = B4 := fun g hg => by have := (o40_3.lt g hg).2; omega
                rw [e4, b4]
                clear e4 b4
                have z39_4 := z39_3.fr f4
                have z42_4 := z42_3.fr f4
                have o40_4 := own_keep o40_3 (fun g hg => f4.block g (o40_3.lt g hg).2 (fun x => x))
                have q4 := q3.then f4
                try simp only [Act.put, List.setIfInBounds_toArray, List.set_cons_zero, List.set_cons_succ]
                refine hK.out _ _ ⟨trivial, ?_⟩
                refine J_all (rs := [4]) (by kernel_rfl) (by simp) (fun i hi => ?_)
                obtain rfl := List.mem_singleton.1 hi
                · refine J_oneH (by simp only [List.getElem?_toArray, List.getElem?_cons_succ, List.getElem?_cons_zero]; rfl) rfl (fun K hK => ?_)
                  go_simp
                  refine (rows_n z42_4 rfl (by decide) (by simp [z2]) (by decide : (segB ([2].map syncD)).length = 14) (HW.out.fr ((FR6.out).then q4))).mono ?_
                  rintro e X5 ⟨A43, c43, rfl, k43, k43m, -, r43_5, f5⟩
                  have z39_5 := z39_4.fr f5
                  have z42_5 := z42_4.fr f5
                  have o40_5 := own_keep o40_4 (fun g hg => f5.block g (o40_4.lt g hg).2 (fun x => x))
                  have m41_5 := own_keep m41_4 (fun g hg => f5.block g (m41_4.lt g hg).2 (fun x => x))
                  have q5 := q4.then f5
                  try dsimp only
                  refine hK.out _ _ ⟨trivial, ?_⟩
                  refine J_all (rs := [5]) (by kernel_rfl) (by simp) (fun i hi => ?_)
                  obtain rfl := List.mem_singleton.1 hi
                  · refine J_oneH (by simp only [List.getElem?_toArray, List.getElem?_cons_succ, List.getElem?_cons_zero]; rfl) rfl (fun K hK => ?_)
                    refine wp_append_src X5 (.tmp 41) (.tmp 43) 22 rfl B4 5 i0 (.int .u8 0) 1 1 Tryd.underlying22 hi0 hz0 hz1 hz2 rfl (by decide) (.slice (some ⟨B4, 0, none⟩) 8 8) 8 _ rfl m41_5 A43 14 c43 (bv (segB (([2] : List Int).map syncD))) rfl (by rw [bv_length]; decide) (fun _ => r43_5.srcs (by decide)) (bv_one _) (by decide) (by decide) (Nat.le_of_lt (lt_of_own m41_5)) ?_
                    intro v44 X6 h6
                    have o44 : X6.ownsRow B4 5 1 v44 bz8.length (bv bz8) := by rw [bz8_len]; show X6.ownsRow _ _ _ _ _ (bv (_ ++ _)); rw [bv_append]; exact h6.own
                    have o40_6 := own_keep o40_5 (fun g hg => h6.fr.block g (o40_5.lt g hg).2 (fun hx => hap g hg (by simpa [Value.ownBlock] using hx.symm)))
                    have q6 := q5.upE h6.fr (fun g hg => by (have h1 : B4 = g := (by simpa [Value.ownBlock] using hg)); have := m41b_4; omega)
                    obtain ⟨A44, c44, rfl, -, -⟩ := own_form o44
                    have r44 := own_rd o44
                    rw [bz8_len]
                    try simp only [Act.put, List.setIfInBounds_toArray, List.set_cons_zero, List.set_cons_succ]
                    refine hK.out _ _ ⟨trivial, ?_⟩
                    refine J_all (rs := [6]) (by kernel_rfl) (by simp) (fun i hi => ?_)
                    obtain rfl := List.mem_singleton.1 hi
                    · refine J_oneH (by simp only [List.getElem?_toArray, List.getElem?_cons_succ, List.getElem?_cons_zero]; rfl) rfl (fun K hK => ?_)
                      refine wp_append_src X6 (.tmp 40) (.tmp 44) 22 rfl _ 5 i0 (.int .u8 0) 1 1 Tryd.underlying22 hi0 hz0 hz1 hz2 rfl (by decide) (.slice A40 14 c40) 14 _ rfl o40_6 A44 22 c44 (bv bz8) rfl (by rw [bv_length, bz8_len]) (fun _ => r44.srcs (by rw [bz8_len]; decide)) (bv_one _) (by decide) (by decide) (by have := q6.size; have := (o40_6); first | exact own_base_le this (by decide) | omega) ?_
                      intro v45 X7 h7
                      have q7 := q6.upE h7.fr (fun g hg => by have := (o40_6.lt g hg).1; have := o40b_2; omega)
                      have o45 := h7.own
                      have o46 : X7.ownsRow w6.heap.size 5 1 v45 bNN.length (bv bNN) := by rw [bNN_len]; show X7.ownsRow _ _ _ _ _ (bv (_ ++ _)); rw [bv_append]; exact own_lowx o45 o40b_2
                      obtain ⟨A45, c45, rfl, k45, k45m⟩ := own_form o46
                      have r45 := own_rd o46
                      rw [bNN_len] at k45 ⊢
                      try simp only [Act.put, List.setIfInBounds_toArray, List.set_cons_zero, List.set_cons_succ]
                      refine hK.out _ _ ⟨trivial, ?_⟩
                      refine J_all (rs := [7]) (by kernel_rfl) (by simp) (fun i hi => ?_)
                      obtain rfl := List.mem_singleton.1 hi
                      · refine J_oneH (by simp only [List.getElem?_toArray, List.getElem?_cons_succ, List.getElem?_cons_zero]; rfl) rfl (fun K hK => ?_)
                        go_simp
                        try simp only [List.setIfInBounds_toArray, List.set_cons_zero, List.set_cons_succ]
                        refine hK.out _ _ ⟨trivial, ?_⟩
                        try simp only [List.setIfInBounds_toArray, List.set_cons_zero, List.set_cons_succ]
                        refine J_done (by kernel_rfl) ?_
                        exact ⟨_, _, _, _, _, _, _, _, rfl, k45, k45m, r45, q7⟩
              · refine J_oneH (by simp only [List.getElem?_toArray, List.getElem?_cons_succ, List.getElem?_cons_zero]; rfl) rfl (fun K hK => ?_)
                go_simp
                refine (rows_n z42_3 rfl (by decide) (by simp [z2]) (by decide : (segB ([2].map syncD)).length = 14) (HW.out.fr ((FR6.out).then q3))).mono ?_
                rintro e X4 ⟨A43, c43, rfl, k43, k43m, -, r43_4, f4⟩
                have z39_4 := z39_3.fr f4
                have z42_4 := z42_3.fr f4
                have o40_4 := own_keep o40_3 (fun g hg => f4.block g (o40_3.lt g hg).2 (fun x => x))
                have q4 := q3.then f4
                try dsimp only
                refine hK.out _ _ ⟨trivial, ?_⟩
                refine J_all (rs := [2]) (by kernel_rfl) (by simp) (fun i hi => ?_)
                obtain rfl := List.mem_singleton.1 hi
                · refine J_oneH (by simp only [List.getElem?_toArray, List.getElem?_cons_succ, List.getElem?_cons_zero]; rfl) rfl (fun K hK => ?_)
                  go_simp
                  obtain ⟨X5, e5⟩ : ∃ X5, World.alloc X4 (.cells M8 5) = X5 := ⟨_, rfl⟩
                  obtain ⟨B5, b5⟩ : ∃ B5, X4.heap.size = B5 := ⟨_, rfl⟩
                  have f5 : Fr NoB X4 X5 := by rw [← e5]; exact (Fr.refl NoB _).alloc _
                  have m41_5 : X5.ownsRow B5 5 1 (.slice (some ⟨B5, 0, none⟩) 8 8) 8 (bv (List.replicate 8 0)) := by rw [← e5, ← b5]; exact HM8.out _
                  have m41b_5 : w6.heap.size ≤ B5 := by rw [← b5]; exact q4.size
                  have hap : ∀ g, Value.ownBlock (.slice A40 14 c40) = some g → ¬ g = B5 := fun g hg => by have := (o40_4.lt g hg).2; omega
                  rw [e5, b5]
                  clear e5 b5
                  have z39_5 := z39_4.fr f5
                  have z42_5 := z42_4.fr f5
                  have o40_5 := own_keep o40_4 (fun g hg => f5.block g (o40_4.lt g hg).2 (fun x => x))
                  have r43_5 := r43_4.fr f5 (Nat.le_refl _) (fun _ _ _ x => x)
                  have q5 := q4.then f5
                  try simp only [Act.put, List.setIfInBounds_toArray, List.set_cons_zero, List.set_cons_succ]
                  refine hK.out _ _ ⟨trivial, ?_⟩
                  refine J_all (rs := [5]) (by kernel_rfl) (by simp) (fun i hi => ?_)
                  obtain rfl := List.mem_singleton.1 hi
                  · refine J_oneH (by simp only [List.getElem?_toArray, List.getElem?_cons_succ, List.getElem?_cons_zero]; rfl) rfl (fun K hK => ?_)
                    refine wp_append_src X5 (.tmp 41) (.tmp 43) 22 rfl B5 5 i0 (.int .u8 0) 1 1 Tryd.underlying22 hi0 hz0 hz1 hz2 rfl (by decide) (.slice (some ⟨B5, 0, none⟩) 8 8) 8 _ rfl m41_5 A43 14 c43 (bv (segB (([2] : List Int).map syncD))) rfl (by rw [bv_length]; decide) (fun _ => r43_5.srcs (by decide)) (bv_one _) (by decide) (by decide) (Nat.le_of_lt (lt_of_own m41_5)) ?_
                    intro v44 X6 h6
                    have o44 : X6.ownsRow B5 5 1 v44 bz8.length (bv bz8) := by rw [bz8_len]; show X6.ownsRow _ _ _ _ _ (bv (_ ++ _)); rw [bv_append]; exact h6.own
                    have o40_6 := own_keep o40_5 (fun g hg => h6.fr.block g (o40_5.lt g hg).2 (fun hx => hap g hg (by simpa [Value.ownBlock] using hx.symm)))
                    have q6 := q5.upE h6.fr (fun g hg => by (have h1 : B5 = g := (by simpa [Value.ownBlock] using hg)); have := m41b_5; omega)
                    obtain ⟨A44, c44, rfl, -, -⟩ := own_form o44
                    have r44 := own_rd o44
                    rw [bz8_len]
                    try simp only [Act.put, List.setIfInBounds_toArray, List.set_cons_zero, List.set_cons_succ]
                    refine hK.out _ _ ⟨trivial, ?_⟩
                    refine J_all (rs := [6]) (by kernel_rfl) (by simp) (fun i hi => ?_)
                    obtain rfl := List.mem_singleton.1 hi
                    · refine J_oneH (by simp only [List.getElem?_toArray, List.getElem?_cons_succ, List.getElem?_cons_zero]; rfl) rfl (fun K hK => ?_)
                      refine wp_append_src X6 (.tmp 40) (.tmp 44) 22 rfl _ 5 i0 (.int .u8 0) 1 1 Tryd.underlying22 hi0 hz0 hz1 hz2 rfl (by decide) (.slice A40 14 c40) 14 _ rfl o40_6 A44 22 c44 (bv bz8) rfl (by rw [bv_length, bz8_len]) (fun _ => r44.srcs (by rw [bz8_len]; decide)) (bv_one _) (by decide) (by decide) (by have := q6.size; have := (o40_6); first | exact own_base_le this (by decide) | omega) ?_
                      intro v45 X7 h7
                      have q7 := q6.upE h7.fr (fun g hg => by have := (o40_6.lt g hg).1; have := o40b_2; omega)
                      have o45 := h7.own
                      have o46 : X7.ownsRow w6.heap.size 5 1 v45 bNN.length (bv bNN) := by rw [bNN_len]; show X7.ownsRow _ _ _ _ _ (bv (_ ++ _)); rw [bv_append]; exact own_lowx o45 o40b_2
                      obtain ⟨A45, c45, rfl, k45, k45m⟩ := own_form o46
                      have r45 := own_rd o46
                      rw [bNN_len] at k45 ⊢
                      try simp only [Act.put, List.setIfInBounds_toArray, List.set_cons_zero, List.set_cons_succ]
                      refine hK.out _ _ ⟨trivial, ?_⟩
                      refine J_all (rs := [7]) (by kernel_rfl) (by simp) (fun i hi => ?_)
                      obtain rfl := List.mem_singleton.1 hi
                      · refine J_oneH (by simp only [List.getElem?_toArray, List.getElem?_cons_succ, List.getElem?_cons_zero]; rfl) rfl (fun K hK => ?_)
                        go_simp
                        try simp only [List.setIfInBounds_toArray, List.set_cons_zero, List.set_cons_succ]
                        refine hK.out _ _ ⟨trivial, ?_⟩
                        try simp only [List.setIfInBounds_toArray, List.set_cons_zero, List.set_cons_succ]
                        refine J_done (by kernel_rfl) ?_
                        exact ⟨_, _, _, _, _, _, _, _, rfl, k45, k45m, r45, q7⟩
          · refine J_oneH (by simp only [List.getElem?_toArray, List.getElem?_cons_succ, List.getElem?_cons_zero]; rfl) rfl (fun K hK => ?_)
            go_simp
            obtain ⟨X2, e2⟩ : ∃ X2, World.alloc X1 (.cells M8 5) = X2 := ⟨_, rfl⟩
            obtain ⟨B2, b2⟩ : ∃ B2, X1.heap.size = B2 := ⟨_, rfl⟩
            have f2 : Fr NoB X1 X2 := by rw [← e2]; exact (Fr.refl NoB _).alloc _
            have m41_2 : X2.ownsRow B2 5 1 (.slice (some ⟨B2, 0, none⟩) 8 8) 8 (bv (List.replicate 8 0)) := by rw [← e2, ← b2]; exact HM8.out _
            have m41b_2 : w6.heap.size ≤ B2 := by rw [← b2]; exact q1.size
            rw [e2, b2]
            clear e2 b2
            have z39_2 := z39_1.fr f2
            have q2 := q1.then f2
            try simp only [Act.put, List.setIfInBounds_toArray, List.set_cons_zero, List.set_cons_succ]
            refine hK.out _ _ ⟨trivial, ?_⟩
            refine J_all (rs := [1, 3]) (by kernel_rfl) (by simp) (fun i hi => ?_)
            simp only [List.mem_cons, List.not_mem_nil, or_false] at hi
            rcases hi with rfl | rfl
            · refine J_oneH (by simp only [List.getElem?_toArray, List.getElem?_cons_succ, List.getElem?_cons_zero]; rfl) rfl (fun K hK => ?_)
              go_simp
              refine (rows_n z39_2 rfl (by decide) (by simp [z1]) len1 (HW.out.fr ((FR6.out).then q2))).mono ?_
              rintro e X3 ⟨A40, c40, rfl, k40, k40m, o40_3, -, f3⟩
              have hap : ∀ g, Value.ownBlock (.slice A40 14 c40) = some g → ¬ g = B2 := fun g hg => by have := (o40_3.lt g hg).1; have := lt_of_own m41_2; omega
              have o40b_3 : w6.heap.size ≤ X2.heap.size := q2.size
              have z39_3 := z39_2.fr f3
              have m41_3 := own_keep m41_2 (fun g hg => f3.block g (m41_2.lt g hg).2 (fun x => x))
              have q3 := q2.then f3
              try dsimp only
              refine hK.out _ _ ⟨trivial, ?_⟩
              refine J_all (rs := [3]) (by kernel_rfl) (by simp) (fun i hi => ?_)
              obtain rfl := List.mem_singleton.1 hi
              · refine J_oneH (by simp only [List.getElem?_toArray, List.getElem?_cons_succ, List.getElem?_cons_zero]; rfl) rfl (fun K hK => ?_)
                go_simp
                obtain ⟨X4, e4⟩ : ∃ X4, World.alloc X3 (.cells #[.int .i64 2] 24) = X4 := ⟨_, rfl⟩
                obtain ⟨B4, b4⟩ : ∃ B4, X3.heap.size = B4 := ⟨_, rfl⟩
                have f4 : Fr NoB X3 X4 := by rw [← e4]; exact (Fr.refl NoB _).alloc _
                have z42_4 : RdZ X4 (some ⟨B4, 0, none⟩) [2] := by rw [← e4, ← b4]; exact RdZ.new _ [2] _
                rw [e4, b4]
                clear e4 b4
                have z39_4 := z39_3.fr f4
                have o40_4 := own_keep o40_3 (fun g hg => f4.block g (o40_3.lt g hg).2 (fun x => x))
                have m41_4 := own_keep m41_3 (fun g hg => f4.block g (m41_3.lt g hg).2 (fun x => x))
                have q4 := q3.then f4
                try simp only [Act.put, List.setIfInBounds_toArray, List.set_cons_zero, List.set_cons_succ]
                refine hK.out _ _ ⟨trivial, ?_⟩
                refine J_all (rs := [4]) (by kernel_rfl) (by simp) (fun i hi => ?_)
                obtain rfl := List.mem_singleton.1 hi
                · refine J_oneH (by simp only [List.getElem?_toArray, List.getElem?_cons_succ, List.getElem?_cons_zero]; rfl) rfl (fun K hK => ?_)
                  go_simp
                  refine (rows_n z42_4 rfl (by decide) (by simp [z2]) (by decide : (segB ([2].map syncD)).length = 14) (HW.out.fr ((FR6.out).then q4))).mono ?_
                  rintro e X5 ⟨A43, c43, rfl, k43, k43m, -, r43_5, f5⟩
                  have z39_5 := z39_4.fr f5
                  have z42_5 := z42_4.fr f5
                  have o40_5 := own_keep o40_4 (fun g hg => f5.block g (o40_4.lt g hg).2 (fun x => x))
                  have m41_5 := own_keep m41_4 (fun g hg => f5.block g (m41_4.lt g hg).2 (fun x => x))
                  have q5 := q4.then f5
                  try dsimp only
                  refine hK.out _ _ ⟨trivial, ?_⟩
                  refine J_all (rs := [5]) (by kernel_rfl) (by simp) (fun i hi => ?_)
                  obtain rfl := List.mem_singleton.1 hi
                  · refine J_oneH (by simp only [List.getElem?_toArray, List.getElem?_cons_succ, List.getElem?_cons_zero]; rfl) rfl (fun K hK => ?_)
                    refine wp_append_src X5 (.tmp 41) (.tmp 43) 22 rfl B2 5 i0 (.int .u8 0) 1 1 Tryd.underlying22 hi0 hz0 hz1 hz2 rfl (by decide) (.slice (some ⟨B2, 0, none⟩) 8 8) 8 _ rfl m41_5 A43 14 c43 (bv (segB (([2] : List Int).map syncD))) rfl (by rw [bv_length]; decide) (fun _ => r43_5.srcs (by decide)) (bv_one _) (by decide) (by decide) (Nat.le_of_lt (lt_of_own m41_5)) ?_
                    intro v44 X6 h6
                    have o44 : X6.ownsRow B2 5 1 v44 bz8.length (bv bz8) := by rw [bz8_len]; show X6.ownsRow _ _ _ _ _ (bv (_ ++ _)); rw [bv_append]; exact h6.own
                    have o40_6 := own_keep o40_5 (fun g hg => h6.fr.block g (o40_5.lt g hg).2 (fun hx => hap g hg (by simpa [Value.ownBlock] using hx.symm)))
                    have q6 := q5.upE h6.fr (fun g hg => by (have h1 : B2 = g := (by simpa [Value.ownBlock] using hg)); have := m41b_2; omega)
                    obtain ⟨A44, c44, rfl, -, -⟩ := own_form o44
                    have r44 := own_rd o44
                    rw [bz8_len]
                    try simp only [Act.put, List.setIfInBounds_toArray, List.set_cons_zero, List.set_cons_succ]
                    refine hK.out _ _ ⟨trivial, ?_⟩
                    refine J_all (rs := [6]) (by kernel_rfl) (by simp) (fun i hi => ?_)
                    obtain rfl := List.mem_singleton.1 hi
                    · refine J_oneH (by simp only [List.getElem?_toArray, List.getElem?_cons_succ, List.getElem?_cons_zero]; rfl) rfl (fun K hK => ?_)
                      refine wp_append_src X6 (.tmp 40) (.tmp 44) 22 rfl _ 5 i0 (.int .u8 0) 1 1 Tryd.underlying22 hi0 hz0 hz1 hz2 rfl (by decide) (.slice A40 14 c40) 14 _ rfl o40_6 A44 22 c44 (bv bz8) rfl (by rw [bv_length, bz8_len]) (fun _ => r44.srcs (by rw [bz8_len]; decide)) (bv_one _) (by decide) (by decide) (by have := q6.size; have := (o40_6); first | exact own_base_le this (by decide) | omega) ?_
                      intro v45 X7 h7
                      have q7 := q6.upE h7.fr (fun g hg => by have := (o40_6.lt g hg).1; have := o40b_3; omega)
                      have o45 := h7.own
                      have o46 : X7.ownsRow w6.heap.size 5 1 v45 bNN.length (bv bNN) := by rw [bNN_len]; show X7.ownsRow _ _ _ _ _ (bv (_ ++ _)); rw [bv_append]; exact own_lowx o45 o40b_3
                      obtain ⟨A45, c45, rfl, k45, k45m⟩ := own_form o46
                      have r45 := own_rd o46
                      rw [bNN_len] at k45 ⊢
                      try simp only [Act.put, List.setIfInBounds_toArray, List.set_cons_zero, List.set_cons_succ]
                      refine hK.out _ _ ⟨trivial, ?_⟩
                      refine J_all (rs := [7]) (by kernel_rfl) (by simp) (fun i hi => ?_)
                      obtain rfl := List.mem_singleton.1 hi
                      · refine J_oneH (by simp only [List.getElem?_toArray, List.getElem?_cons_succ, List.getElem?_cons_zero]; rfl) rfl (fun K hK => ?_)
                        go_simp
                        try simp only [List.setIfInBounds_toArray, List.set_cons_zero, List.set_cons_succ]
                        refine hK.out _ _ ⟨trivial, ?_⟩
                        try simp only [List.setIfInBounds_toArray, List.set_cons_zero, List.set_cons_succ]
                        refine J_done (by kernel_rfl) ?_
                        exact ⟨_, _, _, _, _, _, _, _, rfl, k45, k45m, r45, q7⟩
            · refine J_oneH (by simp only [List.getElem?_toArray, List.getElem?_cons_succ, List.getElem?_cons_zero]; rfl) rfl (fun K hK => ?_)
              go_simp
              obtain ⟨X3, e3⟩ : ∃ X3, World.alloc X2 (.cells #[.int .i64 2] 24) = X3 := ⟨_, rfl⟩
              obtain ⟨B3, b3⟩ : ∃ B3, X2.heap.size = B3 := ⟨_, rfl⟩
              have f3 : Fr NoB X2 X3 := by rw [← e3]; exact (Fr.refl NoB _).alloc _
              have z42_3 : RdZ X3 (some ⟨B3, 0, none⟩) [2] := by rw [← e3, ← b3]; exact RdZ.new _ [2] _
              rw [e3, b3]
              clear e3 b3
              have z39_3 := z39_2.fr f3
              have m41_3 := own_keep m41_2 (fun g hg => f3.block g (m41_2.lt g hg).2 (fun x => x))
              have q3 := q2.then f3
              try simp only [Act.put, List.setIfInBounds_toArray, List.set_cons_zero, List.set_cons_succ]
              refine hK.out _ _ ⟨trivial, ?_⟩
              refine J_all (rs := [1]) (by kernel_rfl) (by simp) (fun i hi => ?_)
              obtain rfl := List.mem_singleton.1 hi
              · refine J_oneH (by simp only [List.getElem?_toArray, List.getElem?_cons_succ, List.getElem?_cons_zero]; rfl) rfl (fun K hK => ?_)
                go_simp
                refine (rows_n z39_3 rfl (by decide) (by simp [z1]) len1 (HW.out.fr ((FR6.out).then q3))).mono ?_
                rintro e X4 ⟨A40, c40, rfl, k40, k40m, o40_4, -, f4⟩
                have hap : ∀ g, Value.ownBlock (.slice A40 14 c40) = some g → ¬ g = B2 := fun g hg => by have := (o40_4.lt g hg).1; have := lt_of_own m41_3; omega
                have o40b_4 : w6.heap.size ≤ X3.heap.size := q3.size
                have z39_4 := z39_3.fr f4
                have z42_4 := z42_3.fr f4
                have m41_4 := own_keep m41_3 (fun g hg => f4.block g (m41_3.lt g hg).2 (fun x => x))
                have q4 := q3.then f4
                try dsimp only
                refine hK.out _ _ ⟨trivial, ?_⟩
                refine J_all (rs := [4]) (by kernel_rfl) (by simp) (fun i hi => ?_)
                obtain rfl := List.mem_singleton.1 hi
                · refine J_oneH (by simp only [List.getElem?_toArray, List.getElem?_cons_succ, List.getElem?_cons_zero]; rfl) rfl (fun K hK => ?_)
                  go_simp
                  refine (rows_n z42_4 rfl (by decide) (by simp [z2]) (by decide : (segB ([2].map syncD)).length = 14) (HW.out.fr ((FR6.out).then q4))).mono ?_
                  rintro e X5 ⟨A43, c43, rfl, k43, k43m, -, r43_5, f5⟩
                  have z39_5 := z39_4.fr f5
                  have z42_5 := z42_4.fr f5
                  have o40_5 := own_keep o40_4 (fun g hg => f5.block g (o40_4.lt g hg).2 (fun x => x))
                  have m41_5 := own_keep m41_4 (fun g hg => f5.block g (m41_4.lt g hg).2 (fun x => x))
                  have q5 := q4.then f5
                  try dsimp only
                  refine hK.out _ _ ⟨trivial, ?_⟩
                  refine J_all (rs := [5]) (by kernel_rfl) (by simp) (fun i hi => ?_)
                  obtain rfl := List.mem_singleton.1 hi
                  · refine J_oneH (by simp only [List.getElem?_toArray, List.getElem?_cons_succ, List.getElem?_cons_zero]; rfl) rfl (fun K hK => ?_)
                    refine wp_append_src X5 (.tmp 41) (.tmp 43) 22 rfl B2 5 i0 (.int .u8 0) 1 1 Tryd.underlying22 hi0 hz0 hz1 hz2 rfl (by decide) (.slice (some ⟨B2, 0, none⟩) 8 8) 8 _ rfl m41_5 A43 14 c43 (bv (segB (([2] : List Int).map syncD))) rfl (by rw [bv_length]; decide) (fun _ => r43_5.srcs (by decide)) (bv_one _) (by decide) (by decide) (Nat.le_of_lt (lt_of_own m41_5)) ?_
                    intro v44 X6 h6
                    have o44 : X6.ownsRow B2 5 1 v44 bz8.length (bv bz8) := by rw [bz8_len]; show X6.ownsRow _ _ _ _ _ (bv (_ ++ _)); rw [bv_append]; exact h6.own
                    have o40_6 := own_keep o40_5 (fun g hg => h6.fr.block g (o40_5.lt g hg).2 (fun hx => hap g hg (by simpa [Value.ownBlock] using hx.symm)))
                    have q6 := q5.upE h6.fr (fun g hg => by (have h1 : B2 = g := (by simpa [Value.ownBlock] using hg)); have := m41b_2; omega)
                    obtain ⟨A44, c44, rfl, -, -⟩ := own_form o44
                    have r44 := own_rd o44
                    rw [bz8_len]
                    try simp only [Act.put, List.setIfInBounds_toArray, List.set_cons_zero, List.set_cons_succ]
                    refine hK.out _ _ ⟨trivial, ?_⟩
                    refine J_all (rs := [6]) (by kernel_rfl) (by simp) (fun i hi => ?_)
                    obtain rfl := List.mem_singleton.1 hi
                    · refine J_oneH (by simp only [List.getElem?_toArray, List.getElem?_cons_succ, List.getElem?_cons_zero]; rfl) rfl (fun K hK => ?_)
                      refine wp_append_src X6 (.tmp 40) (.tmp 44) 22 rfl _ 5 i0 (.int .u8 0) 1 1 Tryd.underlying22 hi0 hz0 hz1 hz2 rfl (by decide) (.slice A40 14 c40) 14 _ rfl o40_6 A44 22 c44 (bv bz8) rfl (by rw [bv_length, bz8_len]) (fun _ => r44.srcs (by rw [bz8_len]; decide)) (bv_one _) (by decide) (by decide) (by have := q6.size; have := (o40_6); first | exact own_base_le this (by decide) | omega) ?_
                      intro v45 X7 h7
                      have q7 := q6.upE h7.fr (fun g hg => by have := (o40_6.lt g hg).1; have := o40b_4; omega)
                      have o45 := h7.own
                      have o46 : X7.ownsRow w6.heap.size 5 1 v45 bNN.length (bv bNN) := by rw [bNN_len]; show X7.ownsRow _ _ _ _ _ (bv (_ ++ _)); rw [bv_append]; exact own_lowx o45 o40b_4
                      obtain ⟨A45, c45, rfl, k45, k45m⟩ := own_form o46
                      have r45 := own_rd o46
                      rw [bNN_len] at k45 ⊢
                      try simp only [Act.put, List.setIfInBounds_toArray, List.set_cons_zero, List.set_cons_succ]
                      refine hK.out _ _ ⟨trivial, ?_⟩
                      refine J_all (rs := [7]) (by kernel_rfl) (by simp) (fun i hi => ?_)
                      obtain rfl := List.mem_singleton.1 hi
                      · refine J_oneH (by simp only [List.getElem?_toArray, List.getElem?_cons_succ, List.getElem?_cons_zero]; rfl) rfl (fun K hK => ?_)
                        go_simp
                        try simp only [List.setIfInBounds_toArray, List.set_cons_zero, List.set_cons_succ]
                        refine hK.out _ _ ⟨trivial, ?_⟩
                        try simp only [List.setIfInBounds_toArray, List.set_cons_zero, List.set_cons_succ]
                        refine J_done (by kernel_rfl) ?_
                        exact ⟨_, _, _, _, _, _, _, _, rfl, k45, k45m, r45, q7⟩
          · refine J_oneH (by simp only [List.getElem?_toArray, List.getElem?_cons_succ, List.getElem?_cons_zero]; rfl) rfl (fun K hK => ?_)
            go_simp
            obtain ⟨X2, e2⟩ : ∃ X2, World.alloc X1 (.cells #[.int .i64 2] 24) = X2 := ⟨_, rfl⟩
            obtain ⟨B2, b2⟩ : ∃ B2, X1.heap.size = B2 := ⟨_, rfl⟩
            have f2 : Fr NoB X1 X2 := by rw [← e2]; exact (Fr.refl NoB _).alloc _
            have z42_2 : RdZ X2 (some ⟨B2, 0, none⟩) [2] := by rw [← e2, ← b2]; exact RdZ.new _ [2] _
            rw [e2, b2]
            clear e2 b2
            have z39_2 := z39_1.fr f2
            have q2 := q1.then f2
            try simp only [Act.put, List.setIfInBounds_toArray, List.set_cons_zero, List.set_cons_succ]
            refine hK.out _ _ ⟨trivial, ?_⟩
            refine J_all (rs := [1, 2]) (by kernel_rfl) (by simp) (fun i hi => ?_)
            simp only [List.mem_cons, List.not_mem_nil, or_false] at hi
            rcases hi with rfl | rfl
            · refine J_oneH (by simp only [List.getElem?_toArray, List.getElem?_cons_succ, List.getElem?_cons_zero]; rfl) rfl (fun K hK => ?_)
              go_simp
              refine (rows_n z39_2 rfl (by decide) (by simp [z1]) len1 (HW.out.fr ((FR6.out).then q2))).mono ?_
              rintro e X3 ⟨A40, c40, rfl, k40, k40m, o40_3, -, f3⟩
              have o40b_3 : w6.heap.size ≤ X2.heap.size := q2.size
              have z39_3 := z39_2.fr f3
              have z42_3 := z42_2.fr f3
              have q3 := q2.then f3
              try dsimp only
              refine hK.out _ _ ⟨trivial, ?_⟩
              refine J_all (rs := [2, 4]) (by kernel_rfl) (by simp) (fun i hi => ?_)
              simp only [List.mem_cons, List.not_mem_nil, or_false] at hi
              rcases hi with rfl | rfl
              · refine J_oneH (by simp only [List.getElem?_toArray, List.getElem?_cons_succ, List.getElem?_cons_zero]; rfl) rfl (fun K hK => ?_)
                go_simp
                obtain ⟨X4, e4⟩ : ∃ X4, World.alloc X3 (.cells M8 5) = X4 := ⟨_, rfl⟩
                obtain ⟨B4, b4⟩ : ∃ B4, X3.heap.size = B4 := ⟨_, rfl⟩
                have f4 : Fr NoB X3 X4 := by rw [← e4]; exact (Fr.refl NoB _).alloc _
                have m41_4 : X4.ownsRow B4 5 1 (.slice (some ⟨B4, 0, none⟩) 8 8) 8 (bv (List.replicate 8 0)) := by rw [← e4, ← b4]; exact HM8.out _
                have m41b_4 : w6.heap.size ≤ B4 := by rw [← b4]; exact q3.size
                have hap : ∀ g, Value.ownBlock (.slice A40 14 c40) = some g → ¬ g = B4 := fun g hg => by have := (o40_3.lt g hg).2; omega
                rw [e4, b4]
                clear e4 b4
                have z39_4 := z39_3.fr f4
                have z42_4 := z42_3.fr f4
                have o40_4 := own_keep o40_3 (fun g hg => f4.block g (o40_3.lt g hg).2 (fun x => x))
                have q4 := q3.then f4
                try simp only [Act.put, List.setIfInBounds_toArray, List.set_cons_zero, List.set_cons_succ]
                refine hK.out _ _ ⟨trivial, ?_⟩
                refine J_all (rs := [4]) (by kernel_rfl) (by simp) (fun i hi => ?_)
                obtain rfl := List.mem_singleton.1 hi
                · refine J_oneH (by simp only [List.getElem?_toArray, List.getElem?_cons_succ, List.getElem?_cons_zero]; rfl) rfl (fun K hK => ?_)
                  go_simp
                  refine (rows_n z42_4 rfl (by decide) (by simp [z2]) (by decide : (segB ([2].map syncD)).length = 14) (HW.out.fr ((FR6.out).then q4))).mono ?_
                  rintro e X5 ⟨A43, c43, rfl, k43, k43m, -, r43_5, f5⟩
                  have z39_5 := z39_4.fr f5
                  have z42_5 := z42_4.fr f5
                  have o40_5 := own_keep o40_4 (fun g hg => f5.block g (o40_4.lt g hg).2 (fun x => x))
                  have m41_5 := own_keep m41_4 (fun g hg => f5.block g (m41_4.lt g hg).2 (fun x => x))
                  have q5 := q4.then f5
                  try dsimp only
                  refine hK.out _ _ ⟨trivial, ?_⟩
                  refine J_all (rs := [5]) (by kernel_rfl) (by simp) (fun i hi => ?_)
                  obtain rfl := List.mem_singleton.1 hi
                  · refine J_oneH (by simp only [List.getElem?_toArray, List.getElem?_cons_succ, List.getElem?_cons_zero]; rfl) rfl (fun K hK => ?_)
                    refine wp_append_src X5 (.tmp 41) (.tmp 43) 22 rfl B4 5 i0 (.int .u8 0) 1 1 Tryd.underlying22 hi0 hz0 hz1 hz2 rfl (by decide) (.slice (some ⟨B4, 0, none⟩) 8 8) 8 _ rfl m41_5 A43 14 c43 (bv (segB (([2] : List Int).map syncD))) rfl (by rw [bv_length]; decide) (fun _ => r43_5.srcs (by decide)) (bv_one _) (by decide) (by decide) (Nat.le_of_lt (lt_of_own m41_5)) ?_
                    intro v44 X6 h6
                    have o44 : X6.ownsRow B4 5 1 v44 bz8.length (bv bz8) := by rw [bz8_len]; show X6.ownsRow _ _ _ _ _ (bv (_ ++ _)); rw [bv_append]; exact h6.own
                    have o40_6 := own_keep o40_5 (fun g hg => h6.fr.block g (o40_5.lt g hg).2 (fun hx => hap g hg (by simpa [Value.ownBlock] using hx.symm)))
                    have q6 := q5.upE h6.fr (fun g hg => by (have h1 : B4 = g := (by simpa [Value.ownBlock] using hg)); have := m41b_4; omega)
                    obtain ⟨A44, c44, rfl, -, -⟩ := own_form o44
                    have r44 := own_rd o44
                    rw [bz8_len]
                    try simp only [Act.put, List.setIfInBounds_toArray, List.set_cons_zero, List.set_cons_succ]
                    refine hK.out _ _ ⟨trivial, ?_⟩
                    refine J_all (rs := [6]) (by kernel_rfl) (by simp) (fun i hi => ?_)
                    obtain rfl := List.mem_singleton.1 hi
                    · refine J_oneH (by simp only [List.getElem?_toArray, List.getElem?_cons_succ, List.getElem?_cons_zero]; rfl) rfl (fun K hK => ?_)
                      refine wp_append_src X6 (.tmp 40) (.tmp 44) 22 rfl _ 5 i0 (.int .u8 0) 1 1 Tryd.underlying22 hi0 hz0 hz1 hz2 rfl (by decide) (.slice A40 14 c40) 14 _ rfl o40_6 A44 22 c44 (bv bz8) rfl (by rw [bv_length, bz8_len]) (fun _ => r44.srcs (by rw [bz8_len]; decide)) (bv_one _) (by decide) (by decide) (by have := q6.size; have := (o40_6); first | exact own_base_le this (by decide) | omega) ?_
                      intro v45 X7 h7
                      have q7 := q6.upE h7.fr (fun g hg => by have := (o40_6.lt g hg).1; have := o40b_3; omega)
                      have o45 := h7.own
                      have o46 : X7.ownsRow w6.heap.size 5 1 v45 bNN.length (bv bNN) := by rw [bNN_len]; show X7.ownsRow _ _ _ _ _ (bv (_ ++ _)); rw [bv_append]; exact own_lowx o45 o40b_3
                      obtain ⟨A45, c45, rfl, k45, k45m⟩ := own_form o46
                      have r45 := own_rd o46
                      rw [bNN_len] at k45 ⊢
                      try simp only [Act.put, List.setIfInBounds_toArray, List.set_cons_zero, List.set_cons_succ]
                      refine hK.out _ _ ⟨trivial, ?_⟩
                      refine J_all (rs := [7]) (by kernel_rfl) (by simp) (fun i hi => ?_)
                      obtain rfl := List.mem_singleton.1 hi
                      · refine J_oneH (by simp only [List.getElem?_toArray, List.getElem?_cons_succ, List.getElem?_cons_zero]; rfl) rfl (fun K hK => ?_)
                        go_simp
                        try simp only [List.setIfInBounds_toArray, List.set_cons_zero, List.set_cons_succ]
                        refine hK.out _ _ ⟨trivial, ?_⟩
                        try simp only [List.setIfInBounds_toArray, List.set_cons_zero, List.set_cons_succ]
                        refine J_done (by kernel_rfl) ?_
                        exact ⟨_, _, _, _, _, _, _, _, rfl, k45, k45m, r45, q7⟩
              · refine J_oneH (by simp only [List.getElem?_toArray, List.getElem?_cons_succ, List.getElem?_cons_zero]; rfl) rfl (fun K hK => ?_)
                go_simp
                refine (rows_n z42_3 rfl (by decide) (by simp [z2]) (by decide : (segB ([2].map syncD)).length = 14) (HW.out.fr ((FR6.out).then q3))).mono ?_
                rintro e X4 ⟨A43, c43, rfl, k43, k43m, -, r43_4, f4⟩
                have z39_4 := z39_3.fr f4
                have z42_4 := z42_3.fr f4
                have o40_4 := own_keep o40_3 (fun g hg => f4.block g (o40_3.lt g hg).2 (fun x => x))
                have q4 := q3.then f4
                try dsimp only
                refine hK.out _ _ ⟨trivial, ?_⟩
                refine J_all (rs := [2]) (by kernel_rfl) (by simp) (fun i hi => ?_)
                obtain rfl := List.mem_singleton.1 hi
                · refine J_oneH (by simp only [List.getElem?_toArray, List.getElem?_cons_succ, List.getElem?_cons_zero]; rfl) rfl (fun K hK => ?_)
                  go_simp
                  obtain ⟨X5, e5⟩ : ∃ X5, World.alloc X4 (.cells M8 5) = X5 := ⟨_, rfl⟩
                  obtain ⟨B5, b5⟩ : ∃ B5, X4.heap.size = B5 := ⟨_, rfl⟩
                  have f5 : Fr NoB X4 X5 := by rw [← e5]; exact (Fr.refl NoB _).alloc _
                  have m41_5 : X5.ownsRow B5 5 1 (.slice (some ⟨B5, 0, none⟩) 8 8) 8 (bv (List.replicate 8 0)) := by rw [← e5, ← b5]; exact HM8.out _
                  have m41b_5 : w6.heap.size ≤ B5 := by rw [← b5]; exact q4.size
                  have hap : ∀ g, Value.ownBlock (.slice A40 14 c40) = some g → ¬ g = B5 := fun g hg => by have := (o40_4.lt g hg).2; omega
                  rw [e5, b5]
                  clear e5 b5
                  have z39_5 := z39_4.fr f5
                  have z42_5 := z42_4.fr f5
                  have o40_5 := own_keep o40_4 (fun g hg => f5.block g (o40_4.lt g hg).2 (fun x => x))
                  have r43_5 := r43_4.fr f5 (Nat.le_refl _) (fun _ _ _ x => x)
                  have q5 := q4.then f5
                  try simp only [Act.put, List.setIfInBounds_toArray, List.set_cons_zero, List.set_cons_succ]
                  refine hK.out _ _ ⟨trivial, ?_⟩
                  refine J_all (rs := [5]) (by kernel_rfl) (by simp) (fun i hi => ?_)
                  obtain rfl := List.mem_singleton.1 hi
                  · refine J_oneH (by simp only [List.getElem?_toArray, List.getElem?_cons_succ, List.getElem?_cons_zero]; rfl) rfl (fun K hK => ?_)
                    refine wp_append_src X5 (.tmp 41) (.tmp 43) 22 rfl B5 5 i0 (.int .u8 0) 1 1 Tryd.underlying22 hi0 hz0 hz1 hz2 rfl (by decide) (.slice (some ⟨B5, 0, none⟩) 8 8) 8 _ rfl m41_5 A43 14 c43 (bv (segB (([2] : List Int).map syncD))) rfl (by rw [bv_length]; decide) (fun _ => r43_5.srcs (by decide)) (bv_one _) (by decide) (by decide) (Nat.le_of_lt (lt_of_own m41_5)) ?_
                    intro v44 X6 h6
                    have o44 : X6.ownsRow B5 5 1 v44 bz8.length (bv bz8) := by rw [bz8_len]; show X6.ownsRow _ _ _ _ _ (bv (_ ++ _)); rw [bv_append]; exact h6.own
                    have o40_6 := own_keep o40_5 (fun g hg => h6.fr.block g (o40_5.lt g hg).2 (fun hx => hap g hg (by simpa [Value.ownBlock] using hx.symm)))
                    have q6 := q5.upE h6.fr (fun g hg => by (have h1 : B5 = g := (by simpa [Value.ownBlock] using hg)); have := m41b_5; omega)
                    obtain ⟨A44, c44, rfl, -, -⟩ := own_form o44
                    have r44 := own_rd o44
                    rw [bz8_len]
                    try simp only [Act.put, List.setIfInBounds_toArray, List.set_cons_zero, List.set_cons_succ]
                    refine hK.out _ _ ⟨trivial, ?_⟩
                    refine J_all (rs := [6]) (by kernel_rfl) (by simp) (fun i hi => ?_)
                    obtain rfl := List.mem_singleton.1 hi
                    · refine J_oneH (by simp only [List.getElem?_toArray, List.getElem?_cons_succ, List.getElem?_cons_zero]; rfl) rfl (fun K hK => ?_)
                      refine wp_append_src X6 (.tmp 40) (.tmp 44) 22 rfl _ 5 i0 (.int .u8 0) 1 1 Tryd.underlying22 hi0 hz0 hz1 hz2 rfl (by decide) (.slice A40 14 c40) 14 _ rfl o40_6 A44 22 c44 (bv bz8) rfl (by rw [bv_length, bz8_len]) (fun _ => r44.srcs (by rw [bz8_len]; decide)) (bv_one _) (by decide) (by decide) (by have := q6.size; have := (o40_6); first | exact own_base_le this (by decide) | omega) ?_
                      intro v45 X7 h7
                      have q7 := q6.upE h7.fr (fun g hg => by have := (o40_6.lt g hg).1; have := o40b_3; omega)
                      have o45 := h7.own
                      have o46 : X7.ownsRow w6.heap.size 5 1 v45 bNN.length (bv bNN) := by rw [bNN_len]; show X7.ownsRow _ _ _ _ _ (bv (_ ++ _)); rw [bv_append]; exact own_lowx o45 o40b_3
                      obtain ⟨A45, c45, rfl, k45, k45m⟩ := own_form o46
                      have r45 := own_rd o46
                      rw [bNN_len] at k45 ⊢
                      try simp only [Act.put, List.setIfInBounds_toArray, List.set_cons_zero, List.set_cons_succ]
                      refine hK.out _ _ ⟨trivial, ?_⟩
                      refine J_all (rs := [7]) (by kernel_rfl) (by simp) (fun i hi => ?_)
                      obtain rfl := List.mem_singleton.1 hi
                      · refine J_oneH (by simp only [List.getElem?_toArray, List.getElem?_cons_succ, List.getElem?_cons_zero]; rfl) rfl (fun K hK => ?_)
                        go_simp
                        try simp only [List.setIfInBounds_toArray, List.set_cons_zero, List.set_cons_succ]
                        refine hK.out _ _ ⟨trivial, ?_⟩
                        try simp only [List.setIfInBounds_toArray, List.set_cons_zero, List.set_cons_succ]
                        refine J_done (by kernel_rfl) ?_
                        exact ⟨_, _, _, _, _, _, _, _, rfl, k45, k45m, r45, q7⟩
            · refine J_oneH (by simp only [List.getElem?_toArray, List.getElem?_cons_succ, List.getElem?_cons_zero]; rfl) rfl (fun K hK => ?_)
              go_simp
              obtain ⟨X3, e3⟩ : ∃ X3, World.alloc X2 (.cells M8 5) = X3 := ⟨_, rfl⟩
              obtain ⟨B3, b3⟩ : ∃ B3, X2.heap.size = B3 := ⟨_, rfl⟩
              have f3 : Fr NoB X2 X3 := by rw [← e3]; exact (Fr.refl NoB _).alloc _
              have m41_3 : X3.ownsRow B3 5 1 (.slice (some ⟨B3, 0, none⟩) 8 8) 8 (bv (List.replicate 8 0)) := by rw [← e3, ← b3]; exact HM8.out _
              have m41b_3 : w6.heap.size ≤ B3 := by rw [← b3]; exact q2.size
              rw [e3, b3]
              clear e3 b3
              have z39_3 := z39_2.fr f3
              have z42_3 := z42_2.fr f3
              have q3 := q2.then f3
              try simp only [Act.put, List.setIfInBounds_toArray, List.set_cons_zero, List.set_cons_succ]
              refine hK.out _ _ ⟨trivial, ?_⟩
              refine J_all (rs := [1]) (by kernel_rfl) (by simp) (fun i hi => ?_)
              obtain rfl := List.mem_singleton.1 hi
              · refine J_oneH (by simp only [List.getElem?_toArray, List.getElem?_cons_succ, List.getElem?_cons_zero]; rfl) rfl (fun K hK => ?_)
                go_simp
                refine (rows_n z39_3 rfl (by decide) (by simp [z1]) len1 (HW.out.fr ((FR6.out).then q3))).mono ?_
                rintro e X4 ⟨A40, c40, rfl, k40, k40m, o40_4, -, f4⟩
                have hap : ∀ g, Value.ownBlock (.slice A40 14 c40) = some g → ¬ g = B3 := fun g hg => by have := (o40_4.lt g hg).1; have := lt_of_own m41_3; omega
                have o40b_4 : w6.heap.size ≤ X3.heap.size := q3.size
                have z39_4 := z39_3.fr f4
                have z42_4 := z42_3.fr f4
                have m41_4 := own_keep m41_3 (fun g hg => f4.block g (m41_3.lt g hg).2 (fun x => x))
                have q4 := q3.then f4
                try dsimp only
                refine hK.out _ _ ⟨trivial, ?_⟩
                refine J_all (rs := [4]) (by kernel_rfl) (by simp) (fun i hi => ?_)
                obtain rfl := List.mem_singleton.1 hi
                · refine J_oneH (by simp only [List.getElem?_toArray, List.getElem?_cons_succ, List.getElem?_cons_zero]; rfl) rfl (fun K hK => ?_)
                  go_simp
                  refine (rows_n z42_4 rfl (by decide) (by simp [z2]) (by decide : (segB ([2].map syncD)).length = 14) (HW.out.fr ((FR6.out).then q4))).mono ?_
                  rintro e X5 ⟨A43, c43, rfl, k43, k43m, -, r43_5, f5⟩
                  have z39_5 := z39_4.fr f5
                  have z42_5 := z42_4.fr f5
                  have o40_5 := own_keep o40_4 (fun g hg => f5.block g (o40_4.lt g hg).2 (fun x => x))
                  have m41_5 := own_keep m41_4 (fun g hg => f5.block g (m41_4.lt g hg).2 (fun x => x))
                  have q5 := q4.then f5
                  try dsimp only
                  refine hK.out _ _ ⟨trivial, ?_⟩
                  refine J_all (rs := [5]) (by kernel_rfl) (by simp) (fun i hi => ?_)
                  obtain rfl := List.mem_singleton.1 hi
                  · refine J_oneH (by simp only [List.getElem?_toArray, List.getElem?_cons_succ, List.getElem?_cons_zero]; rfl) rfl (fun K hK => ?_)
                    refine wp_append_src X5 (.tmp 41) (.tmp 43) 22 rfl B3 5 i0 (.int .u8 0) 1 1 Tryd.underlying22 hi0 hz0 hz1 hz2 rfl (by decide) (.slice (some ⟨B3, 0, none⟩) 8 8) 8 _ rfl m41_5 A43 14 c43 (bv (segB (([2] : List Int).map syncD))) rfl (by rw [bv_length]; decide) (fun _ => r43_5.srcs (by decide)) (bv_one _) (by decide) (by decide) (Nat.le_of_lt (lt_of_own m41_5)) ?_
                    intro v44 X6 h6
                    have o44 : X6.ownsRow B3 5 1 v44 bz8.length (bv bz8) := by rw [bz8_len]; show X6.ownsRow _ _ _ _ _ (bv (_ ++ _)); rw [bv_append]; exact h6.own
                    have o40_6 := own_keep o40_5 (fun g hg => h6.fr.block g (o40_5.lt g hg).2 (fun hx => hap g hg (by simpa [Value.ownBlock] using hx.symm)))
                    have q6 := q5.upE h6.fr (fun g hg => by (have h1 : B3 = g := (by simpa [Value.ownBlock] using hg)); have := m41b_3; omega)
                    obtain ⟨A44, c44, rfl, -, -⟩ := own_form o44
                    have r44 := own_rd o44
                    rw [bz8_len]
                    try simp only [Act.put, List.setIfInBounds_toArray, List.set_cons_zero, List.set_cons_succ]
                    refine hK.out _ _ ⟨trivial, ?_⟩
                    refine J_all (rs := [6]) (by kernel_rfl) (by simp) (fun i hi => ?_)
                    obtain rfl := List.mem_singleton.1 hi
                    · refine J_oneH (by simp only [List.getElem?_toArray, List.getElem?_cons_succ, List.getElem?_cons_zero]; rfl) rfl (fun K hK => ?_)
                      refine wp_append_src X6 (.tmp 40) (.tmp 44) 22 rfl _ 5 i0 (.int .u8 0) 1 1 Tryd.underlying22 hi0 hz0 hz1 hz2 rfl (by decide) (.slice A40 14 c40) 14 _ rfl o40_6 A44 22 c44 (bv bz8) rfl (by rw [bv_length, bz8_len]) (fun _ => r44.srcs (by rw [bz8_len]; decide)) (bv_one _) (by decide) (by decide) (by have := q6.size; have := (o40_6); first | exact own_base_le this (by decide) | omega) ?_
                      intro v45 X7 h7
                      have q7 := q6.upE h7.fr (fun g hg => by have := (o40_6.lt g hg).1; have := o40b_4; omega)
                      have o45 := h7.own
                      have o46 : X7.ownsRow w6.heap.size 5 1 v45 bNN.length (bv bNN) := by rw [bNN_len]; show X7.ownsRow _ _ _ _ _ (bv (_ ++ _)); rw [bv_append]; exact own_lowx o45 o40b_4
                      obtain ⟨A45, c45, rfl, k45, k45m⟩ := own_form o46
                      have r45 := own_rd o46
                      rw [bNN_len] at k45 ⊢
                      try simp only [Act.put, List.setIfInBounds_toArray, List.set_cons_zero, List.set_cons_succ]
                      refine hK.out _ _ ⟨trivial, ?_⟩
                      refine J_all (rs := [7]) (by kernel_rfl) (by simp) (fun i hi => ?_)
                      obtain rfl := List.mem_singleton.1 hi
                      · refine J_oneH (by simp only [List.getElem?_toArray, List.getElem?_cons_succ, List.getElem?_cons_zero]; rfl) rfl (fun K hK => ?_)
                        go_simp
                        try simp only [List.setIfInBounds_toArray, List.set_cons_zero, List.set_cons_succ]
                        refine hK.out _ _ ⟨trivial, ?_⟩
                        try simp only [List.setIfInBounds_toArray, List.set_cons_zero, List.set_cons_succ]
                        refine J_done (by kernel_rfl) ?_
                        exact ⟨_, _, _, _, _, _, _, _, rfl, k45, k45m, r45, q7⟩
        · refine J_oneH (by simp only [List.getElem?_toArray, List.getElem?_cons_succ, List.getElem?_cons_zero]; rfl) rfl (fun K hK => ?_)
          go_simp
          obtain ⟨X1, e1⟩ : ∃ X1, World.alloc X0 (.cells M8 5) = X1 := ⟨_, rfl⟩
          obtain ⟨B1, b1⟩ : ∃ B1, X0.heap.size = B1 := ⟨_, rfl⟩
          have f1 : Fr NoB X0 X1 := by rw [← e1]; exact (Fr.refl NoB _).alloc _
          have m41_1 : X1.ownsRow B1 5 1 (.slice (some ⟨B1, 0, none⟩) 8 8) 8 (bv (List.replicate 8 0)) := by rw [← e1, ← b1]; exact HM8.out _
          have m41b_1 : w6.heap.size ≤ B1 := by rw [← b1]; exact q0.size
          rw [e1, b1]
          clear e1 b1
          have q1 := q0.then f1
          try simp only [Act.put, List.setIfInBounds_toArray, List.set_cons_zero, List.set_cons_succ]
          refine hK.out _ _ ⟨trivial, ?_⟩
          refine J_all (rs := [0, 3]) (by kernel_rfl) (by simp) (fun i hi => ?_)
          simp only [List.mem_cons, List.not_mem_nil, or_false] at hi
          rcases hi with rfl | rfl
          · refine J_oneH (by simp only [List.getElem?_toArray, List.getElem?_cons_zero]; rfl) rfl (fun K hK => ?_)
            go_simp
            obtain ⟨X2, e2⟩ : ∃ X2, World.alloc X1 (.cells #[.int .i64 1] 24) = X2 := ⟨_, rfl⟩
            obtain ⟨B2, b2⟩ : ∃ B2, X1.heap.size = B2 := ⟨_, rfl⟩
            have f2 : Fr NoB X1 X2 := by rw [← e2]; exact (Fr.refl NoB _).alloc _
            have z39_2 : RdZ X2 (some ⟨B2, 0, none⟩) [1] := by rw [← e2, ← b2]; exact RdZ.new _ [1] _
            rw [e2, b2]
            clear e2 b2
            have m41_2 := own_keep m41_1 (fun g hg => f2.block g (m41_1.lt g hg).2 (fun x => x))
            have q2 := q1.then f2
            try simp only [Act.put, List.setIfInBounds_toArray, List.set_cons_zero, List.set_cons_succ]
            refine hK.out _ _ ⟨trivial, ?_⟩
            refine J_all (rs := [1, 3]) (by kernel_rfl) (by simp) (fun i hi => ?_)
            simp only [List.mem_cons, List.not_mem_nil, or_false] at hi
            rcases hi with rfl | rfl
            · refine J_oneH (by simp only [List.getElem?_toArray, List.getElem?_cons_succ, List.getElem?_cons_zero]; rfl) rfl (fun K hK => ?_)
              go_simp
              refine (rows_n z39_2 rfl (by decide) (by simp [z1]) len1 (HW.out.fr ((FR6.out).then q2))).mono ?_
              rintro e X3 ⟨A40, c40, rfl, k40, k40m, o40_3, -, f3⟩
              have hap : ∀ g, Value.ownBlock (.slice A40 14 c40) = some g → ¬ g = B1 := fun g hg => by have := (o40_3.lt g hg).1; have := lt_of_own m41_2; omega
              have o40b_3 : w6.heap.size ≤ X2.heap.size := q2.size
              have z39_3 := z39_2.fr f3
              have m41_3 := own_keep m41_2 (fun g hg => f3.block g (m41_2.lt g hg).2 (fun x => x))
              have q3 := q2.then f3
              try dsimp only
              refine hK.out _ _ ⟨trivial, ?_⟩
              refine J_all (rs := [3]) (by kernel_rfl) (by simp) (fun i hi => ?_)
              obtain rfl := List.mem_singleton.1 hi
              · refine J_oneH (by simp only [List.getElem?_toArray, List.getElem?_cons_succ, List.getElem?_cons_zero]; rfl) rfl (fun K hK => ?_)
                go_simp
                obtain ⟨X4, e4⟩ : ∃ X4, World.alloc X3 (.cells #[.int .i64 2] 24) = X4 := ⟨_, rfl⟩
                obtain ⟨B4, b4⟩ : ∃ B4, X3.heap.size = B4 := ⟨_, rfl⟩
                have f4 : Fr NoB X3 X4 := by rw [← e4]; exact (Fr.refl NoB _).alloc _
                have z42_4 : RdZ X4 (some ⟨B4, 0, none⟩) [2] := by rw [← e4, ← b4]; exact RdZ.new _ [2] _
                rw [e4, b4]
                clear e4 b4
                have z39_4 := z39_3.fr f4
                have o40_4 := own_keep o40_3 (fun g hg => f4.block g (o40_3.lt g hg).2 (fun x => x))
                have m41_4 := own_keep m41_3 (fun g hg => f4.block g (m41_3.lt g hg).2 (fun x => x))
                have q4 := q3.then f4
                try simp only [Act.put, List.setIfInBounds_toArray, List.set_cons_zero, List.set_cons_succ]
                refine hK.out _ _ ⟨trivial, ?_⟩
                refine J_all (rs := [4]) (by kernel_rfl) (by simp) (fun i hi => ?_)
                obtain rfl := List.mem_singleton.1 hi
                · refine J_oneH (by simp only [List.getElem?_toArray, List.getElem?_cons_succ, List.getElem?_cons_zero]; rfl) rfl (fun K hK => ?_)
                  go_simp
                  refine (rows_n z42_4 rfl (by decide) (by simp [z2]) (by decide : (segB ([2].map syncD)).length = 14) (HW.out.fr ((FR6.out).then q4))).mono ?_
                  rintro e X5 ⟨A43, c43, rfl, k43, k43m, -, r43_5, f5⟩
                  have z39_5 := z39_4.fr f5
                  have z42_5 := z42_4.fr f5
                  have o40_5 := own_keep o40_4 (fun g hg => f5.block g (o40_4.lt g hg).2 (fun x => x))
                  have m41_5 := own_keep m41_4 (fun g hg => f5.block g (m41_4.lt g hg).2 (fun x => x))
                  have q5 := q4.then f5
                  try dsimp only
                  refine hK.out _ _ ⟨trivial, ?_⟩
                  refine J_all (rs := [5]) (by kernel_rfl) (by simp) (fun i hi => ?_)
                  obtain rfl := List.mem_singleton.1 hi
                  · refine J_oneH (by simp only [List.getElem?_toArray, List.getElem?_cons_succ, List.getElem?_cons_zero]; rfl) rfl (fun K hK => ?_)
                    refine wp_append_src X5 (.tmp 41) (.tmp 43) 22 rfl B1 5 i0 (.int .u8 0) 1 1 Tryd.underlying22 hi0 hz0 hz1 hz2 rfl (by decide) (.slice (some ⟨B1, 0, none⟩) 8 8) 8 _ rfl m41_5 A43 14 c43 (bv (segB (([2] : List Int).map syncD))) rfl (by rw [bv_length]; decide) (fun _ => r43_5.srcs (by decide)) (bv_one _) (by decide) (by decide) (Nat.le_of_lt (lt_of_own m41_5)) ?_
                    intro v44 X6 h6
                    have o44 : X6.ownsRow B1 5 1 v44 bz8.length (bv bz8) := by rw [bz8_len]; show X6.ownsRow _ _ _ _ _ (bv (_ ++ _)); rw [bv_append]; exact h6.own
                    have o40_6 := own_keep o40_5 (fun g hg => h6.fr.block g (o40_5.lt g hg).2 (fun hx => hap g hg (by simpa [Value.ownBlock] using hx.symm)))
                    have q6 := q5.upE h6.fr (fun g hg => by (have h1 : B1 = g := (by simpa [Value.ownBlock] using hg)); have := m41b_1; omega)
                    obtain ⟨A44, c44, rfl, -, -⟩ := own_form o44
                    have r44 := own_rd o44
                    rw [bz8_len]
                    try simp only [Act.put, List.setIfInBounds_toArray, List.set_cons_zero, List.set_cons_succ]
                    refine hK.out _ _ ⟨trivial, ?_⟩
                    refine J_all (rs := [6]) (by kernel_rfl) (by simp) (fun i hi => ?_)
                    obtain rfl := List.mem_singleton.1 hi
                    · refine J_oneH (by simp only [List.getElem?_toArray, List.getElem?_cons_succ, List.getElem?_cons_zero]; rfl) rfl (fun K hK => ?_)
                      refine wp_append_src X6 (.tmp 40) (.tmp 44) 22 rfl _ 5 i0 (.int .u8 0) 1 1 Tryd.underlying22 hi0 hz0 hz1 hz2 rfl (by decide) (.slice A40 14 c40) 14 _ rfl o40_6 A44 22 c44 (bv bz8) rfl (by rw [bv_length, bz8_len]) (fun _ => r44.srcs (by rw [bz8_len]; decide)) (bv_one _) (by decide) (by decide) (by have := q6.size; have := (o40_6); first | exact own_base_le this (by decide) | omega) ?_
                      intro v45 X7 h7
                      have q7 := q6.upE h7.fr (fun g hg => by have := (o40_6.lt g hg).1; have := o40b_3; omega)
                      have o45 := h7.own
                      have o46 : X7.ownsRow w6.heap.size 5 1 v45 bNN.length (bv bNN) := by rw [bNN_len]; show X7.ownsRow _ _ _ _ _ (bv (_ ++ _)); rw [bv_append]; exact own_lowx o45 o40b_3
                      obtain ⟨A45, c45, rfl, k45, k45m⟩ := own_form o46
                      have r45 := own_rd o46
                      rw [bNN_len] at k45 ⊢
                      try simp only [Act.put, List.setIfInBounds_toArray, List.set_cons_zero, List.set_cons_succ]
                      refine hK.out _ _ ⟨trivial, ?_⟩
                      refine J_all (rs := [7]) (by kernel_rfl) (by simp) (fun i hi => ?_)
                      obtain rfl := List.mem_singleton.1 hi
                      · refine J_oneH (by simp only [List.getElem?_toArray, List.getElem?_cons_succ, List.getElem?_cons_zero]; rfl) rfl (fun K hK => ?_)
                        go_simp
                        try simp only [List.setIfInBounds_toArray, List.set_cons_zero, List.set_cons_succ]
                        refine hK.out _ _ ⟨trivial, ?_⟩
                        try simp only [List.setIfInBounds_toArray, List.set_cons_zero, List.set_cons_succ]
                        refine J_done (by kernel_rfl) ?_
                        exact ⟨_, _, _, _, _, _, _, _, rfl, k45, k45m, r45, q7⟩
            · refine J_oneH (by simp only [List.getElem?_toArray, List.getElem?_cons_succ, List.getElem?_cons_zero]; rfl) rfl (fun K hK => ?_)
              go_simp
              obtain ⟨X3, e3⟩ : ∃ X3, World.alloc X2 (.cells #[.int .i64 2] 24) = X3 := ⟨_, rfl⟩
              obtain ⟨B3, b3⟩ : ∃ B3, X2.heap.size = B3 := ⟨_, rfl⟩
              have f3 : Fr NoB X2 X3 := by rw [← e3]; exact (Fr.refl NoB _).alloc _
              have z42_3 : RdZ X3 (some ⟨B3, 0, none⟩) [2] := by rw [← e3, ← b3]; exact RdZ.new _ [2] _
              rw [e3, b3]
              clear e3 b3
              have z39_3 := z39_2.fr f3
              have m41_3 := own_keep m41_2 (fun g hg => f3.block g (m41_2.lt g hg).2 (fun x => x))
              have q3 := q2.then f3
              try simp only [Act.put, List.setIfInBounds_toArray, List.set_cons_zero, List.set_cons_succ]
              refine hK.out _ _ ⟨trivial, ?_⟩
              refine J_all (rs := [1]) (by kernel_rfl) (by simp) (fun i hi => ?_)
              obtain rfl := List.mem_singleton.1 hi
              · refine J_oneH (by simp only [List.getElem?_toArray, List.getElem?_cons_succ, List.getElem?_cons_zero]; rfl) rfl (fun K hK => ?_)
                go_simp
                refine (rows_n z39_3 rfl (by decide) (by simp [z1]) len1 (HW.out.fr ((FR6.out).then q3))).mono ?_
                rintro e X4 ⟨A40, c40, rfl, k40, k40m, o40_4, -, f4⟩
                have hap : ∀ g, Value.ownBlock (.slice A40 14 c40) = some g → ¬ g = B1 := fun g hg => by have := (o40_4.lt g hg).1; have := lt_of_own m41_3; omega
                have o40b_4 : w6.heap.size ≤ X3.heap.size := q3.size
                have z39_4 := z39_3.fr f4
                have z42_4 := z42_3.fr f4
                have m41_4 := own_keep m41_3 (fun g hg => f4.block g (m41_3.lt g hg).2 (fun x => x))
                have q4 := q3.then f4
                try dsimp only
                refine hK.out _ _ ⟨trivial, ?_⟩
                refine J_all (rs := [4]) (by kernel_rfl) (by simp) (fun i hi => ?_)
                obtain rfl := List.mem_singleton.1 hi
                · refine J_oneH (by simp only [List.getElem?_toArray, List.getElem?_cons_succ, List.getElem?_cons_zero]; rfl) rfl (fun K hK => ?_)
                  go_simp
                  refine (rows_n z42_4 rfl (by decide) (by simp [z2]) (by decide : (segB ([2].map syncD)).length = 14) (HW.out.fr ((FR6.out).then q4))).mono ?_
                  rintro e X5 ⟨A43, c43, rfl, k43, k43m, -, r43_5, f5⟩
                  have z39_5 := z39_4.fr f5
                  have z42_5 := z42_4.fr f5
                  have o40_5 := own_keep o40_4 (fun g hg => f5.block g (o40_4.lt g hg).2 (fun x => x))
                  have m41_5 := own_keep m41_4 (fun g hg => f5.block g (m41_4.lt g hg).2 (fun x => x))
                  have q5 := q4.then f5
                  try dsimp only
                  refine hK.out _ _ ⟨trivial, ?_⟩
                  refine J_all (rs := [5]) (by kernel_rfl) (by simp) (fun i hi => ?_)
                  obtain rfl := List.mem_singleton.1 hi
                  · refine J_oneH (by simp only [List.getElem?_toArray, List.getElem?_cons_succ, List.getElem?_cons_zero]; rfl) rfl (fun K hK => ?_)
                    refine wp_append_src X5 (.tmp 41) (.tmp 43) 22 rfl B1 5 i0 (.int .u8 0) 1 1 Tryd.underlying22 hi0 hz0 hz1 hz2 rfl (by decide) (.slice (some ⟨B1, 0, none⟩) 8 8) 8 _ rfl m41_5 A43 14 c43 (bv (segB (([2] : List Int).map syncD))) rfl (by rw [bv_length]; decide) (fun _ => r43_5.srcs (by decide)) (bv_one _) (by decide) (by decide) (Nat.le_of_lt (lt_of_own m41_5)) ?_
                    intro v44 X6 h6
                    have o44 : X6.ownsRow B1 5 1 v44 bz8.length (bv bz8) := by rw [bz8_len]; show X6.ownsRow _ _ _ _ _ (bv (_ ++ _)); rw [bv_append]; exact h6.own
                    have o40_6 := own_keep o40_5 (fun g hg => h6.fr.block g (o40_5.lt g hg).2 (fun hx => hap g hg (by simpa [Value.ownBlock] using hx.symm)))
                    have q6 := q5.upE h6.fr (fun g hg => by (have h1 : B1 = g := (by simpa [Value.ownBlock] using hg)); have := m41b_1; omega)
                    obtain ⟨A44, c44, rfl, -, -⟩ := own_form o44
                    have r44 := own_rd o44
                    rw [bz8_len]
                    try simp only [Act.put, List.setIfInBounds_toArray, List.set_cons_zero, List.set_cons_succ]
                    refine hK.out _ _ ⟨trivial, ?_⟩
                    refine J_all (rs := [6]) (by kernel_rfl) (by simp) (fun i hi => ?_)
                    obtain rfl := List.mem_singleton.1 hi
                    · refine J_oneH (by simp only [List.getElem?_toArray, List.getElem?_cons_succ, List.getElem?_cons_zero]; rfl) rfl (fun K hK => ?_)
                      refine wp_append_src X6 (.tmp 40) (.tmp 44) 22 rfl _ 5 i0 (.int .u8 0) 1 1 Tryd.underlying22 hi0 hz0 hz1 hz2 rfl (by decide) (.slice A40 14 c40) 14 _ rfl o40_6 A44 22 c44 (bv bz8) rfl (by rw [bv_length, bz8_len]) (fun _ => r44.srcs (by rw [bz8_len]; decide)) (bv_one _) (by decide) (by decide) (by have := q6.size; have := (o40_6); first | exact own_base_le this (by decide) | omega) ?_
                      intro v45 X7 h7
                      have q7 := q6.upE h7.fr (fun g hg => by have := (o40_6.lt g hg).1; have := o40b_4; omega)
                      have o45 := h7.own
                      have o46 : X7.ownsRow w6.heap.size 5 1 v45 bNN.length (bv bNN) := by rw [bNN_len]; show X7.ownsRow _ _ _ _ _ (bv (_ ++ _)); rw [bv_append]; exact own_lowx o45 o40b_4
                      obtain ⟨A45, c45, rfl, k45, k45m⟩ := own_form o46
                      have r45 := own_rd o46
                      rw [bNN_len] at k45 ⊢
                      try simp only [Act.put, List.setIfInBounds_toArray, List.set_cons_zero, List.set_cons_succ]
                      refine hK.out _ _ ⟨trivial, ?_⟩
                      refine J_all (rs := [7]) (by kernel_rfl) (by simp) (fun i hi => ?_)
                      obtain rfl := List.mem_singleton.1 hi
                      · refine J_oneH (by simp only [List.getElem?_toArray, List.getElem?_cons_succ, List.getElem?_cons_zero]; rfl) rfl (fun K hK => ?_)
                        go_simp
                        try simp only [List.setIfInBounds_toArray, List.set_cons_zero, List.set_cons_succ]
                        refine hK.out _ _ ⟨trivial, ?_⟩
                        try simp only [List.setIfInBounds_toArray, List.set_cons_zero, List.set_cons_succ]
                        refine J_done (by kernel_rfl) ?_
                        exact ⟨_, _, _, _, _, _, _, _, rfl, k45, k45m, r45, q7⟩
          · refine J_oneH (by simp only [List.getElem?_toArray, List.getElem?_cons_succ, List.getElem?_cons_zero]; rfl) rfl (fun K hK => ?_)
            go_simp
            obtain ⟨X2, e2⟩ : ∃ X2, World.alloc X1 (.cells #[.int .i64 2] 24) = X2 := ⟨_, rfl⟩
            obtain ⟨B2, b2⟩ : ∃ B2, X1.heap.size = B2 := ⟨_, rfl⟩
            have f2 : Fr NoB X1 X2 := by rw [← e2]; exact (Fr.refl NoB _).alloc _
            have z42_2 : RdZ X2 (some ⟨B2, 0, none⟩) [2] := by rw [← e2, ← b2]; exact RdZ.new _ [2] _
            rw [e2, b2]
            clear e2 b2
            have m41_2 := own_keep m41_1 (fun g hg => f2.block g (m41_1.lt g hg).2 (fun x => x))
            have q2 := q1.then f2
            try simp only [Act.put, List.setIfInBounds_toArray, List.set_cons_zero, List.set_cons_succ]
            refine hK.out _ _ ⟨trivial, ?_⟩
            refine J_all (rs := [0]) (by kernel_rfl) (by simp) (fun i hi => ?_)
            obtain rfl := List.mem_singleton.1 hi
            · refine J_oneH (by simp only [List.getElem?_toArray, List.getElem?_cons_zero]; rfl) rfl (fun K hK => ?_)
              go_simp
              obtain ⟨X3, e3⟩ : ∃ X3, World.alloc X2 (.cells #[.int .i64 1] 24) = X3 := ⟨_, rfl⟩
              obtain ⟨B3, b3⟩ : ∃ B3, X2.heap.size = B3 := ⟨_, rfl⟩
              have f3 : Fr NoB X2 X3 := by rw [← e3]; exact (Fr.refl NoB _).alloc _
              have z39_3 : RdZ X3 (some ⟨B3, 0, none⟩) [1] := by rw [← e3, ← b3]; exact RdZ.new _ [1] _
              rw [e3, b3]
              clear e3 b3
              have z42_3 := z42_2.fr f3
              have m41_3 := own_keep m41_2 (fun g hg => f3.block g (m41_2.lt g hg).2 (fun x => x))
              have q3 := q2.then f3
              try simp only [Act.put, List.setIfInBounds_toArray, List.set_cons_zero, List.set_cons_succ]
              refine hK.out _ _ ⟨trivial, ?_⟩
              refine J_all (rs := [1]) (by kernel_rfl) (by simp) (fun i hi => ?_)
              obtain rfl := List.mem_singleton.1 hi
              · refine J_oneH (by simp only [List.getElem?_toArray, List.getElem?_cons_succ, List.getElem?_cons_zero]; rfl) rfl (fun K hK => ?_)
                go_simp
                refine (rows_n z39_3 rfl (by decide) (by simp [z1]) len1 (HW.out.fr ((FR6.out).then q3))).mono ?_
                rintro e X4 ⟨A40, c40, rfl, k40, k40m, o40_4, -, f4⟩
                have hap : ∀ g, Value.ownBlock (.slice A40 14 c40) = some g → ¬ g = B1 := fun g hg => by have := (o40_4.lt g hg).1; have := lt_of_own m41_3; omega
                have o40b_4 : w6.heap.size ≤ X3.heap.size := q3.size
                have z39_4 := z39_3.fr f4
                have z42_4 := z42_3.fr f4
                have m41_4 := own_keep m41_3 (fun g hg => f4.block g (m41_3.lt g hg).2 (fun x => x))
                have q4 := q3.then f4
                try dsimp only
                refine hK.out _ _ ⟨trivial, ?_⟩
                refine J_all (rs := [4]) (by kernel_rfl) (by simp) (fun i hi => ?_)
                obtain rfl := List.mem_singleton.1 hi
                · refine J_oneH (by simp only [List.getElem?_toArray, List.getElem?_cons_succ, List.getElem?_cons_zero]; rfl) rfl (fun K hK => ?_)
                  go_simp
                  refine (rows_n z42_4 rfl (by decide) (by simp [z2]) (by decide : (segB ([2].map syncD)).length = 14) (HW.out.fr ((FR6.out).then q4))).mono ?_
                  rintro e X5 ⟨A43, c43, rfl, k43, k43m, -, r43_5, f5⟩
                  have z39_5 := z39_4.fr f5
                  have z42_5 := z42_4.fr f5
                  have o40_5 := own_keep o40_4 (fun g hg => f5.block g (o40_4.lt g hg).2 (fun x => x))
                  have m41_5 := own_keep m41_4 (fun g hg => f5.block g (m41_4.lt g hg).2 (fun x => x))
                  have q5 := q4.then f5
                  try dsimp only
                  refine hK.out _ _ ⟨trivial, ?_⟩
                  refine J_all (rs := [5]) (by kernel_rfl) (by simp) (fun i hi => ?_)
                  obtain rfl := List.mem_singleton.1 hi
                  · refine J_oneH (by simp only [List.getElem?_toArray, List.getElem?_cons_succ, List.getElem?_cons_zero]; rfl) rfl (fun K hK => ?_)
                    refine wp_append_src X5 (.tmp 41) (.tmp 43) 22 rfl B1 5 i0 (.int .u8 0) 1 1 Tryd.underlying22 hi0 hz0 hz1 hz2 rfl (by decide) (.slice (some ⟨B1, 0, none⟩) 8 8) 8 _ rfl m41_5 A43 14 c43 (bv (segB (([2] : List Int).map syncD))) rfl (by rw [bv_length]; decide) (fun _ => r43_5.srcs (by decide)) (bv_one _) (by decide) (by decide) (Nat.le_of_lt (lt_of_own m41_5)) ?_
                    intro v44 X6 h6
                    have o44 : X6.ownsRow B1 5 1 v44 bz8.length (bv bz8) := by rw [bz8_len]; show X6.ownsRow _ _ _ _ _ (bv (_ ++ _)); rw [bv_append]; exact h6.own
                    have o40_6 := own_keep o40_5 (fun g hg => h6.fr.block g (o40_5.lt g hg).2 (fun hx => hap g hg (by simpa [Value.ownBlock] using hx.symm)))
                    have q6 := q5.upE h6.fr (fun g hg => by (have h1 : B1 = g := (by simpa [Value.ownBlock] using hg)); have := m41b_1; omega)
                    obtain ⟨A44, c44, rfl, -, -⟩ := own_form o44
                    have r44 := own_rd o44
                    rw [bz8_len]
                    try simp only [Act.put, List.setIfInBounds_toArray, List.set_cons_zero, List.set_cons_succ]
                    refine hK.out _ _ ⟨trivial, ?_⟩
                    refine J_all (rs := [6]) (by kernel_rfl) (by simp) (fun i hi => ?_)
                    obtain rfl := List.mem_singleton.1 hi
                    · refine J_oneH (by simp only [List.getElem?_toArray, List.getElem?_cons_succ, List.getElem?_cons_zero]; rfl) rfl (fun K hK => ?_)
                      refine wp_append_src X6 (.tmp 40) (.tmp 44) 22 rfl _ 5 i0 (.int .u8 0) 1 1 Tryd.underlying22 hi0 hz0 hz1 hz2 rfl (by decide) (.slice A40 14 c40) 14 _ rfl o40_6 A44 22 c44 (bv bz8) rfl (by rw [bv_length, bz8_len]) (fun _ => r44.srcs (by rw [bz8_len]; decide)) (bv_one _) (by decide) (by decide) (by have := q6.size; have := (o40_6); first | exact own_base_le this (by decide) | omega) ?_
                      intro v45 X7 h7
                      have q7 := q6.upE h7.fr (fun g hg => by have := (o40_6.lt g hg).1; have := o40b_4; omega)
                      have o45 := h7.own
                      have o46 : X7.ownsRow w6.heap.size 5 1 v45 bNN.length (bv bNN) := by rw [bNN_len]; show X7.ownsRow _ _ _ _ _ (bv (_ ++ _)); rw [bv_append]; exact own_lowx o45 o40b_4
                      obtain ⟨A45, c45, rfl, k45, k45m⟩ := own_form o46
                      have r45 := own_rd o46
                      rw [bNN_len] at k45 ⊢
                      try simp only [Act.put, List.setIfInBounds_toArray, List.set_cons_zero, List.set_cons_succ]
                      refine hK.out _ _ ⟨trivial, ?_⟩
                      refine J_all (rs := [7]) (by kernel_rfl) (by simp) (fun i hi => ?_)
                      obtain rfl := List.mem_singleton.1 hi
                      · refine J_oneH (by simp only [List.getElem?_toArray, List.getElem?_cons_succ, List.getElem?_cons_zero]; rfl) rfl (fun K hK => ?_)
                        go_simp
                        try simp only [List.setIfInBounds_toArray, List.set_cons_zero, List.set_cons_succ]
                        refine hK.out _ _ ⟨trivial, ?_⟩
                        try simp only [List.setIfInBounds_toArray, List.set_cons_zero, List.set_cons_succ]
                        refine J_done (by kernel_rfl) ?_
                        exact ⟨_, _, _, _, _, _, _, _, rfl, k45, k45m, r45, q7⟩
        · refine J_oneH (by simp only [List.getElem?_toArray, List.getElem?_cons_succ, List.getElem?_cons_zero]; rfl) rfl (fun K hK => ?_)
          go_simp
          obtain ⟨X1, e1⟩ : ∃ X1, World.alloc X0 (.cells #[.int .i64 2] 24) = X1 := ⟨_, rfl⟩
          obtain ⟨B1, b1⟩ : ∃ B1, X0.heap.size = B1 := ⟨_, rfl⟩
          have f1 : Fr NoB X0 X1 := by rw [← e1]; exact (Fr.refl NoB _).alloc _
          have z42_1 : RdZ X1 (some ⟨B1, 0, none⟩) [2] := by rw [← e1, ← b1]; exact RdZ.new _ [2] _
          rw [e1, b1]
          clear e1 b1
          have q1 := q0.then f1
          try simp only [Act.put, List.setIfInBounds_toArray, List.set_cons_zero, List.set_cons_succ]
          refine hK.out _ _ ⟨trivial, ?_⟩
          refine J_all (rs := [0, 2]) (by kernel_rfl) (by simp) (fun i hi => ?_)
          simp only [List.mem_cons, List.not_mem_nil, or_false] at hi
          rcases hi with rfl | rfl
          · refine J_oneH (by simp only [List.getElem?_toArray, List.getElem?_cons_zero]; rfl) rfl (fun K hK => ?_)
            go_simp
            obtain ⟨X2, e2⟩ : ∃ X2, World.alloc X1 (.cells #[.int .i64 1] 24) = X2 := ⟨_, rfl⟩
            obtain ⟨B2, b2⟩ : ∃ B2, X1.heap.size = B2 := ⟨_, rfl⟩
            have f2 : Fr NoB X1 X2 := by rw [← e2]; exact (Fr.refl NoB _).alloc _
            have z39_2 : RdZ X2 (some ⟨B2, 0, none⟩) [1] := by rw [← e2, ← b2]; exact RdZ.new _ [1] _
            rw [e2, b2]
            clear e2 b2
            have z42_2 := z42_1.fr f2
            have q2 := q1.then f2
            try simp only [Act.put, List.setIfInBounds_toArray, List.set_cons_zero, List.set_cons_succ]
            refine hK.out _ _ ⟨trivial, ?_⟩
            refine J_all (rs := [1, 2]) (by kernel_rfl) (by simp) (fun i hi => ?_)
            simp only [List.mem_cons, List.not_mem_nil, or_false] at hi
            rcases hi with rfl | rfl
            · refine J_oneH (by simp only [List.getElem?_toArray, List.getElem?_cons_succ, List.getElem?_cons_zero]; rfl) rfl (fun K hK => ?_)
              go_simp
              refine (rows_n z39_2 rfl (by decide) (by simp [z1]) len1 (HW.out.fr ((FR6.out).then q2))).mono ?_
              rintro e X3 ⟨A40, c40, rfl, k40, k40m, o40_3, -, f3⟩
              have o40b_3 : w6.heap.size ≤ X2.heap.size := q2.size
              have z39_3 := z39_2.fr f3
              have z42_3 := z42_2.fr f3
              have q3 := q2.then f3
              try dsimp only
              refine hK.out _ _ ⟨trivial, ?_⟩
              refine J_all (rs := [2, 4]) (by kernel_rfl) (by simp) (fun i hi => ?_)
              simp only [List.mem_cons, List.not_mem_nil, or_false] at hi
              rcases hi with rfl | rfl
              · refine J_oneH (by simp only [List.getElem?_toArray, List.getElem?_cons_succ, List.getElem?_cons_zero]; rfl) rfl (fun K hK => ?_)
                go_simp
                obtain ⟨X4, e4⟩ : ∃ X4, World.alloc X3 (.cells M8 5) = X4 := ⟨_, rfl⟩
                obtain ⟨B4, b4⟩ : ∃ B4, X3.heap.size = B4 := ⟨_, rfl⟩
                have f4 : Fr NoB X3 X4 := by rw [← e4]; exact (Fr.refl NoB _).alloc _
                have m41_4 : X4.ownsRow B4 5 1 (.slice (some ⟨B4, 0, none⟩) 8 8) 8 (bv (List.replicate 8 0)) := by rw [← e4, ← b4]; exact HM8.out _
                have m41b_4 : w6.heap.size ≤ B4 := by rw [← b4]; exact q3.size
                have hap : ∀ g, Value.ownBlock (.slice A40 14 c40) = some g → ¬ g = B4 := fun g hg => by have := (o40_3.lt g hg).2; omega
                rw [e4, b4]
                clear e4 b4
                have z39_4 := z39_3.fr f4
                have z42_4 := z42_3.fr f4
                have o40_4 := own_keep o40_3 (fun g hg => f4.block g (o40_3.lt g hg).2 (fun x => x))
                have q4 := q3.then f4
                try simp only [Act.put, List.setIfInBounds_toArray, List.set_cons_zero, List.set_cons_succ]
                refine hK.out _ _ ⟨trivial, ?_⟩
                refine J_all (rs := [4]) (by kernel_rfl) (by simp) (fun i hi => ?_)
                obtain rfl := List.mem_singleton.1 hi
                · refine J_oneH (by simp only [List.getElem?_toArray, List.getElem?_cons_succ, List.getElem?_cons_zero]; rfl) rfl (fun K hK => ?_)
                  go_simp
                  refine (rows_n z42_4 rfl (by decide) (by simp [z2]) (by decide : (segB ([2].map syncD)).length = 14) (HW.out.fr ((FR6.out).then q4))).mono ?_
                  rintro e X5 ⟨A43, c43, rfl, k43, k43m, -, r43_5, f5⟩
                  have z39_5 := z39_4.fr f5
                  have z42_5 := z42_4.fr f5
                  have o40_5 := own_keep o40_4 (fun g hg => f5.block g (o40_4.lt g hg).2 (fun x => x))
                  have m41_5 := own_keep m41_4 (fun g hg => f5.block g (m41_4.lt g hg).2 (fun x => x))
                  have q5 := q4.then f5
                  try dsimp only
                  refine hK.out _ _ ⟨trivial, ?_⟩
                  refine J_all (rs := [5]) (by kernel_rfl) (by simp) (fun i hi => ?_)
                  obtain rfl := List.mem_singleton.1 hi
                  · refine J_oneH (by simp only [List.getElem?_toArray, List.getElem?_cons_succ, List.getElem?_cons_zero]; rfl) rfl (fun K hK => ?_)
                    refine wp_append_src X5 (.tmp 41) (.tmp 43) 22 rfl B4 5 i0 (.int .u8 0) 1 1 Tryd.underlying22 hi0 hz0 hz1 hz2 rfl (by decide) (.slice (some ⟨B4, 0, none⟩) 8 8) 8 _ rfl m41_5 A43 14 c43 (bv (segB (([2] : List Int).map syncD))) rfl (by rw [bv_length]; decide) (fun _ => r43_5.srcs (by decide)) (bv_one _) (by decide) (by decide) (Nat.le_of_lt (lt_of_own m41_5)) ?_
                    intro v44 X6 h6
                    have o44 : X6.ownsRow B4 5 1 v44 bz8.length (bv bz8) := by rw [bz8_len]; show X6.ownsRow _ _ _ _ _ (bv (_ ++ _)); rw [bv_append]; exact h6.own
                    have o40_6 := own_keep o40_5 (fun g hg => h6.fr.block g (o40_5.lt g hg).2 (fun hx => hap g hg (by simpa [Value.ownBlock] using hx.symm)))
                    have q6 := q5.upE h6.fr (fun g hg => by (have h1 : B4 = g := (by simpa [Value.ownBlock] using hg)); have := m41b_4; omega)
                    obtain ⟨A44, c44, rfl, -, -⟩ := own_form o44
                    have r44 := own_rd o44
                    rw [bz8_len]
                    try simp only [Act.put, List.setIfInBounds_toArray, List.set_cons_zero, List.set_cons_succ]
                    refine hK.out _ _ ⟨trivial, ?_⟩
                    refine J_all (rs := [6]) (by kernel_rfl) (by simp) (fun i hi => ?_)
                    obtain rfl := List.mem_singleton.1 hi
                    · refine J_oneH (by simp only [List.getElem?_toArray, List.getElem?_cons_succ, List.getElem?_cons_zero]; rfl) rfl (fun K hK => ?_)
                      refine wp_append_src X6 (.tmp 40) (.tmp 44) 22 rfl _ 5 i0 (.int .u8 0) 1 1 Tryd.underlying22 hi0 hz0 hz1 hz2 rfl (by decide) (.slice A40 14 c40) 14 _ rfl o40_6 A44 22 c44 (bv bz8) rfl (by rw [bv_length, bz8_len]) (fun _ => r44.srcs (by rw [bz8_len]; decide)) (bv_one _) (by decide) (by decide) (by have := q6.size; have := (o40_6); first | exact own_base_le this (by decide) | omega) ?_
                      intro v45 X7 h7
                      have q7 := q6.upE h7.fr (fun g hg => by have := (o40_6.lt g hg).1; have := o40b_3; omega)
                      have o45 := h7.own
                      have o46 : X7.ownsRow w6.heap.size 5 1 v45 bNN.length (bv bNN) := by rw [bNN_len]; show X7.ownsRow _ _ _ _ _ (bv (_ ++ _)); rw [bv_append]; exact own_lowx o45 o40b_3
                      obtain ⟨A45, c45, rfl, k45, k45m⟩ := own_form o46
                      have r45 := own_rd o46
                      rw [bNN_len] at k45 ⊢
                      try simp only [Act.put, List.setIfInBounds_toArray, List.set_cons_zero, List.set_cons_succ]
                      refine hK.out _ _ ⟨trivial, ?_⟩
                      refine J_all (rs := [7]) (by kernel_rfl) (by simp) (fun i hi => ?_)
                      obtain rfl := List.mem_singleton.1 hi
                      · refine J_oneH (by simp only [List.getElem?_toArray, List.getElem?_cons_succ, List.getElem?_cons_zero]; rfl) rfl (fun K hK => ?_)
                        go_simp
                        try simp only [List.setIfInBounds_toArray, List.set_cons_zero, List.set_cons_succ]
                        refine hK.out _ _ ⟨trivial, ?_⟩
                        try simp only [List.setIfInBounds_toArray, List.set_cons_zero, List.set_cons_succ]
                        refine J_done (by kernel_rfl) ?_
                        exact ⟨_, _, _, _, _, _, _, _, rfl, k45, k45m, r45, q7⟩
              · refine J_oneH (by simp only [List.getElem?_toArray, List.getElem?_cons_succ, List.getElem?_cons_zero]; rfl) rfl (fun K hK => ?_)
                go_simp
                refine (rows_n z42_3 rfl (by decide) (by simp [z2]) (by decide : (segB ([2].map syncD)).length = 14) (HW.out.fr ((FR6.out).then q3))).mono ?_
                rintro e X4 ⟨A43, c43, rfl, k43, k43m, -, r43_4, f4⟩
                have z39_4 := z39_3.fr f4
                have z42_4 := z42_3.fr f4
                have o40_4 := own_keep o40_3 (fun g hg => f4.block g (o40_3.lt g hg).2 (fun x => x))
                have q4 := q3.then f4
                try dsimp only
                refine hK.out _ _ ⟨trivial, ?_⟩
                refine J_all (rs := [2]) (by kernel_rfl) (by simp) (fun i hi => ?_)
                obtain rfl := List.mem_singleton.1 hi
                · refine J_oneH (by simp only [List.getElem?_toArray, List.getElem?_cons_succ, List.getElem?_cons_zero]; rfl) rfl (fun K hK => ?_)
                  go_simp
                  obtain ⟨X5, e5⟩ : ∃ X5, World.alloc X4 (.cells M8 5) = X5 := ⟨_, rfl⟩
                  obtain ⟨B5, b5⟩ : ∃ B5, X4.heap.size = B5 := ⟨_, rfl⟩
                  have f5 : Fr NoB X4 X5 := by rw [← e5]; exact (Fr.refl NoB _).alloc _
                  have m41_5 : X5.ownsRow B5 5 1 (.slice (some ⟨B5, 0, none⟩) 8 8) 8 (bv (List.replicate 8 0)) := by rw [← e5, ← b5]; exact HM8.out _
                  have m41b_5 : w6.heap.size ≤ B5 := by rw [← b5]; exact q4.size
                  have hap : ∀ g, Value.ownBlock (.slice A40 14 c40) = some g → ¬ g = B5 := fun g hg => by have := (o40_4.lt g hg).2; omega
                  rw [e5, b5]
                  clear e5 b5
                  have z39_5 := z39_4.fr f5
                  have z42_5 := z42_4.fr f5
                  have o40_5 := own_keep o40_4 (fun g hg => f5.block g (o40_4.lt g hg).2 (fun x => x))
                  have r43_5 := r43_4.fr f5 (Nat.le_refl _) (fun _ _ _ x => x)
                  have q5 := q4.then f5
                  try simp only [Act.put, List.setIfInBounds_toArray, List.set_cons_zero, List.set_cons_succ]
                  refine hK.out _ _ ⟨trivial, ?_⟩
                  refine J_all (rs := [5]) (by kernel_rfl) (by simp) (fun i hi => ?_)
                  obtain rfl := List.mem_singleton.1 hi
                  · refine J_oneH (by simp only [List.getElem?_toArray, List.getElem?_cons_succ, List.getElem?_cons_zero]; rfl) rfl (fun K hK => ?_)
                    refine wp_append_src X5 (.tmp 41) (.tmp 43) 22 rfl B5 5 i0 (.int .u8 0) 1 1 Tryd.underlying22 hi0 hz0 hz1 hz2 rfl (by decide) (.slice (some ⟨B5, 0, none⟩) 8 8) 8 _ rfl m41_5 A43 14 c43 (bv (segB (([2] : List Int).map syncD))) rfl (by rw [bv_length]; decide) (fun _ => r43_5.srcs (by decide)) (bv_one _) (by decide) (by decide) (Nat.le_of_lt (lt_of_own m41_5)) ?_
                    intro v44 X6 h6
                    have o44 : X6.ownsRow B5 5 1 v44 bz8.length (bv bz8) := by rw [bz8_len]; show X6.ownsRow _ _ _ _ _ (bv (_ ++ _)); rw [bv_append]; exact h6.own
                    have o40_6 := own_keep o40_5 (fun g hg => h6.fr.block g (o40_5.lt g hg).2 (fun hx => hap g hg (by simpa [Value.ownBlock] using hx.symm)))
                    have q6 := q5.upE h6.fr (fun g hg => by (have h1 : B5 = g := (by simpa [Value.ownBlock] using hg)); have := m41b_5; omega)
                    obtain ⟨A44, c44, rfl, -, -⟩ := own_form o44
                    have r44 := own_rd o44
                    rw [bz8_len]
                    try simp only [Act.put, List.setIfInBounds_toArray, List.set_cons_zero, List.set_cons_succ]
                    refine hK.out _ _ ⟨trivial, ?_⟩
                    refine J_all (rs := [6]) (by kernel_rfl) (by simp) (fun i hi => ?_)
                    obtain rfl := List.mem_singleton.1 hi
                    · refine J_oneH (by simp only [List.getElem?_toArray, List.getElem?_cons_succ, List.getElem?_cons_zero]; rfl) rfl (fun K hK => ?_)
                      refine wp_append_src X6 (.tmp 40) (.tmp 44) 22 rfl _ 5 i0 (.int .u8 0) 1 1 Tryd.underlying22 hi0 hz0 hz1 hz2 rfl (by decide) (.slice A40 14 c40) 14 _ rfl o40_6 A44 22 c44 (bv bz8) rfl (by rw [bv_length, bz8_len]) (fun _ => r44.srcs (by rw [bz8_len]; decide)) (bv_one _) (by decide) (by decide) (by have := q6.size; have := (o40_6); first | exact own_base_le this (by decide) | omega) ?_
                      intro v45 X7 h7
                      have q7 := q6.upE h7.fr (fun g hg => by have := (o40_6.lt g hg).1; have := o40b_3; omega)
                      have o45 := h7.own
                      have o46 : X7.ownsRow w6.heap.size 5 1 v45 bNN.length (bv bNN) := by rw [bNN_len]; show X7.ownsRow _ _ _ _ _ (bv (_ ++ _)); rw [bv_append]; exact own_lowx o45 o40b_3
                      obtain ⟨A45, c45, rfl, k45, k45m⟩ := own_form o46
                      have r45 := own_rd o46
                      rw [bNN_len] at k45 ⊢
                      try simp only [Act.put, List.setIfInBounds_toArray, List.set_cons_zero, List.set_cons_succ]
                      refine hK.out _ _ ⟨trivial, ?_⟩
                      refine J_all (rs := [7]) (by kernel_rfl) (by simp) (fun i hi => ?_)
                      obtain rfl := List.mem_singleton.1 hi
                      · refine J_oneH (by simp only [List.getElem?_toArray, List.getElem?_cons_succ, List.getElem?_cons_zero]; rfl) rfl (fun K hK => ?_)
                        go_simp
                        try simp only [List.setIfInBounds_toArray, List.set_cons_zero, List.set_cons_succ]
                        refine hK.out _ _ ⟨trivial, ?_⟩
                        try simp only [List.setIfInBounds_toArray, List.set_cons_zero, List.set_cons_succ]
                        refine J_done (by kernel_rfl) ?_
                        exact ⟨_, _, _, _, _, _, _, _, rfl, k45, k45m, r45, q7⟩
            · refine J_oneH (by simp only [List.getElem?_toArray, List.getElem?_cons_succ, List.getElem?_cons_zero]; rfl) rfl (fun K hK => ?_)
              go_simp
              obtain ⟨X3, e3⟩ : ∃ X3, World.alloc X2 (.cells M8 5) = X3 := ⟨_, rfl⟩
              obtain ⟨B3, b3⟩ : ∃ B3, X2.heap.size = B3 := ⟨_, rfl⟩
              have f3 : Fr NoB X2 X3 := by rw [← e3]; exact (Fr.refl NoB _).alloc _
              have m41_3 : X3.ownsRow B3 5 1 (.slice (some ⟨B3, 0, none⟩) 8 8) 8 (bv (List.replicate 8 0)) := by rw [← e3, ← b3]; exact HM8.out _
              have m41b_3 : w6.heap.size ≤ B3 := by rw [← b3]; exact q2.size
              rw [e3, b3]
              clear e3 b3
              have z39_3 := z39_2.fr f3
              have z42_3 := z42_2.fr f3
              have q3 := q2.then f3
              try simp only [Act.put, List.setIfInBounds_toArray, List.set_cons_zero, List.set_cons_succ]
              refine hK.out _ _ ⟨trivial, ?_⟩
              refine J_all (rs := [1]) (by kernel_rfl) (by simp) (fun i hi => ?_)
              obtain rfl := List.mem_singleton.1 hi
              · refine J_oneH (by simp only [List.getElem?_toArray, List.getElem?_cons_succ, List.getElem?_cons_zero]; rfl) rfl (fun K hK => ?_)
                go_simp
                refine (rows_n z39_3 rfl (by decide) (by simp [z1]) len1 (HW.out.fr ((FR6.out).then q3))).mono ?_
                rintro e X4 ⟨A40, c40, rfl, k40, k40m, o40_4, -, f4⟩
                have hap : ∀ g, Value.ownBlock (.slice A40 14 c40) = some g → ¬ g = B3 := fun g hg => by have := (o40_4.lt g hg).1; have := lt_of_own m41_3; omega
                have o40b_4 : w6.heap.size ≤ X3.heap.size := q3.size
                have z39_4 := z39_3.fr f4
                have z42_4 := z42_3.fr f4
                have m41_4 := own_keep m41_3 (fun g hg => f4.block g (m41_3.lt g hg).2 (fun x => x))
                have q4 := q3.then f4
                try dsimp only
                refine hK.out _ _ ⟨trivial, ?_⟩
                refine J_all (rs := [4]) (by kernel_rfl) (by simp) (fun i hi => ?_)
                obtain rfl := List.mem_singleton.1 hi
                · refine J_oneH (by simp only [List.getElem?_toArray, List.getElem?_cons_succ, List.getElem?_cons_zero]; rfl) rfl (fun K hK => ?_)
                  go_simp
                  refine (rows_n z42_4 rfl (by decide) (by simp [z2]) (by decide : (segB ([2].map syncD)).length = 14) (HW.out.fr ((FR6.out).then q4))).mono ?_
                  rintro e X5 ⟨A43, c43, rfl, k43, k43m, -, r43_5, f5⟩
                  have z39_5 := z39_4.fr f5
                  have z42_5 := z42_4.fr f5
                  have o40_5 := own_keep o40_4 (fun g hg => f5.block g (o40_4.lt g hg).2 (fun x => x))
                  have m41_5 := own_keep m41_4 (fun g hg => f5.block g (m41_4.lt g hg).2 (fun x => x))
                  have q5 := q4.then f5
                  try dsimp only
                  refine hK.out _ _ ⟨trivial, ?_⟩
                  refine J_all (rs := [5]) (by kernel_rfl) (by simp) (fun i hi => ?_)
                  obtain rfl := List.mem_singleton.1 hi
                  · refine J_oneH (by simp only [List.getElem?_toArray, List.getElem?_cons_succ, List.getElem?_cons_zero]; rfl) rfl (fun K hK => ?_)
                    refine wp_append_src X5 (.tmp 41) (.tmp 43) 22 rfl B3 5 i0 (.int .u8 0) 1 1 Tryd.underlying22 hi0 hz0 hz1 hz2 rfl (by decide) (.slice (some ⟨B3, 0, none⟩) 8 8) 8 _ rfl m41_5 A43 14 c43 (bv (segB (([2] : List Int).map syncD))) rfl (by rw [bv_length]; decide) (fun _ => r43_5.srcs (by decide)) (bv_one _) (by decide) (by decide) (Nat.le_of_lt (lt_of_own m41_5)) ?_
                    intro v44 X6 h6
                    have o44 : X6.ownsRow B3 5 1 v44 bz8.length (bv bz8) := by rw [bz8_len]; show X6.ownsRow _ _ _ _ _ (bv (_ ++ _)); rw [bv_append]; exact h6.own
                    have o40_6 := own_keep o40_5 (fun g hg => h6.fr.block g (o40_5.lt g hg).2 (fun hx => hap g hg (by simpa [Value.ownBlock] using hx.symm)))
                    have q6 := q5.upE h6.fr (fun g hg => by (have h1 : B3 = g := (by simpa [Value.ownBlock] using hg)); have := m41b_3; omega)
                    obtain ⟨A44, c44, rfl, -, -⟩ := own_form o44
                    have r44 := own_rd o44
                    rw [bz8_len]
                    try simp only [Act.put, List.setIfInBounds_toArray, List.set_cons_zero, List.set_cons_succ]
                    refine hK.out _ _ ⟨trivial, ?_⟩
                    refine J_all (rs := [6]) (by kernel_rfl) (by simp) (fun i hi => ?_)
                    obtain rfl := List.mem_singleton.1 hi
                    · refine J_oneH (by simp only [List.getElem?_toArray, List.getElem?_cons_succ, List.getElem?_cons_zero]; rfl) rfl (fun K hK => ?_)
                      refine wp_append_src X6 (.tmp 40) (.tmp 44) 22 rfl _ 5 i0 (.int .u8 0) 1 1 Tryd.underlying22 hi0 hz0 hz1 hz2 rfl (by decide) (.slice A40 14 c40) 14 _ rfl o40_6 A44 22 c44 (bv bz8) rfl (by rw [bv_length, bz8_len]) (fun _ => r44.srcs (by rw [bz8_len]; decide)) (bv_one _) (by decide) (by decide) (by have := q6.size; have := (o40_6); first | exact own_base_le this (by decide) | omega) ?_
                      intro v45 X7 h7
                      have q7 := q6.upE h7.fr (fun g hg => by have := (o40_6.lt g hg).1; have := o40b_4; omega)
                      have o45 := h7.own
                      have o46 : X7.ownsRow w6.heap.size 5 1 v45 bNN.length (bv bNN) := by rw [bNN_len]; show X7.ownsRow _ _ _ _ _ (bv (_ ++ _)); rw [bv_append]; exact own_lowx o45 o40b_4
                      obtain ⟨A45, c45, rfl, k45, k45m⟩ := own_form o46
                      have r45 := own_rd o46
                      rw [bNN_len] at k45 ⊢
                      try simp only [Act.put, List.setIfInBounds_toArray, List.set_cons_zero, List.set_cons_succ]
                      refine hK.out _ _ ⟨trivial, ?_⟩
                      refine J_all (rs := [7]) (by kernel_rfl) (by simp) (fun i hi => ?_)
                      obtain rfl := List.mem_singleton.1 hi
                      · refine J_oneH (by simp only [List.getElem?_toArray, List.getElem?_cons_succ, List.getElem?_cons_zero]; rfl) rfl (fun K hK => ?_)
                        go_simp
                        try simp only [List.setIfInBounds_toArray, List.set_cons_zero, List.set_cons_succ]
                        refine hK.out _ _ ⟨trivial, ?_⟩
                        try simp only [List.setIfInBounds_toArray, List.set_cons_zero, List.set_cons_succ]
                        refine J_done (by kernel_rfl) ?_
                        exact ⟨_, _, _, _, _, _, _, _, rfl, k45, k45m, r45, q7⟩
          · refine J_oneH (by simp only [List.getElem?_toArray, List.getElem?_cons_succ, List.getElem?_cons_zero]; rfl) rfl (fun K hK => ?_)
            go_simp
            obtain ⟨X2, e2⟩ : ∃ X2, World.alloc X1 (.cells M8 5) = X2 := ⟨_, rfl⟩
            obtain ⟨B2, b2⟩ : ∃ B2, X1.heap.size = B2 := ⟨_, rfl⟩
            have f2 : Fr NoB X1 X2 := by rw [← e2]; exact (Fr.refl NoB _).alloc _
            have m41_2 : X2.ownsRow B2 5 1 (.slice (some ⟨B2, 0, none⟩) 8 8) 8 (bv (List.replicate 8 0)) := by rw [← e2, ← b2]; exact HM8.out _
            have m41b_2 : w6.heap.size ≤ B2 := by rw [← b2]; exact q1.size
            rw [e2, b2]
            clear e2 b2
            have z42_2 := z42_1.fr f2
            have q2 := q1.then f2
            try simp only [Act.put, List.setIfInBounds_toArray, List.set_cons_zero, List.set_cons_succ]
            refine hK.out _ _ ⟨trivial, ?_⟩
            refine J_all (rs := [0]) (by kernel_rfl) (by simp) (fun i hi => ?_)
            obtain rfl := List.mem_singleton.1 hi
            · refine J_oneH (by simp only [List.getElem?_toArray, List.getElem?_cons_zero]; rfl) rfl (fun K hK => ?_)
              go_simp
              obtain ⟨X3, e3⟩ : ∃ X3, World.alloc X2 (.cells #[.int .i64 1] 24) = X3 := ⟨_, rfl⟩
              obtain ⟨B3, b3⟩ : ∃ B3, X2.heap.size = B3 := ⟨_, rfl⟩
              have f3 : Fr NoB X2 X3 := by rw [← e3]; exact (Fr.refl NoB _).alloc _
              have z39_3 : RdZ X3 (some ⟨B3, 0, none⟩) [1] := by rw [← e3, ← b3]; exact RdZ.new _ [1] _
              rw [e3, b3]
              clear e3 b3
              have z42_3 := z42_2.fr f3
              have m41_3 := own_keep m41_2 (fun g hg => f3.block g (m41_2.lt g hg).2 (fun x => x))
              have q3 := q2.then f3
              try simp only [Act.put, List.setIfInBounds_toArray, List.set_cons_zero, List.set_cons_succ]
              refine hK.out _ _ ⟨trivial, ?_⟩
              refine J_all (rs := [1]) (by kernel_rfl) (by simp) (fun i hi => ?_)
              obtain rfl := List.mem_singleton.1 hi
              · refine J_oneH (by simp only [List.getElem?_toArray, List.getElem?_cons_succ, List.getElem?_cons_zero]; rfl) rfl (fun K hK => ?_)
                go_simp
                refine (rows_n z39_3 rfl (by decide) (by simp [z1]) len1 (HW.out.fr ((FR6.out).then q3))).mono ?_
                rintro e X4 ⟨A40, c40, rfl, k40, k40m, o40_4, -, f4⟩
                have hap : ∀ g, Value.ownBlock (.slice A40 14 c40) = some g → ¬ g = B2 := fun g hg => by have := (o40_4.lt g hg).1; have := lt_of_own m41_3; omega
                have o40b_4 : w6.heap.size ≤ X3.heap.size := q3.size
                have z39_4 := z39_3.fr f4
                have z42_4 := z42_3.fr f4
                have m41_4 := own_keep m41_3 (fun g hg => f4.block g (m41_3.lt g hg).2 (fun x => x))
                have q4 := q3.then f4
                try dsimp only
                refine hK.out _ _ ⟨trivial, ?_⟩
                refine J_all (rs := [4]) (by kernel_rfl) (by simp) (fun i hi => ?_)
                obtain rfl := List.mem_singleton.1 hi
                · refine J_oneH (by simp only [List.getElem?_toArray, List.getElem?_cons_succ, List.getElem?_cons_zero]; rfl) rfl (fun K hK => ?_)
                  go_simp
                  refine (rows_n z42_4 rfl (by decide) (by simp [z2]) (by decide : (segB ([2].map syncD)).length = 14) (HW.out.fr ((FR6.out).then q4))).mono ?_
                  rintro e X5 ⟨A43, c43, rfl, k43, k43m, -, r43_5, f5⟩
                  have z39_5 := z39_4.fr f5
                  have z42_5 := z42_4.fr f5
                  have o40_5 := own_keep o40_4 (fun g hg => f5.block g (o40_4.lt g hg).2 (fun x => x))
                  have m41_5 := own_keep m41_4 (fun g hg => f5.block g (m41_4.lt g hg).2 (fun x => x))
                  have q5 := q4.then f5
                  try dsimp only
                  refine hK.out _ _ ⟨trivial, ?_⟩
                  refine J_all (rs := [5]) (by kernel_rfl) (by simp) (fun i hi => ?_)
                  obtain rfl := List.mem_singleton.1 hi
                  · refine J_oneH (by simp only [List.getElem?_toArray, List.getElem?_cons_succ, List.getElem?_cons_zero]; rfl) rfl (fun K hK => ?_)
                    refine wp_append_src X5 (.tmp 41) (.tmp 43) 22 rfl B2 5 i0 (.int .u8 0) 1 1 Tryd.underlying22 hi0 hz0 hz1 hz2 rfl (by decide) (.slice (some ⟨B2, 0, none⟩) 8 8) 8 _ rfl m41_5 A43 14 c43 (bv (segB (([2] : List Int).map syncD))) rfl (by rw [bv_length]; decide) (fun _ => r43_5.srcs (by decide)) (bv_one _) (by decide) (by decide) (Nat.le_of_lt (lt_of_own m41_5)) ?_
                    intro v44 X6 h6
                    have o44 : X6.ownsRow B2 5 1 v44 bz8.length (bv bz8) := by rw [bz8_len]; show X6.ownsRow _ _ _ _ _ (bv (_ ++ _)); rw [bv_append]; exact h6.own
                    have o40_6 := own_keep o40_5 (fun g hg => h6.fr.block g (o40_5.lt g hg).2 (fun hx => hap g hg (by simpa [Value.ownBlock] using hx.symm)))
                    have q6 := q5.upE h6.fr (fun g hg => by (have h1 : B2 = g := (by simpa [Value.ownBlock] using hg)); have := m41b_2; omega)
                    obtain ⟨A44, c44, rfl, -, -⟩ := own_form o44
                    have r44 := own_rd o44
                    rw [bz8_len]
                    try simp only [Act.put, List.setIfInBounds_toArray, List.set_cons_zero, List.set_cons_succ]
                    refine hK.out _ _ ⟨trivial, ?_⟩
                    refine J_all (rs := [6]) (by kernel_rfl) (by simp) (fun i hi => ?_)
                    obtain rfl := List.mem_singleton.1 hi
                    · refine J_oneH (by simp only [List.getElem?_toArray, List.getElem?_cons_succ, List.getElem?_cons_zero]; rfl) rfl (fun K hK => ?_)
                      refine wp_append_src X6 (.tmp 40) (.tmp 44) 22 rfl _ 5 i0 (.int .u8 0) 1 1 Tryd.underlying22 hi0 hz0 hz1 hz2 rfl (by decide) (.slice A40 14 c40) 14 _ rfl o40_6 A44 22 c44 (bv bz8) rfl (by rw [bv_length, bz8_len]) (fun _ => r44.srcs (by rw [bz8_len]; decide)) (bv_one _) (by decide) (by decide) (by have := q6.size; have := (o40_6); first | exact own_base_le this (by decide) | omega) ?_
                      intro v45 X7 h7
                      have q7 := q6.upE h7.fr (fun g hg => by have := (o40_6.lt g hg).1; have := o40b_4; omega)
                      have o45 := h7.own
                      have o46 : X7.ownsRow w6.heap.size 5 1 v45 bNN.length (bv bNN) := by rw [bNN_len]; show X7.ownsRow _ _ _ _ _ (bv (_ ++ _)); rw [bv_append]; exact own_lowx o45 o40b_4
                      obtain ⟨A45, c45, rfl, k45, k45m⟩ := own_form o46
                      have r45 := own_rd o46
                      rw [bNN_len] at k45 ⊢
                      try simp only [Act.put, List.setIfInBounds_toArray, List.set_cons_zero, List.set_cons_succ]
                      refine hK.out _ _ ⟨trivial, ?_⟩
                      refine J_all (rs := [7]) (by kernel_rfl) (by simp) (fun i hi => ?_)
                      obtain rfl := List.mem_singleton.1 hi
                      · refine J_oneH (by simp only [List.getElem?_toArray, List.getElem?_cons_succ, List.getElem?_cons_zero]; rfl) rfl (fun K hK => ?_)
                        go_simp
                        try simp only [List.setIfInBounds_toArray, List.set_cons_zero, List.set_cons_succ]
                        refine hK.out _ _ ⟨trivial, ?_⟩
                        try simp only [List.setIfInBounds_toArray, List.set_cons_zero, List.set_cons_succ]
                        refine J_done (by kernel_rfl) ?_
                        exact ⟨_, _, _, _, _, _, _, _, rfl, k45, k45m, r45, q7⟩
      rintro a' w7 ⟨x39, x40, x41, x42, x43, x44, A8, cN, rfl, kN8, kN8m, hr8, f8⟩
      simp only [List.setIfInBounds_toArray, List.set_cons_zero, List.set_cons_succ]
      have G7 := Lib.hid (FR6.out.then f8)
      have HB := Lib.hid (HR6.out.fr f8 (Nat.le_refl _) (fun _ _ _ x => x))
      have HBs := Lib.hid f8.size
      have HNN := Lib.hid hr8
      clear f8 hr8 HM8 hmk8 FR6 F36 HR6 F3b
      have E7 := Lib.hid (Fr.refl NoB w7)
      go_wp2_with (fail)
      refine (rows_n (RdZ.new w7 [1, 1, 2] _) rfl (by decide) (by simp [z1, z2]) (by decide : (segB ([1, 1, 2].map syncD)).length = 42) (HW.out.fr (G7.out.then ((Fr.refl NoB w7).alloc _)))).mono ?_
      rintro e w8 ⟨A8, c8, rfl, k8, l8, -, hr8, f8⟩
      have G8 := Lib.hid ((G7.out.then ((Fr.refl NoB w7).alloc (.cells #[.int .i64 1, .int .i64 1, .int .i64 2] 24))).then f8)
      have E8 := Lib.hid ((E7.out.then ((Fr.refl NoB w7).alloc (.cells #[.int .i64 1, .int .i64 1, .int .i64 2] 24))).then f8)
      have HR8 := Lib.hid hr8
      clear f8 hr8
      go_wp2_with (fail)
      refine (tells_n (HR8.out.fr ((Fr.refl NoB w8).alloc _) (Nat.le_refl _) (fun _ _ _ x => x)) (by simp) (RdZ.new w8 [1] _) (by decide) rfl k8 l8 (by decide) (by decide) (by simp [z1]) scan112 (by rw [len1]; rfl) (HW.out.fr (G8.out.then ((Fr.refl NoB w8).alloc _)))).mono ?_
      rintro e w9 ⟨rfl, f9⟩
      have G9 := Lib.hid ((G8.out.then ((Fr.refl NoB w8).alloc (.cells #[.int .i64 1] 24))).then f9)
      have E9 := Lib.hid ((E8.out.then ((Fr.refl NoB w8).alloc (.cells #[.int .i64 1] 24))).then f9)
      clear f9
      go_wp2_with (fail)
      refine (rows_n (RdZ.new w9 [5, 3, 9] _) rfl (by decide) (by simp [z5, z3, z9]) (by decide : (segB ([5, 3, 9].map syncD)).length = 42) (HW.out.fr (G9.out.then ((Fr.refl NoB w9).alloc _)))).mono ?_
      rintro e w10 ⟨A10, c10, rfl, k10, l10, -, hr10, f10⟩
      have G10 := Lib.hid ((G9.out.then ((Fr.refl NoB w9).alloc (.cells #[.int .i64 5, .int .i64 3, .int .i64 9] 24))).then f10)
      have E10 := Lib.hid ((E9.out.then ((Fr.refl NoB w9).alloc (.cells #[.int .i64 5, .int .i64 3, .int .i64 9] 24))).then f10)
      have HR10 := Lib.hid hr10
      clear f10 hr10
      go_wp2_with (fail)
      refine (tells_n (HR10.out.fr ((Fr.refl NoB w10).alloc _) (Nat.le_refl _) (fun _ _ _ x => x)) (by simp) (RdZ.new w10 [5] _) (by decide) rfl k10 l10 (by decide) (by decide) (by simp [z5]) scan539 (by decide) (HW.out.fr (G10.out.then ((Fr.refl NoB w10).alloc _)))).mono ?_
      rintro e w11 ⟨rfl, f11⟩
      have G11 := Lib.hid ((G10.out.then ((Fr.refl NoB w10).alloc (.cells #[.int .i64 5] 24))).then f11)
      have E11 := Lib.hid ((E10.out.then ((Fr.refl NoB w10).alloc (.cells #[.int .i64 5] 24))).then f11)
      clear f11
      go_wp2_with (fail)
      refine (rows_n (RdZ.new w11 [1, 4294967296, 4611686018427387904] _) rfl (by decide) zb (by decide : (segB ([1, 4294967296, 4611686018427387904].map syncD)).length = 55) (HW.out.fr (G11.out.then ((Fr.refl NoB w11).alloc _)))).mono ?_
      rintro e w12 ⟨A12, c12, rfl, k12, l12, -, hr12, f12⟩
      have G12 := Lib.hid ((G11.out.then ((Fr.refl NoB w11).alloc (.cells #[.int .i64 1, .int .i64 4294967296, .int .i64 4611686018427387904] 24))).then f12)
      have E12 := Lib.hid ((E11.out.then ((Fr.refl NoB w11).alloc (.cells #[.int .i64 1, .int .i64 4294967296, .int .i64 4611686018427387904] 24))).then f12)
      have HR12 := Lib.hid hr12
      clear f12 hr12
      go_wp2_with (fail)
      refine (tells_n (HR12.out.fr ((Fr.refl NoB w12).alloc _) (Nat.le_refl _) (fun _ _ _ x => x)) (by simp) (RdZ.new w12 [1, 4294967296, 4611686018427387904] _) (by decide) rfl k12 l12 (by decide) (by decide) zb scanbig (by decide) (HW.out.fr (G12.out.then ((Fr.refl NoB w12).alloc _)))).mono ?_
      rintro e w13 ⟨rfl, f13⟩
      have G13 := Lib.hid ((G12.out.then ((Fr.refl NoB w12).alloc (.cells #[.int .i64 1, .int .i64 4294967296, .int .i64 4611686018427387904] 24))).then f13)
      have E13 := Lib.hid ((E12.out.then ((Fr.refl NoB w12).alloc (.cells #[.int .i64 1, .int .i64 4294967296, .int .i64 4611686018427387904] 24))).then f13)
      clear f13
      go_wp2_with (fail)
      refine (tells_n (HB.out.fr (E13.out.then ((Fr.refl NoB w13).alloc _)) HBs.out (fun _ _ _ x => x)) (Nat.le_trans HBs.out (Nat.le_trans E13.out.size (by simp))) (RdZ.new w13 [1] _) bBT_len rfl hc6 hc6m (by decide) (by decide) (by simp [z1]) scan_betw (by rw [len1]; rfl) (HW.out.fr (G13.out.then ((Fr.refl NoB w13).alloc _)))).mono ?_
      rintro e w14 ⟨rfl, f14⟩
      have G14 := Lib.hid ((G13.out.then ((Fr.refl NoB w13).alloc (.cells #[.int .i64 1] 24))).then f14)
      have E14 := Lib.hid ((E13.out.then ((Fr.refl NoB w13).alloc (.cells #[.int .i64 1] 24))).then f14)
      clear f14
      go_wp2_with (fail)
      refine (tells_n (HNN.out.fr (E14.out.then ((Fr.refl NoB w14).alloc _)) (Nat.le_refl _) (fun _ _ _ x => x)) (Nat.le_trans E14.out.size (by simp)) (RdZ.new w14 [1] _) bNN_len rfl kN8 kN8m (by decide) (by decide) (by simp [z1]) scan_none8 (by rw [len1]; rfl) (HW.out.fr (G14.out.then ((Fr.refl NoB w14).alloc _)))).mono ?_
      rintro e w15 ⟨rfl, f15⟩
      have G15 := Lib.hid ((G14.out.then ((Fr.refl NoB w14).alloc (.cells #[.int .i64 1] 24))).then f15)
      have E15 := Lib.hid ((E14.out.then ((Fr.refl NoB w14).alloc (.cells #[.int .i64 1] 24))).then f15)
      clear f15
      go_wp2_with (fail)
      refine (tells_n (own_rd (l := List.replicate 100 0) (HM9.out w15)) (Nat.le_refl _) (RdZ.nil _ none) (by simp) rfl (by decide) (by decide) (by decide) (by decide) (by simp) scan_zero rfl (HW.out.fr (G15.out.then ((Fr.refl NoB w15).alloc _)))).mono ?_
      rintro e w20 ⟨rfl, f20⟩
      have G20 := Lib.hid ((G15.out.then ((Fr.refl NoB w15).alloc (.cells M9 5))).then f20)
      clear f20
      go_wp2_with (fail)
      refine (awake_calls w20 (HW.out.fr G20.out)).mono ?_
      rintro e w21 ⟨rfl, f21⟩
      go_wp2
      go_ret
      exact ⟨rfl, G20.out.then f21⟩
end Go.Proofs.YtmlmbahimklfiaaDoor
