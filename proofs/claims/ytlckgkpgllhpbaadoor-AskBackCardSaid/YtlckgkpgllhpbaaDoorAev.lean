/-
  Aev: events: happened, PutEvent, GetEvent.
-/
import Derived.Test.YtlckgkpgllhpbaaDoorAge
namespace Go.Proofs.YtlckgkpgllhpbaaDoor
open Go.RowKit

theorem sortrow (w : World) : ∀ i : Nat, i < 3 → (w.alloc (.cells #[.int .u8 1, .int .u8 2, .int .u8 3] 24)).cell? ⟨w.heap.size, i, none⟩ = some (.int .u8 ((i : Int) + 1)) := fun i hi => by
  rw [Lib.cell_of_heap (heap_alloc_new w _)]
  rcases (show i = 0 ∨ i = 1 ∨ i = 2 by omega) with rfl | rfl | rfl <;> rfl
set_option maxHeartbeats 1600000 in
/-- Where a sort stands among the three. -/
theorem sindex_calls (so : Int) (b : Nat) (w : World) (h : ∀ i : Nat, i < 3 → w.cell? ⟨b, i, none⟩ = some (.int .u8 ((i : Int) + 1))) :
    Calls Tryd.prog 101 #[.slice (some ⟨b, 0, none⟩) 3 3, .int .u8 so] w fun e w' => e = .returned (.int .i64 (if 1 ≤ so ∧ so ≤ 3 then so - 1 else -1)) ∧ w' = w := by
  obtain ⟨r, hr⟩ : ∃ r, (if 1 ≤ so ∧ so ≤ 3 then so - 1 else -1) = r := ⟨_, rfl⟩
  rw [hr]
  have HRR := Lib.hid hr
  have H := Lib.hid h
  clear h hr
  go_enter Tryd.func101, Tryd.ntmps101
  go_wp2
  go_loopw [8] (fun i W => ∃ k : Nat, k ≤ 3 ∧ i = .int .i64 (k : Int) ∧ (∀ j : Nat, j < k → so ≠ (j : Int) + 1) ∧ W = w) (fun i _ => 3 - (intOf i).toNat)
  case atStart => exact ⟨0, by omega, rfl, fun j hj => absurd hj (by omega), rfl⟩
  case round =>
    obtain ⟨k, hk, rfl, hno, rfl⟩ := hrel
    have HNO := Lib.hid hno
    clear hno
    by_cases hlt : k < 3
    · have hki : (k : Int) < 3 := by omega
      have hk0 : (0 : Int) ≤ (k : Int) := by omega
      have hc := H.out k hlt
      by_cases he : so = (k : Int) + 1
      · have hb : (so == (k : Int) + 1) = true := by rw [beq_iff_eq]; exact he
        go_wp2
        go_ret
        refine ⟨ret_int ?_, rfl⟩
        rw [← HRR.out, if_pos (by omega)]
        omega
      · have hb : (so == (k : Int) + 1) = false := by rw [beq_eq_false_iff_ne]; exact he
        go_wp2
        go_roundw
        case rel =>
          refine ⟨k + 1, by omega, by go_num, fun j hj => ?_, by first | rfl | trivial⟩
          by_cases hjk : j = k
          · subst hjk; exact he
          · exact HNO.out j (by omega)
        case measure => simp [intOf]; omega
    · obtain rfl : k = 3 := by omega
      go_wp2
      go_ret
      refine ⟨ret_int ?_, rfl⟩
      rw [← HRR.out, if_neg]
      rintro ⟨h1, h2⟩
      have n0 := HNO.out 0 (by omega)
      have n1 := HNO.out 1 (by omega)
      have n2 := HNO.out 2 (by omega)
      omega
theorem scontains_calls (so : Int) (b : Nat) (w : World) (h : ∀ i : Nat, i < 3 → w.cell? ⟨b, i, none⟩ = some (.int .u8 ((i : Int) + 1))) :
    Calls Tryd.prog 84 #[.slice (some ⟨b, 0, none⟩) 3 3, .int .u8 so] w fun e w' => e = .returned (.bool (decide (1 ≤ so ∧ so ≤ 3))) ∧ w' = w := by
  have hi := sindex_calls so b w h
  by_cases hs : 1 ≤ so ∧ so ≤ 3
  · rw [if_pos hs] at hi
    rw [decide_eq_true hs]
    have hge : 0 ≤ so - 1 := by omega
    generalize so - 1 = r at hi hge
    have HI := Lib.hid hi
    clear hi h hs
    go_enter Tryd.func84, Tryd.ntmps84
    go_wp2_with (fail)
    refine HI.out.mono ?_
    rintro e w1 ⟨rfl, rfl⟩
    go_wp2
    go_ret
    exact ⟨rfl, rfl⟩
  · rw [if_neg hs] at hi
    rw [decide_eq_false hs]
    have HI := Lib.hid hi
    clear hi h hs
    go_enter Tryd.func84, Tryd.ntmps84
    go_wp2_with (fail)
    refine HI.out.mono ?_
    rintro e w1 ⟨rfl, rfl⟩
    go_wp2
    go_ret
    exact ⟨rfl, rfl⟩
set_option maxHeartbeats 1600000 in
theorem ehappened_calls (f : Fe) (w : World) : Calls Tryd.prog 42 #[.agg (ecells f)] w fun e w' => e = .returned (.bool (decide (RightE f))) ∧ Fr NoB w w' := by
  obtain ⟨k, so, path, z⟩ := f
  by_cases hk : 1 ≤ k ∧ k ≤ 4
  rotate_left
  · rw [decide_eq_false (fun h => hk h.1)]
    simp only [ecells]
    by_cases h1 : 1 ≤ k
    · have h4 : ¬ k ≤ 4 := fun h => hk ⟨h1, h⟩
      go_enter Tryd.func42, Tryd.ntmps42
      go_wp2
      go_ret
      exact ⟨rfl, (Fr.refl NoB w).alloc _⟩
    · go_enter Tryd.func42, Tryd.ntmps42
      go_wp2
      go_ret
      exact ⟨rfl, (Fr.refl NoB w).alloc _⟩
  obtain ⟨h1, h4⟩ := hk
  have hcs := scontains_calls so (w.heap.size + 1) ((w.alloc (.cells #[.int .u8 k, .int .u8 so, .string ⟨path.toArray⟩, .int .i64 z] 46)).alloc (.cells #[.int .u8 1, .int .u8 2, .int .u8 3] 24)) (by have := sortrow (w.alloc (.cells #[.int .u8 k, .int .u8 so, .string ⟨path.toArray⟩, .int .i64 z] 46)); rwa [World.size_alloc] at this)
  obtain ⟨R, hR⟩ : ∃ R, decide (RightE ⟨k, so, path, z⟩) = R := ⟨_, rfl⟩
  rw [hR]
  have HRR := Lib.hid hR
  have hb := heap_alloc2_old w (.cells #[.int .u8 k, .int .u8 so, .string ⟨path.toArray⟩, .int .i64 z] 46) (.cells #[.int .u8 1, .int .u8 2, .int .u8 3] 24)
  have HB := Lib.hid hb
  have F2 := Lib.hid (((Fr.refl NoB w).alloc (.cells #[.int .u8 k, .int .u8 so, .string ⟨path.toArray⟩, .int .i64 z] 46)).alloc (.cells #[.int .u8 1, .int .u8 2, .int .u8 3] 24))
  clear hR hb
  by_cases hs : 1 ≤ so ∧ so ≤ 3
  rotate_left
  · rw [decide_eq_false hs] at hcs
    have HCS := Lib.hid hcs
    have hRf : R = false := by rw [← HRR.out]; exact decide_eq_false fun h => hs h.2.1
    subst hRf
    simp only [ecells]
    clear hcs hs
    go_enter Tryd.func42, Tryd.ntmps42
    go_wp2_with (fail)
    refine HCS.out.mono ?_
    rintro e w1 ⟨rfl, rfl⟩
    go_wp2
    go_ret
    exact ⟨rfl, F2.out⟩
  · rw [decide_eq_true hs] at hcs
    have HCS := Lib.hid hcs
    have HS := Lib.hid (And.intro (And.intro h1 h4) hs)
    simp only [ecells]
    clear hcs hs
    go_enter Tryd.func42, Tryd.ntmps42
    go_wp2_with (fail)
    refine HCS.out.mono ?_
    rintro e w1 ⟨rfl, rfl⟩
    go_wp2
    all_goals go_ret
    all_goals refine ⟨?_, F2.out⟩
    all_goals rw [← HRR.out]
    all_goals first
      | (refine ret_bool (Eq.symm (decide_eq_false ?_)); rintro ⟨-, -, g3, g4⟩; simp only at g3 g4; omega)
      | (refine ret_bool (Eq.symm (decide_eq_true ⟨HS.out.1, HS.out.2, ?_, ?_⟩)) <;> simp only <;> omega)
      | (refine ret_bool ?_; rw [eq_comm, decide_eq_decide]; exact ⟨fun h => h.2.2.2, fun h => ⟨HS.out.1, HS.out.2, by simp only; omega, h⟩⟩)
      | trace_state
/-- What PutEvent answers. -/
def putEv (f : Fe) : List UInt8 × Int := if RightE f then (evB f, 0) else ([], 4)
theorem putEv_len (f : Fe) : (putEv f).1.length ≤ 242 := by
  unfold putEv
  split
  · rename_i h; exact evB_len h
  · simp
set_option maxHeartbeats 1600000 in
theorem eput_calls (f : Fe) (w : World) (hf : f.Ok) : Calls Tryd.prog 17 #[.agg (ecells f)] w fun e w' => ∃ v, e = .returned (.tuple #[v, .int .i64 (putEv f).2]) ∧ w'.ownsRow w.heap.size 5 1 v (putEv f).1.length (bv (putEv f).1) ∧ Fr NoB w w' := by
  have hc := fun W => ehappened_calls f W
  by_cases hR : RightE f
  rotate_left
  · rw [show putEv f = ([], 4) from if_neg hR]
    rw [decide_eq_false hR] at hc
    have HC := Lib.hid hc
    clear hc hR hf
    obtain ⟨k, so, path, z⟩ := f
    simp only [ecells] at *
    go_enter Tryd.func17, Tryd.ntmps17
    go_wp2_with (fail)
    refine (HC.out _).mono ?_
    rintro e w1 ⟨rfl, f1⟩
    go_wp2
    go_ret2
    exact ⟨.slice none 0 0, rfl, World.ownsRow_nil _ _ _ _, ((Fr.refl NoB w).alloc _).then f1⟩
  · rw [show putEv f = (evB f, 0) from if_pos hR]
    rw [decide_eq_true hR] at hc
    have HC := Lib.hid hc
    have HF := Lib.hid hf
    have HPL := Lib.hid hR.2.2.1
    have hev : evB f = ([kindB f.k] ++ [kindB f.so]) ++ textB f.path ++ intB f.z := by simp [evB]
    obtain ⟨Z, hZ⟩ : ∃ Z, evB f = Z := ⟨_, rfl⟩
    have hlen := evB_len hR
    rw [hZ] at hev hlen ⊢
    have HZ := Lib.hid hev
    have HLEN := Lib.hid hlen
    clear hc hR hf hZ hev hlen
    obtain ⟨k, so, path, z⟩ := f
    simp only at HZ HPL
    simp only [ecells] at *
    go_enter Tryd.func17, Tryd.ntmps17
    go_wp2_with (fail)
    have F0 := Lib.hid ((Fr.refl NoB w).alloc (.cells #[.int .u8 k, .int .u8 so, .string ⟨path.toArray⟩, .int .i64 z] 46))
    have HBX := Lib.hid (heap_alloc_new w (.cells #[.int .u8 k, .int .u8 so, .string ⟨path.toArray⟩, .int .i64 z] 46))
    generalize w.alloc (.cells #[.int .u8 k, .int .u8 so, .string ⟨path.toArray⟩, .int .i64 z] 46) = wb at F0 HBX ⊢
    generalize w.heap.size = NB at *
    refine (HC.out _).mono ?_
    rintro e w1 ⟨rfl, f1⟩
    have F1 := Lib.hid f1
    clear f1 HC
    go_wp2_with (fail)
    refine (wNew _).mono ?_
    rintro e w2 ⟨rfl, a2, f2, -⟩
    have t2 : WE wb w2 w1.heap.size [] none := ⟨a2, F1.out.then f2, fun k hk => by
      rcases hk with rfl | hk
      · exact F1.out.size
      · cases hk⟩
    have T2 := Lib.hid t2
    have d0 := (cells_of (t2.fr.at_ HBX.out (fun x => x)) 0).1
    simp only [List.getElem?_toArray, List.getElem?_cons_zero] at d0
    generalize w1.heap.size = pw at *
    clear a2 f2 t2 F1
    go_wp2_with (fail)
    refine (wByteI pw none [] k _ HF.out.k T2.out.a (by simp)).mono ?_
    rintro e w3 ⟨rfl, G3, a3, f3, g3⟩
    rw [List.nil_append] at a3
    have T3 := Lib.hid (T2.out.next a3 f3 g3)
    clear a3 f3 g3 d0 T2
    have d1 := (cells_of (T3.out.fr.at_ HBX.out (fun x => x)) 1).1
    simp only [List.getElem?_toArray, List.getElem?_cons_zero, List.getElem?_cons_succ] at d1
    go_wp2_with (fail)
    refine (wByteI pw G3 [kindB k] so _ HF.out.so T3.out.a (by simp)).mono ?_
    rintro e w4 ⟨rfl, G4, a4, f4, g4⟩
    have T4 := Lib.hid (T3.out.next a4 f4 g4)
    clear a4 f4 g4 d1 T3
    have d2 := (cells_of (T4.out.fr.at_ HBX.out (fun x => x)) 2).1
    simp only [List.getElem?_toArray, List.getElem?_cons_zero, List.getElem?_cons_succ] at d2
    go_wp2_with (fail)
    refine (wText pw G4 _ ⟨path.toArray⟩ _ T4.out.a (by have := HPL.out; simp only [List.length_append, List.length_cons, List.length_nil, mk_size]; omega)).mono ?_
    rintro e w5 ⟨rfl, G5, a5, f5, g5⟩
    rw [show (⟨path.toArray⟩ : ByteArray).data.toList = path by simp] at a5
    have T5 := Lib.hid (T4.out.next a5 f5 g5)
    clear a5 f5 g5 d2 T4
    have d3 := (cells_of (T5.out.fr.at_ HBX.out (fun x => x)) 3).1
    simp only [List.getElem?_toArray, List.getElem?_cons_zero, List.getElem?_cons_succ] at d3
    go_wp2_with (fail)
    refine (wInt pw G5 _ z _ HF.out.z.1 HF.out.z.2 T5.out.a (by have := HPL.out; have := textB_len path; simp only [List.length_append, List.length_cons, List.length_nil]; omega)).mono ?_
    rintro e w6 ⟨rfl, G6, a6, f6, g6⟩
    have T6 := Lib.hid (T5.out.next a6 f6 g6)
    rw [← HZ.out] at T6
    clear a6 f6 g6 d3 T5
    go_wp2_with (fail)
    refine (wDone pw G6 _ _ T6.out.a (by have := HLEN.out; omega)).mono ?_
    rintro e w8 ⟨v8, rfl, o8, b8⟩
    obtain ⟨A8, c8, rfl, n1, n2⟩ := own_form o8
    go_wp2
    go_ret2
    exact ⟨.slice A8 Z.length c8, rfl, own_low o8 (Nat.le_trans F0.out.size T6.out.fr.size), (F0.out.then T6.out.fr).then (Fr.ofBelow b8)⟩
theorem esize4 : (Tryd.prog.info? 46).map (·.size) = some 4 := by kernel_rfl
def bareE : Fe := ⟨0, 0, [], 0⟩
set_option maxRecDepth 8000 in
set_option maxHeartbeats 3200000 in
theorem eget_calls (A : Option Addr) (b : List UInt8) (c lo hi : Nat) (w : World) (h : Rd w lo hi A b) (hh : hi ≤ w.heap.size) (hl : b.length ≤ 140737488355328) :
    Calls Tryd.prog 25 #[.slice A b.length c] w fun e w' => ∃ f zz, e = .returned (.tuple #[.agg (ecells f), .int .i64 zz]) ∧ ((getEv b = some f ∧ zz = 0) ∨ (getEv b = none ∧ f = bareE ∧ zz = 4)) ∧ Fr NoB w w' := by
  obtain ⟨x0, s0, g0⟩ : ∃ x t, rByte (some b) = (x, t) := ⟨_, _, rfl⟩
  obtain ⟨x1, s1, g1⟩ : ∃ x t, rByte s0 = (x, t) := ⟨_, _, rfl⟩
  obtain ⟨x2, s2, g2⟩ : ∃ x t, rBytes s1 220 = (x, t) := ⟨_, _, rfl⟩
  obtain ⟨x3, s3, g3⟩ : ∃ x t, rInt s2 = (x, t) := ⟨_, _, rfl⟩
  have hev : rdEv b = (⟨x0.toNat, x1.toNat, x2, x3⟩, s3) := by simp [rdEv, g0, g1, g2, g3]
  have HGD : Hid (getEv b = if rWhole s3 = true ∧ RightE ⟨x0.toNat, x1.toNat, x2, x3⟩ then some ⟨x0.toNat, x1.toNat, x2, x3⟩ else none) := by show _ = _; unfold getEv; rw [hev]
  have hb0 := fun W lo p (r : Rdr W lo p (some b)) => rByte_calls lo p (some b) W r
  rw [g0] at hb0
  have hb1 := fun W lo p (r : Rdr W lo p s0) => rByte_calls lo p s0 W r
  rw [g1] at hb1
  have hb2 := fun W lo p (r : Rdr W lo p s1) => rText_calls lo p s1 220 W r
  rw [g2] at hb2
  have hb3 := fun W lo p (r : Rdr W lo p s2) => rInt_calls lo p s2 W r
  rw [g3] at hb3
  have HB0 := Lib.hid hb0
  have HB1 := Lib.hid hb1
  have HB2 := Lib.hid hb2
  have HB3 := Lib.hid hb3
  have HR := Lib.hid h
  clear h hb0 hb1 hb2 hb3 g0 g1 g2 g3 hev
  go_enter Tryd.func25, Tryd.ntmps25
  go_wp2_with (fail)
  have F0 := Lib.hid ((Fr.refl NoB w).alloc (.cells #[.int .u8 0, .int .u8 0, .string ⟨#[]⟩, .int .i64 0] 46))
  have HRV := Lib.hid (heap_alloc_new w (.cells #[.int .u8 0, .int .u8 0, .string ⟨#[]⟩, .int .i64 0] 46))
  generalize w.alloc (.cells #[.int .u8 0, .int .u8 0, .string ⟨#[]⟩, .int .i64 0] 46) = wb at F0 HRV ⊢
  obtain ⟨RV, hRV⟩ : ∃ RV, w.heap.size = RV := ⟨_, rfl⟩
  have HWR := Lib.hid hRV
  rw [hRV] at HRV ⊢
  clear hRV
  refine (rNew_calls A b c lo hi wb (HR.out.fr F0.out hh (fun _ _ _ x => x)) hl).mono ?_
  rintro e w1 ⟨p, rfl, q1, q2, q3, -⟩
  have Q1 := Lib.hid q1
  have Q2 := Lib.hid q2
  have Q3 := Lib.hid q3
  clear q1 q2 q3 HR
  go_wp2_with (fail)
  refine (HB0.out _ _ _ Q2.out).mono ?_
  rintro e w2 ⟨rfl, a2, f2, -⟩
  have A2 := Lib.hid a2
  have F2 := Lib.hid (Q3.out.upE f2 (fun k hk => by simp only [OneB] at hk; have := Q1.out; omega))
  clear a2 f2 Q2 HB0
  go_wp2_with (fail)
  refine (HB1.out _ _ _ A2.out).mono ?_
  rintro e w3 ⟨rfl, a3, f3, -⟩
  have A3 := Lib.hid a3
  have F3 := Lib.hid (F2.out.upE f3 (fun k hk => by simp only [OneB] at hk; have := Q1.out; omega))
  clear a3 f3 A2 HB1
  go_wp2_with (fail)
  refine (HB2.out _ _ _ A3.out).mono ?_
  rintro e w4 ⟨rfl, a4, f4, -⟩
  have A4 := Lib.hid a4
  have F4 := Lib.hid (F3.out.upE f4 (fun k hk => by simp only [OneB] at hk; have := Q1.out; omega))
  clear a4 f4 A3 HB2
  go_wp2_with (fail)
  refine (HB3.out _ _ _ A4.out).mono ?_
  rintro e w5 ⟨rfl, a5, f5, -⟩
  have A5 := Lib.hid a5
  have F5 := Lib.hid (F4.out.upE f5 (fun k hk => by simp only [OneB] at hk; have := Q1.out; omega))
  clear a5 f5 A4 HB3 F2 F3 F4
  have A6 := Lib.hid (A5.out.fr ((Fr.refl NoB w5).alloc (.cells #[.int .u8 (x0.toNat : Int), .int .u8 (x1.toNat : Int), .string ⟨x2.toArray⟩, .int .i64 x3] 46)) (fun _ _ _ x => x) Q1.out)
  have HX := Lib.hid (heap_alloc_new w5 (.cells #[.int .u8 (x0.toNat : Int), .int .u8 (x1.toNat : Int), .string ⟨x2.toArray⟩, .int .i64 x3] 46))
  have F6 := Lib.hid (F5.out.alloc (.cells #[.int .u8 (x0.toNat : Int), .int .u8 (x1.toNat : Int), .string ⟨x2.toArray⟩, .int .i64 x3] 46))
  have HWC := Lib.hid (rWhole_calls wb.heap.size p s3 _ A6.out)
  go_wp2_with (fail)
  refine HWC.out.mono ?_
  rintro e w6 ⟨rfl, rfl⟩
  clear HWC
  by_cases hwh : rWhole s3 = true
  rotate_left
  · have hwf : rWhole s3 = false := by simpa using hwh
    rw [hwf]
    have hnone : getEv b = none := by rw [HGD.out, if_neg (fun hx => hwh hx.1)]
    have HNONE := Lib.hid hnone
    have HRV2 := Lib.hid (F6.out.at_ HRV.out (fun x => x))
    clear hnone HGD
    go_wp2_with (first | (with_reducible refine held_store (ty := 46) ?_) | fail)
    unfold Held
    refine wpList_store_row rfl 46 _ _ rfl RV #[.int .u8 0, .int .u8 0, .string ⟨#[]⟩, .int .i64 0] ?_ ?_ _ _ HRV2.out esize4 rfl (by simp [Value.oneCell']) ?_
    · rfl
    · rfl
    go_wp2
    refine bodyPost_ret (v := .tuple #[.agg #[.int .u8 0, .int .u8 0, .string ⟨#[]⟩, .int .i64 0], .int .i64 4]) (results_row_tmp (fn := Tryd.f25) (p := 2) (u := 3) (ty := 46) (by kernel_rfl) _ _ RV 46 _ _ _ rfl (setRow_heap _ _ _ _ _ _ HRV2.out) Tryd.underlying46 rfl (by kernel_rfl)) rfl ?_
    exact ⟨bareE, 4, rfl, .inr ⟨HNONE.out, rfl, rfl⟩, (F0.out.then F6.out).setRow (fun hx => absurd hx (by have := HWR.out; omega)) _⟩
  · rw [hwh]
    have HC := Lib.hid (fun W => ehappened_calls ⟨x0.toNat, x1.toNat, x2, x3⟩ W)
    have HXX := HX.out
    have qq0 := (cells_of HXX 0).1
    have qq1 := (cells_of HXX 1).1
    have qq2 := (cells_of HXX 2).1
    have qq3 := (cells_of HXX 3).1
    simp only [List.getElem?_toArray, List.getElem?_cons_zero, List.getElem?_cons_succ] at qq0 qq1 qq2 qq3
    clear HXX
    go_wp2_with (fail)
    refine (HC.out _).mono ?_
    rintro e w7 ⟨rfl, f7⟩
    clear HC qq0 qq1 qq2 qq3
    have HRV2 := Lib.hid ((F6.out.then f7).at_ HRV.out (fun x => x))
    have F7 := Lib.hid (F6.out.then f7)
    have HX7 := Lib.hid (f7.at_ HX.out (fun x => x))
    clear f7
    by_cases hright : RightE ⟨x0.toNat, x1.toNat, x2, x3⟩
    · rw [decide_eq_true hright]
      have hsome : getEv b = some ⟨x0.toNat, x1.toNat, x2, x3⟩ := by rw [HGD.out, if_pos ⟨hwh, hright⟩]
      have HSOME := Lib.hid hsome
      have HXX := HX7.out
      have qq0 := (cells_of HXX 0).1
      have qq1 := (cells_of HXX 1).1
      have qq2 := (cells_of HXX 2).1
      have qq3 := (cells_of HXX 3).1
      simp only [List.getElem?_toArray, List.getElem?_cons_zero, List.getElem?_cons_succ] at qq0 qq1 qq2 qq3
      clear hsome HGD hright HXX
      go_wp2_with (first | (with_reducible refine held_store (ty := 46) ?_) | fail)
      unfold Held
      refine wpList_store_row rfl 46 _ _ rfl RV #[.int .u8 (x0.toNat : Int), .int .u8 (x1.toNat : Int), .string ⟨x2.toArray⟩, .int .i64 x3] ?_ ?_ _ _ HRV2.out esize4 rfl (by simp [Value.oneCell']) ?_
      · rfl
      · rfl
      clear qq0 qq1 qq2 qq3
      go_wp2
      refine bodyPost_ret (v := .tuple #[.agg #[.int .u8 (x0.toNat : Int), .int .u8 (x1.toNat : Int), .string ⟨x2.toArray⟩, .int .i64 x3], .int .i64 0]) (results_row_tmp (fn := Tryd.f25) (p := 2) (u := 3) (ty := 46) (by kernel_rfl) _ _ RV 46 _ _ _ rfl (setRow_heap _ _ _ _ _ _ HRV2.out) Tryd.underlying46 rfl (by kernel_rfl)) rfl ?_
      exact ⟨⟨x0.toNat, x1.toNat, x2, x3⟩, 0, rfl, .inl ⟨HSOME.out, rfl⟩, (F0.out.then F7.out).setRow (fun hx => absurd hx (by have := HWR.out; omega)) _⟩
    · rw [decide_eq_false hright]
      have hnone : getEv b = none := by rw [HGD.out, if_neg (fun hx => hright hx.2)]
      have HNONE := Lib.hid hnone
      clear hnone HGD hright
      go_wp2_with (first | (with_reducible refine held_store (ty := 46) ?_) | fail)
      unfold Held
      refine wpList_store_row rfl 46 _ _ rfl RV #[.int .u8 0, .int .u8 0, .string ⟨#[]⟩, .int .i64 0] ?_ ?_ _ _ HRV2.out esize4 rfl (by simp [Value.oneCell']) ?_
      · rfl
      · rfl
      go_wp2
      refine bodyPost_ret (v := .tuple #[.agg #[.int .u8 0, .int .u8 0, .string ⟨#[]⟩, .int .i64 0], .int .i64 4]) (results_row_tmp (fn := Tryd.f25) (p := 2) (u := 3) (ty := 46) (by kernel_rfl) _ _ RV 46 _ _ _ rfl (setRow_heap _ _ _ _ _ _ HRV2.out) Tryd.underlying46 rfl (by kernel_rfl)) rfl ?_
      exact ⟨bareE, 4, rfl, .inr ⟨HNONE.out, rfl, rfl⟩, (F0.out.then F7.out).setRow (fun hx => absurd hx (by have := HWR.out; omega)) _⟩
end Go.Proofs.YtlckgkpgllhpbaaDoor
