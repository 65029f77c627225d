/-
  Enk: LentEnsemble, KeptEnsemble; EnsembleChecks's walk.
-/
import Derived.Test.YtbgpgaekckfjlaaDoorRec
namespace Go.Proofs.YtbgpgaekckfjlaaDoor
open Go.RowKit

set_option maxRecDepth 4000 in
set_option maxHeartbeats 3200000 in
theorem lente_calls (v : Int) (A : Option Addr) (ms : List Mem) (c lo hi : Nat) (w : World) (h : RdM w lo hi A ms) (hh : hi ≤ w.heap.size) (hl : ms.length ≤ 4398046510976) :
    Calls Tryd.prog 10 #[.agg #[.int .i64 v, .slice A ms.length c]] w fun e w' => ∃ A' c', e = .returned (.agg #[.int .i64 v, .slice A' ms.length c']) ∧ ms.length + 12 ≤ c' ∧ c' ≤ maxLen ∧ RdM w' w.heap.size w'.heap.size A' (ms ++ mksM 12) ∧ Fr NoB w w' := by
  have HX := Lib.hid (fun W (f : Fr NoB w W) => lentm_calls A ms c lo hi W (h.fr f hh (fun _ _ _ x => x)) (Nat.le_trans hh f.size) hl)
  clear h
  go_enter Tryd.func10, Tryd.ntmps10
  go_wp2_with (fail)
  have F2 := Lib.hid (((Fr.refl NoB w).alloc (.cells #[.int .i64 v, .slice A ms.length c] 25)).alloc (.cells #[.int .i64 0, .slice none 0 0] 25))
  obtain ⟨s0, a0, k0⟩ := alloc_st w (.cells #[.int .i64 v, .slice A ms.length c] 25) _ rfl
  obtain ⟨s1, a1, k1⟩ := alloc_st (w.alloc (.cells #[.int .i64 v, .slice A ms.length c] 25)) (.cells #[.int .i64 0, .slice none 0 0] 25) _ s0
  have HBX := Lib.hid (k1 _ _ a0)
  have HRV := Lib.hid a1
  clear k0 k1 a0 a1 s0 s1
  generalize (w.alloc (.cells #[.int .i64 v, .slice A ms.length c] 25)).alloc (.cells #[.int .i64 0, .slice none 0 0] 25) = wb at F2 HBX HRV ⊢
  refine (HX.out _ F2.out).mono ?_
  rintro e w1 ⟨A', c', rfl, h1, h2, r1, f1⟩
  have R1 := Lib.hid r1
  have F1 := Lib.hid f1
  have HB1 := Lib.hid (f1.at_ HBX.out (fun x => x))
  have HR1 := Lib.hid (f1.at_ HRV.out (fun x => x))
  have q0 := (cells_of HB1.out 0).2
  have q1 := (cells_of HB1.out 1).2
  have b0 := (cells_of HB1.out 0).1
  have b1 := (cells_of HB1.out 1).1
  have p0 := (cells_of HR1.out 0).2
  have p1 := (cells_of HR1.out 1).2
  have r0 := (cells_of HR1.out 0).1
  have r1' := (cells_of HR1.out 1).1
  simp only [List.getElem?_toArray, List.getElem?_cons_zero, List.getElem?_cons_succ] at b0 b1 r0 r1'
  have HWB := Lib.hid (Lib.lt_of_heap HRV.out)
  clear f1 r1 HX HBX HRV
  go_wp2
  refine bodyPost_ret (v := .agg #[.int .i64 v, .slice A' ms.length c']) (results_cell_row (fn := Tryd.f10) (p := 2) (ty := 25) (by kernel_rfl) _ _ (w.heap.size + 1) 25 _ _ _ rfl (two_set ((heap_far (by omega) _ _).trans HR1.out)) Tryd.underlying25 rfl (by kernel_rfl)) rfl ⟨A', c', rfl, h1, h2, ?_, ?_⟩
  · have hf : Fr (fun k => k = w.heap.size ∨ k = w.heap.size + 1) w1 (((w1.setCell ⟨w.heap.size, 1, none⟩ (.slice A' ms.length c')).setCell ⟨w.heap.size + 1, 0, none⟩ (.int .i64 v)).setCell ⟨w.heap.size + 1, 1, none⟩ (.slice A' ms.length c')) := (((Fr.refl _ w1).setCell (p := ⟨w.heap.size, 1, none⟩) (fun _ => .inl rfl) _).setCell (p := ⟨w.heap.size + 1, 0, none⟩) (fun _ => .inr rfl) _).setCell (p := ⟨w.heap.size + 1, 1, none⟩) (fun _ => .inr rfl) _
    exact (R1.out.fr hf (Nat.le_refl _) (fun k hk _ hx => by have := HWB.out; omega)).wide (by have := HWB.out; omega) hf.size
  · exact (((F2.out.then F1.out).setCell (p := ⟨w.heap.size, 1, none⟩) (fun k => absurd k (by simp)) _).setCell (p := ⟨w.heap.size + 1, 0, none⟩) (fun k => absurd k (by simp)) _).setCell (p := ⟨w.heap.size + 1, 1, none⟩) (fun k => absurd k (by simp)) _

set_option maxRecDepth 4000 in
set_option maxHeartbeats 3200000 in
theorem kepte_calls (v : Int) (A A' : Option Addr) (ms : List Mem) (c c' lo hi lo' hi' : Nat) (w : World) (h' : RdM w lo' hi' A' (ms ++ mksM 12)) (hh' : hi' ≤ w.heap.size) (h : RdM w lo hi A ms) (hh : hi ≤ w.heap.size) (hl : ms.length ≤ 4398046510976) (hc : ms.length + 12 ≤ c') :
    Calls Tryd.prog 17 #[.agg #[.int .i64 v, .slice A' ms.length c'], .agg #[.int .i64 v, .slice A ms.length c]] w fun e w' => e = .returned (.bool true) ∧ Fr NoB w w' := by
  have HS := Lib.hid (fun W (f : Fr NoB w W) => sameE_calls v A' A ms c' c lo' hi' lo hi W (h'.fr f hh' (fun _ _ _ x => x)).pre (Nat.le_trans hh' f.size) (h.fr f hh (fun _ _ _ x => x)) (Nat.le_trans hh f.size) (by omega))
  have HK := Lib.hid (fun W (f : Fr NoB w W) => keptm_calls A A' ms c c' lo hi lo' hi' W (h'.fr f hh' (fun _ _ _ x => x)) (Nat.le_trans hh' f.size) (h.fr f hh (fun _ _ _ x => x)) (Nat.le_trans hh f.size) hl hc)
  clear h h'
  go_enter Tryd.func17, Tryd.ntmps17
  go_wp2_with (fail)
  have F2 := Lib.hid (((Fr.refl NoB w).alloc (.cells #[.int .i64 v, .slice A' ms.length c'] 25)).alloc (.cells #[.int .i64 v, .slice A ms.length c] 25))
  obtain ⟨s0, a0, k0⟩ := alloc_st w (.cells #[.int .i64 v, .slice A' ms.length c'] 25) _ rfl
  obtain ⟨s1, a1, k1⟩ := alloc_st (w.alloc (.cells #[.int .i64 v, .slice A' ms.length c'] 25)) (.cells #[.int .i64 v, .slice A ms.length c] 25) _ s0
  have HBX := Lib.hid (k1 _ _ a0)
  have HRV := Lib.hid a1
  clear k0 k1 a0 a1 s0 s1
  generalize (w.alloc (.cells #[.int .i64 v, .slice A' ms.length c'] 25)).alloc (.cells #[.int .i64 v, .slice A ms.length c] 25) = wb at F2 HBX HRV ⊢
  refine (HS.out _ F2.out).mono ?_
  rintro e w1 ⟨rfl, f1⟩
  have F1 := Lib.hid (F2.out.then f1)
  have hb1 := (cfg_cells (f1.at_ HBX.out (fun x => x))).2
  have hr1 := (cfg_cells (f1.at_ HRV.out (fun x => x))).2
  clear f1 HBX HRV F2 HS
  go_wp2_with (fail)
  refine (HK.out _ F1.out).mono ?_
  rintro e w2 ⟨rfl, f2⟩
  have F2 := Lib.hid (F1.out.then f2)
  clear f2 hb1 hr1
  go_wp2
  go_ret
  exact ⟨rfl, F2.out⟩

theorem memOr_form (r : Option Mem) : ∃ x0 x1 x2 x3 : Int, memOr r = .agg #[.int .i64 x0, .int .u8 x1, .int .i64 x2, .int .i64 x3] := by
  cases r with
  | none => exact ⟨0, 0, 0, 0, rfl⟩
  | some m => exact ⟨m.1, m.2.1, m.2.2.1, m.2.2.2, rfl⟩

set_option maxRecDepth 8000 in
set_option maxHeartbeats 6400000 in
theorem checks_walk (v id : Int) (A : Option Addr) (ms : List Mem) (c : Nat) (w : World) (h : RdM w 0 w.heap.size A ms) (hl : ms.length ≤ 4398046510976) :
    Calls Tryd.prog 3 #[.agg #[.int .i64 v, .slice A ms.length c], .int .i64 id] w fun e w' => e = .returned (.bool true) ∧ Fr NoB w w' := by
  have HLE := Lib.hid (fun W (f : Fr NoB w W) => lente_calls v A ms c 0 w.heap.size W (h.fr f (Nat.le_refl _) (fun _ _ _ x => x)) f.size hl)
  have hrf := fun W (f : Fr NoB w W) => rfind_calls v A ms c 0 w.heap.size id W (h.fr f (Nat.le_refl _) (fun _ _ _ x => x)) f.size (by omega)
  have HRC := Lib.hid (fun W (f : Fr NoB w W) => rcheck_calls v A ms c 0 w.heap.size W (h.fr f (Nat.le_refl _) (fun _ _ _ x => x)) f.size (by omega))
  have HRV := Lib.hid (fun W (f : Fr NoB w W) => rvoter_calls v A ms c 0 w.heap.size id W (h.fr f (Nat.le_refl _) (fun _ _ _ x => x)) f.size (by omega))
  obtain ⟨x0, x1, x2, x3, hx⟩ := memOr_form (findM ms id)
  rw [hx] at hrf
  have HRF := Lib.hid hrf
  have HX := Lib.hid hx
  have HM := Lib.hid h
  clear h hx hrf
  go_enter Tryd.func3, Tryd.ntmps3
  go_wp2_with (fail)
  have F0 := Lib.hid ((Fr.refl NoB w).alloc (.cells #[.int .i64 v, .slice A ms.length c] 25))
  have HBX := Lib.hid (heap_alloc_new w (.cells #[.int .i64 v, .slice A ms.length c] 25))
  generalize w.alloc (.cells #[.int .i64 v, .slice A ms.length c] 25) = wb at F0 HBX ⊢
  refine (awake_calls _).mono ?_
  rintro e w1 ⟨rfl, f1⟩
  have F1 := Lib.hid (F0.out.then f1)
  have HB1 := Lib.hid (f1.at_ HBX.out (fun x => x))
  clear f1 F0 HBX
  have hq0 := (cfg_cells HB1.out).1
  have hq1 := (cfg_cells HB1.out).2
  go_wp2_with (fail)
  refine (HLE.out _ F1.out).mono ?_
  rintro e w2 ⟨A2, c2, rfl, hc2, -, r2, f2⟩
  have R2 := Lib.hid (r2.fr ((Fr.refl NoB w2).alloc (.cells #[.int .i64 v, .slice A2 ms.length c2] 25)) (Nat.le_refl _) (fun _ _ _ x => x))
  have F2 := Lib.hid ((F1.out.then f2).alloc (.cells #[.int .i64 v, .slice A2 ms.length c2] 25))
  have HB2 := Lib.hid ((f2.alloc (.cells #[.int .i64 v, .slice A2 ms.length c2] 25)).at_ HB1.out (fun x => x))
  have HI2 := Lib.hid (heap_alloc_new w2 (.cells #[.int .i64 v, .slice A2 ms.length c2] 25))
  have HN2 := Lib.hid (show w2.heap.size ≤ (w2.alloc (.cells #[.int .i64 v, .slice A2 ms.length c2] 25)).heap.size by simp)
  clear r2 f2 F1 HB1 HLE hq0 hq1
  go_wp2_with (fail)
  generalize w2.alloc (.cells #[.int .i64 v, .slice A2 ms.length c2] 25) = w3 at F2 HB2 HI2 R2 HN2 ⊢
  have HR3 := Lib.hid (R2.out.wide (lo' := 0) (hi' := w3.heap.size) (Nat.zero_le _) HN2.out)
  generalize w2.heap.size = I at HI2 R2 HN2 ⊢
  clear R2 HN2
  have hfd := find_calls v A2 ms c2 0 w3.heap.size id w3 HR3.out.pre (Nat.le_refl _) (by omega)
  rw [HX.out] at hfd
  have HFD := Lib.hid hfd
  clear hfd
  refine HFD.out.mono ?_
  rintro e w4 ⟨rfl, f4⟩
  have G4 := Lib.hid (f4.alloc (.cells #[.int .i64 x0, .int .u8 x1, .int .i64 x2, .int .i64 x3] 30))
  have HJ4 := Lib.hid (heap_alloc_new w4 (.cells #[.int .i64 x0, .int .u8 x1, .int .i64 x2, .int .i64 x3] 30))
  have hq0 := (cfg_cells (G4.out.at_ HB2.out (fun x => x))).1
  have hq1 := (cfg_cells (G4.out.at_ HB2.out (fun x => x))).2
  clear f4 HFD
  go_wp2_with (fail)
  clear hq0 hq1
  generalize w4.alloc (.cells #[.int .i64 x0, .int .u8 x1, .int .i64 x2, .int .i64 x3] 30) = w5 at G4 HJ4 ⊢
  generalize w4.heap.size = J at HJ4 ⊢
  refine (HRF.out _ (F2.out.then G4.out)).mono ?_
  rintro e w6 ⟨rfl, f6⟩
  have g7 := f6.alloc (.cells #[.int .i64 x0, .int .u8 x1, .int .i64 x2, .int .i64 x3] 30)
  have HL7 := Lib.hid (heap_alloc_new w6 (.cells #[.int .i64 x0, .int .u8 x1, .int .i64 x2, .int .i64 x3] 30))
  have G7 := Lib.hid (G4.out.then g7)
  have HJ7 := Lib.hid (g7.at_ HJ4.out (fun x => x))
  clear g7 f6 HRF HJ4
  go_wp2
  generalize w6.alloc (.cells #[.int .i64 x0, .int .u8 x1, .int .i64 x2, .int .i64 x3] 30) = w7 at G7 HL7 HJ7 ⊢
  generalize w6.heap.size = L at HL7 ⊢
  have HB7 := Lib.hid (G7.out.at_ HB2.out (fun x => x))
  have HI7 := Lib.hid (G7.out.at_ HI2.out (fun x => x))
  have FW := Lib.hid (fun W (f : Fr NoB w7 W) => (F2.out.then G7.out).then f)
  have HR7 := Lib.hid (fun W (f : Fr NoB w7 W) => HR3.out.fr (G7.out.then f) (Nat.le_refl _) (fun _ _ _ x => x))
  have HSZ := Lib.hid (fun W (f : Fr NoB w7 W) => (G7.out.then f).size)
  have HCK := Lib.hid (fun W (f : Fr NoB w7 W) => check_calls v A2 ms c2 0 w3.heap.size W (HR7.out W f).pre (HSZ.out W f) (by omega))
  have HVT := Lib.hid (fun W (f : Fr NoB w7 W) => voter_calls v A2 ms c2 0 w3.heap.size id W (HR7.out W f).pre (HSZ.out W f) (by omega))
  have HKE := Lib.hid (fun W (f : Fr NoB w7 W) => kepte_calls v A A2 ms c c2 0 w.heap.size 0 w3.heap.size W (HR7.out W f) (HSZ.out W f) (HM.out.fr (FW.out W f) (Nat.le_refl _) (fun _ _ _ x => x)) (FW.out W f).size hl hc2)
  have HS := Lib.hid (fun W (f : Fr NoB w7 W) => (show (fun W => W.cell? ⟨w.heap.size, 0, none⟩ = some (.int .i64 v) ∧ W.cell? ⟨w.heap.size, 1, none⟩ = some (.slice A ms.length c) ∧ W.cell? ⟨I, 0, none⟩ = some (.int .i64 v) ∧ W.cell? ⟨I, 1, none⟩ = some (.slice A2 ms.length c2) ∧ W.cell? ⟨J, 0, none⟩ = some (.int .i64 x0) ∧ W.cell? ⟨J, 1, none⟩ = some (.int .u8 x1) ∧ W.cell? ⟨J, 2, none⟩ = some (.int .i64 x2) ∧ W.cell? ⟨J, 3, none⟩ = some (.int .i64 x3) ∧ W.cell? ⟨L, 0, none⟩ = some (.int .i64 x0) ∧ W.cell? ⟨L, 1, none⟩ = some (.int .u8 x1) ∧ W.cell? ⟨L, 2, none⟩ = some (.int .i64 x2) ∧ W.cell? ⟨L, 3, none⟩ = some (.int .i64 x3)) W from
    ⟨(cfg_cells (f.at_ HB7.out (fun x => x))).1, (cfg_cells (f.at_ HB7.out (fun x => x))).2, (cfg_cells (f.at_ HI7.out (fun x => x))).1, (cfg_cells (f.at_ HI7.out (fun x => x))).2,
      (cells_of (f.at_ HJ7.out (fun x => x)) 0).1, (cells_of (f.at_ HJ7.out (fun x => x)) 1).1, (cells_of (f.at_ HJ7.out (fun x => x)) 2).1, (cells_of (f.at_ HJ7.out (fun x => x)) 3).1,
      (cells_of (f.at_ HL7.out (fun x => x)) 0).1, (cells_of (f.at_ HL7.out (fun x => x)) 1).1, (cells_of (f.at_ HL7.out (fun x => x)) 2).1, (cells_of (f.at_ HL7.out (fun x => x)) 3).1⟩))
  have hnq : ∀ W, (binOp .eql 30 (.agg #[.int .i64 x0, .int .u8 x1, .int .i64 x2, .int .i64 x3]) (.agg #[.int .i64 x0, .int .u8 x1, .int .i64 x2, .int .i64 x3])).run Tryd.prog W = .ok (.bool true) W := fun W => by rw [mem_eql]; simp
  have K0 := Lib.hid (Fr.refl NoB w7)
  generalize chk v ms = z at HRC HCK
  generalize votM ms id = y at HRV HVT
  generalize (findM ms id).isSome = o
  clear F2 HB2 HI2 HR3 G4 HX HM HB7 HI7 HJ7 HL7 HR7 HSZ G7
  go_region_held3 (fun W => W.cell? ⟨w.heap.size, 0, none⟩ = some (.int .i64 v) ∧ W.cell? ⟨w.heap.size, 1, none⟩ = some (.slice A ms.length c) ∧ W.cell? ⟨I, 0, none⟩ = some (.int .i64 v) ∧ W.cell? ⟨I, 1, none⟩ = some (.slice A2 ms.length c2) ∧ W.cell? ⟨J, 0, none⟩ = some (.int .i64 x0) ∧ W.cell? ⟨J, 1, none⟩ = some (.int .u8 x1) ∧ W.cell? ⟨J, 2, none⟩ = some (.int .i64 x2) ∧ W.cell? ⟨J, 3, none⟩ = some (.int .i64 x3) ∧ W.cell? ⟨L, 0, none⟩ = some (.int .i64 x0) ∧ W.cell? ⟨L, 1, none⟩ = some (.int .u8 x1) ∧ W.cell? ⟨L, 2, none⟩ = some (.int .i64 x2) ∧ W.cell? ⟨L, 3, none⟩ = some (.int .i64 x3)) (first | exact HS.out _ K0.out.drew | assumption) (first
    | (go_at_call 13; refine (HCK.out _ K0.out.drew).mono ?_; rintro e v1 ⟨rfl, g1⟩; have K1 := Lib.hid (K0.out.drew.then g1); have y1 := HS.out _ K1.out; clear g1)
    | (go_at_call 14; refine (HRC.out _ (FW.out _ K1.out)).mono ?_; rintro e v2 ⟨rfl, g2⟩; have K2 := Lib.hid (K1.out.then g2); have y2 := HS.out _ K2.out; clear g2)
    | (go_at_call 15; refine (HVT.out _ K2.out).mono ?_; rintro e v3 ⟨rfl, g3⟩; have K3 := Lib.hid (K2.out.then g3); have y3 := HS.out _ K3.out; clear g3)
    | (go_at_call 16; refine (HRV.out _ (FW.out _ K3.out)).mono ?_; rintro e v4 ⟨rfl, g4⟩; have K4 := Lib.hid (K3.out.then g4); have y4 := HS.out _ K4.out; clear g4)
    | (go_at_call 17; refine (HKE.out _ K4.out).mono ?_; rintro e v5 ⟨rfl, g5⟩; have K5 := Lib.hid (K4.out.then g5); have y5 := HS.out _ K5.out; clear g5))
  go_wp2
  go_ret
  exact ⟨rfl, FW.out _ K5.out⟩

end Go.Proofs.YtbgpgaekckfjlaaDoor
