/-
  Drx: the document's read of a config, of any kind without parts, of rows of parts.
-/
import Derived.Test.YtmlmbahimklfiaaGreatDoorDrr
namespace Go.Proofs.YtmlmbahimklfiaaGreatDoor
open Go.RowKit

theorem getV_kinds (b : List UInt8) : (getV b).2.2 = 0 ∨ ((getV b).1 = 0 ∧ (getV b).2.1 = [] ∧ (getV b).2.2 = 4) := by
  unfold getV
  cases getE b with
  | none => exact .inr ⟨rfl, rfl, rfl⟩
  | some x => exact .inl rfl
theorem rm_over {w w' : World} {b q : Nat} {A : Option Addr} {l : List Mem} (h : RdM w (b + 2) w.heap.size A l) (f : Fr (OneB q) w w') (hq : q ≤ b + 1) : RdM w' (b + 2) w'.heap.size A l :=
  (h.fr f (Nat.le_refl _) (fun k h1 _ hx => by simp only [OneB] at hx; omega)).wide (Nat.le_refl _) f.size
set_option maxHeartbeats 3200000 in
set_option maxRecDepth 8000 in
theorem rr7_ok (f : Fd) (deep : Bool) (lo pr : Nat) (st : RSt) (w : World) (hz : f = bareOf f) (ha : RRd w lo pr st) (h1 : lo ≤ pr) (hlim : RLim st) (hk : f.k = 7) (hv : (getV (rBytes st 1048576).1).2.2 = 0) :
    Calls Tryz.prog 73 #[.pointer (some ⟨pr, 0, none⟩), dval f pl0 0, .bool deep] w fun e w' => RdR w w' lo pr (rdFd f st).2 (rdFd f st).1 e := by
  obtain ⟨z, k, s, t, x, m, path, data, ow, ve, cv, ti, er, cver, ms⟩ := f
  simp only [bareOf, Fd.mk.injEq, Prod.mk.injEq, true_and] at hz
  obtain ⟨rfl, rfl, rfl, rfl, rfl, rfl, rfl, rfl, rfl⟩ := hz
  simp only at hk
  subst hk
  have T0 := Lib.hid (DX.start ha (dcells ⟨z, 7, s, t, x, m, [], [], 0, 0, 0, 0, 0, (0, [])⟩ pl0 0) (dcells (bareF 0) pl0 0) rfl h1)
  obtain ⟨x0, s1, g0⟩ : ∃ x t, rBytes st 1048576 = (x, t) := ⟨_, _, rfl⟩
  have hc0 := fun W (r : RRd W lo pr st) => rrBytes lo pr st 1048576 W r h1 hlim
  rw [g0] at hc0 hv
  simp only at hv
  have hx0 : x0.length ≤ 140737488355328 := by have h : (rBytes st 1048576).1.length ≤ 1048576 := rBytes_len st 1048576; rw [g0] at h; simp only at h; omega
  have hcg := fun W A c B (hr : Rd W B W.heap.size A x0) => rget_any2 A x0 c B W.heap.size W hr (Nat.le_refl _) hx0
  have hml := getV_len x0
  have HFIN : Hid (rdFd ⟨z, 7, s, t, x, m, [], [], 0, 0, 0, 0, 0, (0, [])⟩ st = (⟨z, 7, s, t, x, m, [], [], 0, 0, 0, 0, 0, ((getV x0).1, (getV x0).2.1)⟩, s1)) := by show _ = _; simp [rdFd, g0]
  rw [hv] at hcg
  generalize (getV x0).1 = cver at *
  generalize (getV x0).2.1 = ms at *
  have HC0 := Lib.hid hc0
  have HCG := Lib.hid hcg
  have HPB := Lib.hid ha.lt
  simp only [dval, dcells, pl0, bareF] at *
  clear ha hlim hc0 hcg g0 hml hv
  go_enter Tryz.func73, Tryz.ntmps73
  go_wp2_with (fail)
  obtain ⟨B, hB⟩ : ∃ B, w.heap.size = B := ⟨_, rfl⟩
  have HB := Lib.hid hB
  rw [hB] at T0 HPB ⊢
  clear hB
  refine (HC0.out _ T0.out.a).mono ?_
  rintro e v0 ⟨DA, dc, rfl, -, -, o0, a0, f0⟩
  have HRD := Lib.hid o0
  have U0 := Lib.hid (T0.out.read a0 f0)
  clear a0 f0 o0 T0
  go_wp2_with (fail)
  refine (HCG.out _ DA dc _ HRD.out).mono ?_
  rintro e v1 ⟨MA, mc, rfl, rm, f1⟩
  have fE := fun c => (Fr.refl NoB v1).alloc (.cells c 28)
  have U1 := Lib.hid ((U0.out.keep f1).keep (fE #[.int .i64 cver, .slice MA ms.length mc]))
  have HB2 : Hid (B + 2 ≤ v0.heap.size) := by obtain ⟨_, h, _⟩ := U0.out.rv; exact Lib.lt_of_heap h
  have RM := Lib.hid ((rm.fr (fE #[.int .i64 cver, .slice MA ms.length mc]) (Nat.le_refl _) (fun _ _ _ x => x)).wide HB2.out (fE #[.int .i64 cver, .slice MA ms.length mc]).size)
  have HEX := Lib.hid (heap_alloc_new v1 (.cells #[.int .i64 cver, .slice MA ms.length mc] 28))
  clear f1 U0 HRD rm fE
  have y13 := (cells_of U1.out.bx 13).1
  have n13 := (cells_of U1.out.bx 13).2
  have y14 := (cells_of U1.out.bx 14).1
  have n14 := (cells_of U1.out.bx 14).2
  simp only [List.getElem?_toArray, List.getElem?_cons_zero, List.getElem?_cons_succ] at y13 y14
  have T2 := Lib.hid ((U1.out.set 13 (.int .i64 cver)).set 14 (.slice MA ms.length mc))
  simp only [List.setIfInBounds_toArray, List.set_cons_zero, List.set_cons_succ] at T2
  have RM2 := Lib.hid (rm_over (rm_over RM.out ((Fr.refl (OneB B) _).setCell (p := ⟨B, 13, none⟩) (fun _ => rfl) (.int .i64 cver)) (Nat.le_succ _)) ((Fr.refl (OneB B) _).setCell (p := ⟨B, 14, none⟩) (fun _ => rfl) (.slice MA ms.length mc)) (Nat.le_succ _))
  clear RM
  go_wp2_with (first | (refine wpList_load_row rfl 31 _ rfl B rfl _ _ _ _ T2.out.bx Tryz.underlying31 rfl size16 ?_) | (with_reducible refine held_store (ty := 31) ?_) | fail)
  clear y13 n13 y14 n14
  unfold Held
  obtain ⟨ZC, hrv, hzs⟩ := T2.out.rv
  have TE := Lib.hid T2.out
  have hrv2 := hrv
  refine wpList_store_row rfl 31 _ _ rfl (B + 1) #[.int .i64 z, .int .u8 7, .int .i64 s, .int .i64 t, .int .i64 x, .int .i64 m, .string ⟨#[]⟩, .slice none 0 0, .int .i64 0, .int .i64 0, .int .i64 0, .int .i64 0, .int .i64 0, .int .i64 cver, .slice MA ms.length mc, .slice none 0 0] ?_ ?_ _ _ hrv size16 hzs (by simp [Value.oneCell']) ?_
  · rfl
  · rfl
  go_wp2
  refine bodyPost_ret (v := .agg #[.int .i64 z, .int .u8 7, .int .i64 s, .int .i64 t, .int .i64 x, .int .i64 m, .string ⟨#[]⟩, .slice none 0 0, .int .i64 0, .int .i64 0, .int .i64 0, .int .i64 0, .int .i64 0, .int .i64 cver, .slice MA ms.length mc, .slice none 0 0]) (results_cell_row (fn := Tryz.f73) (p := 6) (ty := 31) (by kernel_rfl) _ _ (B + 1) 31 _ _ _ rfl (setRow_heap _ _ _ _ _ _ hrv2) Tryz.underlying31 rfl (by kernel_rfl)) rfl ?_
  rw [HFIN.out]
  exact TE.out.done h1 HB.out #[.int .i64 z, .int .u8 7, .int .i64 s, .int .i64 t, .int .i64 x, .int .i64 m, .string ⟨#[]⟩, .slice none 0 0, .int .i64 0, .int .i64 0, .int .i64 0, .int .i64 0, .int .i64 0, .int .i64 cver, .slice MA ms.length mc, .slice none 0 0] ⟨none, 0, MA, mc, none, 0⟩ _ _ rfl (Rd.nil _ _ _ _) RM2.out rfl rfl
set_option maxHeartbeats 3200000 in
set_option maxRecDepth 8000 in
theorem rr7_no (f : Fd) (deep : Bool) (lo pr : Nat) (st : RSt) (w : World) (hz : f = bareOf f) (ha : RRd w lo pr st) (h1 : lo ≤ pr) (hlim : RLim st) (hk : f.k = 7) (hv : (getV (rBytes st 1048576).1).1 = 0 ∧ (getV (rBytes st 1048576).1).2.1 = [] ∧ (getV (rBytes st 1048576).1).2.2 = 4) :
    Calls Tryz.prog 73 #[.pointer (some ⟨pr, 0, none⟩), dval f pl0 0, .bool deep] w fun e w' => RdR w w' lo pr (rdFd f st).2 (rdFd f st).1 e := by
  obtain ⟨z, k, s, t, x, m, path, data, ow, ve, cv, ti, er, cver, ms⟩ := f
  simp only [bareOf, Fd.mk.injEq, Prod.mk.injEq, true_and] at hz
  obtain ⟨rfl, rfl, rfl, rfl, rfl, rfl, rfl, rfl, rfl⟩ := hz
  simp only at hk
  subst hk
  have T0 := Lib.hid (DX.start ha (dcells ⟨z, 7, s, t, x, m, [], [], 0, 0, 0, 0, 0, (0, [])⟩ pl0 0) (dcells (bareF 0) pl0 0) rfl h1)
  obtain ⟨x0, s1, g0⟩ : ∃ x t, rBytes st 1048576 = (x, t) := ⟨_, _, rfl⟩
  have hc0 := fun W (r : RRd W lo pr st) => rrBytes lo pr st 1048576 W r h1 hlim
  rw [g0] at hc0 hv
  simp only at hv
  have hx0 : x0.length ≤ 140737488355328 := by have h : (rBytes st 1048576).1.length ≤ 1048576 := rBytes_len st 1048576; rw [g0] at h; simp only at h; omega
  have hcg := fun W A c B (hr : Rd W B W.heap.size A x0) => rget_any2 A x0 c B W.heap.size W hr (Nat.le_refl _) hx0
  have hml := getV_len x0
  have HFIN : Hid (rdFd ⟨z, 7, s, t, x, m, [], [], 0, 0, 0, 0, 0, (0, [])⟩ st = (⟨z, 7, s, t, x, m, [], [], 0, 0, 0, 0, 0, ((getV x0).1, (getV x0).2.1)⟩, s1)) := by show _ = _; simp [rdFd, g0]
  rw [hv.1, hv.2.1, hv.2.2] at hcg
  rw [hv.1, hv.2.1] at HFIN
  have HC0 := Lib.hid hc0
  have HCG := Lib.hid hcg
  have HPB := Lib.hid ha.lt
  simp only [dval, dcells, pl0, bareF] at *
  clear ha hlim hc0 hcg g0 hml hv
  go_enter Tryz.func73, Tryz.ntmps73
  go_wp2_with (fail)
  obtain ⟨B, hB⟩ : ∃ B, w.heap.size = B := ⟨_, rfl⟩
  have HB := Lib.hid hB
  rw [hB] at T0 HPB ⊢
  clear hB
  refine (HC0.out _ T0.out.a).mono ?_
  rintro e v0 ⟨DA, dc, rfl, -, -, o0, a0, f0⟩
  have HRD := Lib.hid o0
  have U0 := Lib.hid (T0.out.read a0 f0)
  clear a0 f0 o0 T0
  go_wp2_with (fail)
  refine (HCG.out _ DA dc _ HRD.out).mono ?_
  rintro e v1 ⟨MA, mc, rfl, rm, f1⟩
  have fE := fun c => (Fr.refl NoB v1).alloc (.cells c 28)
  have U1 := Lib.hid ((U0.out.keep f1).keep (fE #[.int .i64 0, .slice MA 0 mc]))
  have HB2 : Hid (B + 2 ≤ v0.heap.size) := by obtain ⟨_, h, _⟩ := U0.out.rv; exact Lib.lt_of_heap h
  have RM := Lib.hid ((rm.fr (fE #[.int .i64 0, .slice MA 0 mc]) (Nat.le_refl _) (fun _ _ _ x => x)).wide HB2.out (fE #[.int .i64 0, .slice MA 0 mc]).size)
  have HEX := Lib.hid (heap_alloc_new v1 (.cells #[.int .i64 0, .slice MA 0 mc] 28))
  clear f1 U0 HRD rm fE
  go_wp2_with (first | (refine wpList_load_row rfl 31 _ rfl B rfl _ _ _ _ U1.out.bx Tryz.underlying31 rfl size16 ?_) | (with_reducible refine held_store (ty := 31) ?_) | fail)
  unfold Held
  obtain ⟨ZC, hrv, hzs⟩ := U1.out.rv
  have TE := Lib.hid U1.out
  have hrv2 := hrv
  refine wpList_store_row rfl 31 _ _ rfl (B + 1) #[.int .i64 z, .int .u8 7, .int .i64 s, .int .i64 t, .int .i64 x, .int .i64 m, .string ⟨#[]⟩, .slice none 0 0, .int .i64 0, .int .i64 0, .int .i64 0, .int .i64 0, .int .i64 0, .int .i64 0, .slice none 0 0, .slice none 0 0] ?_ ?_ _ _ hrv size16 hzs (by simp [Value.oneCell']) ?_
  · rfl
  · rfl
  go_wp2
  refine bodyPost_ret (v := .agg #[.int .i64 z, .int .u8 7, .int .i64 s, .int .i64 t, .int .i64 x, .int .i64 m, .string ⟨#[]⟩, .slice none 0 0, .int .i64 0, .int .i64 0, .int .i64 0, .int .i64 0, .int .i64 0, .int .i64 0, .slice none 0 0, .slice none 0 0]) (results_cell_row (fn := Tryz.f73) (p := 6) (ty := 31) (by kernel_rfl) _ _ (B + 1) 31 _ _ _ rfl (setRow_heap _ _ _ _ _ _ hrv2) Tryz.underlying31 rfl (by kernel_rfl)) rfl ?_
  rw [HFIN.out]
  exact TE.out.done h1 HB.out #[.int .i64 z, .int .u8 7, .int .i64 s, .int .i64 t, .int .i64 x, .int .i64 m, .string ⟨#[]⟩, .slice none 0 0, .int .i64 0, .int .i64 0, .int .i64 0, .int .i64 0, .int .i64 0, .int .i64 0, .slice none 0 0, .slice none 0 0] pl0 _ _ rfl (Rd.nil _ _ _ _) (RdM.nil' _ _ _ _) rfl rfl
/-- Read of any kind, where no parts are asked. -/
theorem rrFlat (f : Fd) (deep : Bool) (lo pr : Nat) (st : RSt) (w : World) (hf : f.Ok) (hz : f = bareOf f) (ha : RRd w lo pr st) (h1 : lo ≤ pr) (hlim : RLim st) (hdp : f.k = 5 ∨ f.k = 8 → deep = false) :
    Calls Tryz.prog 73 #[.pointer (some ⟨pr, 0, none⟩), dval f pl0 0, .bool deep] w fun e w' => RdR w w' lo pr (rdFd f st).2 (rdFd f st).1 e := by
  by_cases hk : 1 ≤ f.k ∧ f.k ≤ 9
  · rcases (show f.k = 1 ∨ f.k = 2 ∨ f.k = 3 ∨ f.k = 4 ∨ f.k = 5 ∨ f.k = 6 ∨ f.k = 7 ∨ f.k = 8 ∨ f.k = 9 by omega) with h | h | h | h | h | h | h | h | h
    · exact rr1_calls f deep lo pr st w hz ha h1 hlim h
    · exact rr2_calls f deep lo pr st w hz ha h1 hlim h
    · exact rr3_calls f deep lo pr st w hz ha h1 hlim h
    · exact rr4_calls f deep lo pr st w hz ha h1 hlim h
    · exact rr5_calls f deep lo pr st w hz ha h1 hlim (hdp (.inl h)) h
    · exact rr6_calls f deep lo pr st w hz ha h1 hlim h
    · rcases getV_kinds (rBytes st 1048576).1 with hv | hv
      · exact rr7_ok f deep lo pr st w hz ha h1 hlim h hv
      · exact rr7_no f deep lo pr st w hz ha h1 hlim h hv
    · exact rr8_calls f deep lo pr st w hz ha h1 hlim (hdp (.inr h)) h
    · exact rr9_calls f deep lo pr st w hz ha h1 hlim h
  · have := hf.k
    exact rrx_calls f deep lo pr st w hz ha h1 hlim (by omega)
end Go.Proofs.YtmlmbahimklfiaaGreatDoor
