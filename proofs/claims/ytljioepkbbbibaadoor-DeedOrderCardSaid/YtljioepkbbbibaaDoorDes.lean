/-
  Des: read of a config; read of any kind, without parts.
-/
import Derived.Test.YtljioepkbbbibaaDoorDer
namespace Go.Proofs.YtljioepkbbbibaaDoor
open Go.RowKit

set_option maxHeartbeats 3200000 in
set_option maxRecDepth 8000 in
theorem rd7_calls (f : Fd) (deep : Bool) (lo pr b : Nat) (st : RSt) (w : World) (hz : f = bareOf f) (ha : Rdr w lo pr st) (h1 : lo ≤ pr) (h2 : pr < b) (hbx : w.heap[b]? = some (.cells (dcells f pl0 0) 31 (0, 0))) (hlim : RLim st) (hH : Has w) (hk : f.k = 7) :
    Calls Tryd.prog 39 #[.pointer (some ⟨pr, 0, none⟩), .pointer (some ⟨b, 0, none⟩), .bool deep] w fun e w' => e = .returned (.tuple #[]) ∧ ∃ pl, Got w w' lo pr b (rdFd f st).2 (rdFd f st).1 pl := by
  obtain ⟨z, k, s, t, x, m, path, data, ow, ve, cv, ti, er, cver, ms⟩ := f
  simp only [bareOf, Fd.mk.injEq, Prod.mk.injEq, true_and] at hz
  obtain ⟨rfl, rfl, rfl, rfl, rfl, rfl, rfl, rfl, rfl⟩ := hz
  simp only at hk
  subst hk
  have hcell : w.cell? ⟨0, 7, none⟩ = some (.int .i64 128) := hH.2 7 (by decide)
  have b1 : bits .and .i64 128 1 = 0 := by decide
  have b2 : bits .and .i64 128 2 = 0 := by decide
  have b4 : bits .and .i64 128 4 = 0 := by decide
  have b8 : bits .and .i64 128 8 = 0 := by decide
  have b16 : bits .and .i64 128 16 = 0 := by decide
  have b32 : bits .and .i64 128 32 = 0 := by decide
  have b64 : bits .and .i64 128 64 = 0 := by decide
  have b128 : bits .and .i64 128 128 = 128 := by decide
  have b256 : bits .and .i64 128 256 = 0 := by decide
  have T0 := Lib.hid (DR.start ha hbx h1 h2)
  have d1 := T0.out.cell 1 _ rfl
  obtain ⟨d1, -⟩ := d1
  obtain ⟨x0, s1, g0⟩ : ∃ x t, rBytes st 1048576 = (x, t) := ⟨_, _, rfl⟩
  have hc0 := fun W (r : Rdr W lo pr st) => rBytes_calls lo pr st 1048576 W r h1 hlim
  rw [g0] at hc0
  have hx0 : x0.length ≤ 140737488355328 := by have h : (rBytes st 1048576).1.length ≤ 1048576 := rBytes_len st 1048576; rw [g0] at h; simp only at h; omega
  have hcg := fun W A c B (hr : Rd W B W.heap.size A x0) => get_any2 A x0 c B W.heap.size W hr (Nat.le_refl _) hx0
  have hml := getV_len x0
  have HFIN : Hid (rdFd ⟨z, 7, s, t, x, m, [], [], 0, 0, 0, 0, 0, (0, [])⟩ st = (⟨z, 7, s, t, x, m, [], [], 0, 0, 0, 0, 0, ((getV x0).1, (getV x0).2.1)⟩, s1)) := by show _ = _; simp [rdFd, g0]
  generalize (getV x0).1 = cver at *
  generalize (getV x0).2.1 = ms at *
  generalize (getV x0).2.2 = er at *
  have HC0 := Lib.hid hc0
  have HCG := Lib.hid hcg
  have HML := Lib.hid hml
  simp only [dcells, pl0] at *
  clear ha hbx hlim hH hc0 hcg g0 hml
  go_enter Tryd.func39, Tryd.ntmps39
  go_wp2_with (fail)
  refine (HC0.out _ T0.out.a).mono ?_
  rintro e v0 ⟨y0, rfl, o0, a0, f0⟩
  obtain ⟨DA, dc, rfl, -, -⟩ := own_form o0
  have HRD := Lib.hid (own_rd o0)
  have U0 := Lib.hid (T0.out.read a0 f0)
  have HS0 := Lib.hid T0.out.fr.size
  have HS1 := Lib.hid f0.size
  clear a0 f0 o0 T0
  go_wp2_with (fail)
  refine (HCG.out _ DA dc _ HRD.out).mono ?_
  rintro e v1 ⟨MA, mc, rfl, rm, f1⟩
  have U1 := Lib.hid (U0.out.keep f1)
  have RM := Lib.hid (rm.wide U0.out.fr.size (Nat.le_refl _))
  have HMB := Lib.hid (Nat.not_le.2 (Lib.lt_of_heap U0.out.bx))
  clear f1 U0 HRD
  have y13 := (cells_of U1.out.bx 13).1
  have n13 := (cells_of U1.out.bx 13).2
  have y14 := (cells_of U1.out.bx 14).1
  have n14 := (cells_of U1.out.bx 14).2
  simp only [List.getElem?_toArray, List.getElem?_cons_zero, List.getElem?_cons_succ] at y13 y14
  have T2 := Lib.hid ((U1.out.set 13 (.int .i64 cver)).set 14 (.slice MA ms.length mc))
  simp only [List.setIfInBounds_toArray, List.set_cons_zero, List.set_cons_succ] at T2
  have RM2 := Lib.hid ((rm.fr ((Fr.refl (OneB b) v1).setCell (p := ⟨b, 13, none⟩) (fun _ => rfl) (.int .i64 cver)) (Nat.le_refl _) (fun k h3 _ hx => by simp only [OneB] at hx; subst hx; exact (HMB.out h3).elim)).fr ((Fr.refl (OneB b) _).setCell (p := ⟨b, 14, none⟩) (fun _ => rfl) (.slice MA ms.length mc)) (by simp [World.setCell]) (fun k h3 _ hx => by simp only [OneB] at hx; subst hx; exact (HMB.out h3).elim))
  clear rm
  go_wp2_with (fail)
  clear y13 n13 y14 n14
  go_end0
  refine ⟨rfl, ?_⟩
  rw [HFIN.out]
  exact ⟨⟨none, 0, MA, mc, none, 0⟩, T2.out, own_nil0 _ _, RM2.out.wide (Nat.le_trans HS0.out HS1.out) (by simp [World.setCell]), rfl, rfl⟩

theorem rdFd_out {f : Fd} {st : RSt} (h : ¬ (1 ≤ f.k ∧ f.k ≤ 9)) : rdFd f st = (f, st) := by
  unfold rdFd
  rw [if_neg (by omega), if_neg (by omega), if_neg (by omega), if_neg (by omega), if_neg (by omega), if_neg (by omega), if_neg (by omega)]
set_option maxHeartbeats 1600000 in
theorem rdx_calls (f : Fd) (deep : Bool) (lo pr b : Nat) (st : RSt) (w : World) (hf : f.Ok) (hz : f = bareOf f) (ha : Rdr w lo pr st) (h1 : lo ≤ pr) (h2 : pr < b) (hbx : w.heap[b]? = some (.cells (dcells f pl0 0) 31 (0, 0))) (hk : ¬ (1 ≤ f.k ∧ f.k ≤ 9)) :
    Calls Tryd.prog 39 #[.pointer (some ⟨pr, 0, none⟩), .pointer (some ⟨b, 0, none⟩), .bool deep] w fun e w' => e = .returned (.tuple #[]) ∧ ∃ pl, Got w w' lo pr b (rdFd f st).2 (rdFd f st).1 pl := by
  rw [rdFd_out hk]
  have T0 := Lib.hid (DR.start ha hbx h1 h2)
  obtain ⟨d1, -⟩ := T0.out.cell 1 _ rfl
  have hk0 := hf.k
  have hdl : f.data.length = 0 := by rw [hz]; rfl
  have hml : f.c.2 = [] := by rw [hz]; rfl
  have hd0 : f.data = [] := List.length_eq_zero_iff.1 hdl
  have HG : Hid (Got w w lo pr b st f pl0) := by
    refine ⟨T0.out, ?_, ?_, rfl, rfl⟩
    · rw [hd0]; exact own_nil0 _ _
    · rw [hml]; exact RdM.nil' _ _ _ _
  clear hf hz ha hbx hdl hml hd0 T0
  obtain ⟨z, k, s, t, x, m, path, data, ow, ve, cv, ti, er, cver, ms⟩ := f
  simp only [dcells] at *
  have hk2 : k < 1 ∨ 9 < k := by omega
  clear hk
  rcases hk2 with hk2 | hk2
  · go_enter Tryd.func39, Tryd.ntmps39
    go_wp2
    all_goals first
      | (go_end0; exact ⟨rfl, pl0, HG.out⟩)
      | (go_ret; exact ⟨rfl, pl0, HG.out⟩)
      | (refine bodyPost_ret (results_none rfl _ _ _) rfl ?_; exact ⟨rfl, pl0, HG.out⟩)
      | (exfalso; omega)
      | trace_state
  · have hk3 : ¬ k < 1 := by omega
    go_enter Tryd.func39, Tryd.ntmps39
    go_wp2
    all_goals first
      | (go_end0; exact ⟨rfl, pl0, HG.out⟩)
      | (go_ret; exact ⟨rfl, pl0, HG.out⟩)
      | (refine bodyPost_ret (results_none rfl _ _ _) rfl ?_; exact ⟨rfl, pl0, HG.out⟩)
      | (exfalso; omega)
      | trace_state
/-- Read of any kind, where no parts are asked. -/
theorem rdFlat_calls (f : Fd) (deep : Bool) (lo pr b : Nat) (st : RSt) (w : World) (hf : f.Ok) (hz : f = bareOf f) (ha : Rdr w lo pr st) (h1 : lo ≤ pr) (h2 : pr < b) (hbx : w.heap[b]? = some (.cells (dcells f pl0 0) 31 (0, 0))) (hlim : RLim st) (hH : Has w) (hdp : f.k = 5 ∨ f.k = 8 → deep = false) :
    Calls Tryd.prog 39 #[.pointer (some ⟨pr, 0, none⟩), .pointer (some ⟨b, 0, none⟩), .bool deep] w fun e w' => e = .returned (.tuple #[]) ∧ ∃ pl, Got w w' lo pr b (rdFd f st).2 (rdFd f st).1 pl := by
  by_cases hk : 1 ≤ f.k ∧ f.k ≤ 9
  · rcases (show f.k = 1 ∨ f.k = 2 ∨ f.k = 3 ∨ f.k = 4 ∨ f.k = 5 ∨ f.k = 6 ∨ f.k = 7 ∨ f.k = 8 ∨ f.k = 9 by omega) with h | h | h | h | h | h | h | h | h
    · exact rd1_calls f deep lo pr b st w hz ha h1 h2 hbx hlim hH h
    · exact rd2_calls f deep lo pr b st w hz ha h1 h2 hbx hlim hH h
    · exact rd3_calls f deep lo pr b st w hz ha h1 h2 hbx hlim hH h
    · exact rd4_calls f deep lo pr b st w hz ha h1 h2 hbx hlim hH h
    · exact rd5_calls f deep lo pr b st w hz ha h1 h2 hbx hlim hH (hdp (.inl h)) h
    · exact rd6_calls f deep lo pr b st w hz ha h1 h2 hbx hlim hH h
    · exact rd7_calls f deep lo pr b st w hz ha h1 h2 hbx hlim hH h
    · exact rd8_calls f deep lo pr b st w hz ha h1 h2 hbx hlim hH (hdp (.inr h)) h
    · exact rd9_calls f deep lo pr b st w hz ha h1 h2 hbx hlim hH h
  · exact rdx_calls f deep lo pr b st w hf hz ha h1 h2 hbx hk
end Go.Proofs.YtljioepkbbbibaaDoor
