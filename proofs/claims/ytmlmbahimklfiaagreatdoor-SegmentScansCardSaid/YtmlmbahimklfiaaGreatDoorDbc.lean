/-
  Dbc: the document's bare, of some kinds.
-/
import Derived.Test.YtmlmbahimklfiaaGreatDoorDrp
import Derived.Test.YtmlmbahimklfiaaGreatDoorDez
namespace Go.Proofs.YtmlmbahimklfiaaGreatDoor
open Go.RowKit

set_option maxHeartbeats 3200000 in
set_option maxRecDepth 8000 in
theorem bare5_calls (f : Fd) (p : Pl) (np : Nat) (w : World) (hf : f.Ok) (_hn : np ≤ 140737488355328) (hk : f.k = 5) :
    Calls Tryz.prog 113 #[dval f p np] w fun e w' => e = .returned (.bool (decide (BareD f np))) ∧ Fr NoB w w' := by
  obtain ⟨z, k, s, t, x, m, path, data, ow, ve, cv, ti, er, cver, ms⟩ := f
  obtain ⟨A, c, B, d, P, e'⟩ := p
  simp only at hk
  subst hk
  have hda := hf.data
  have hms := hf.ms
  clear hf
  simp only at hda hms
  simp only [dval, dcells]
  by_cases hn1 : path = []
  rotate_left
  · rw [decide_eq_false (fun h : BareD _ _ => hn1 (h.1 (by simp only; omega)))]
    have n1 := pne hn1
    have n2 : (path == []) = false := by simpa using hn1
    have n3 : path.isEmpty = false := by simpa using hn1
    go_enter Tryz.func113, Tryz.ntmps113
    go_wp2
    all_goals first
      | (go_ret; exact ⟨rfl, (Fr.refl NoB w).alloc _⟩)
      | (go_ret; exact ⟨ret_bool (by first | omega | simp_all | (simp; omega)), (Fr.refl NoB w).alloc _⟩)
      | (exfalso; omega)
      | (exfalso; simp_all; done)
      | trace_state
  subst hn1
  by_cases hn1 : data = []
  rotate_left
  · rw [decide_eq_false (fun h : BareD _ _ => hn1 (h.2.1 (by simp only; omega)))]
    have n1 : 0 < data.length := List.length_pos_iff.2 hn1
    have n2 : (0 : Int) < (data.length : Int) := by omega
    go_enter Tryz.func113, Tryz.ntmps113
    go_wp2
    all_goals first
      | (go_ret; exact ⟨rfl, (Fr.refl NoB w).alloc _⟩)
      | (go_ret; exact ⟨ret_bool (by first | omega | simp_all | (simp; omega)), (Fr.refl NoB w).alloc _⟩)
      | (exfalso; omega)
      | (exfalso; simp_all; done)
      | trace_state
  subst hn1
  simp only [List.length_nil] at *
  by_cases hn1 : ve = 0
  rotate_left
  · rw [decide_eq_false (fun h : BareD _ _ => hn1 (h.2.2.2.2.1 (by simp only; omega)))]
    have n1 : (ve != 0) = true := by simpa using hn1
    go_enter Tryz.func113, Tryz.ntmps113
    go_wp2
    all_goals first
      | (go_ret; exact ⟨rfl, (Fr.refl NoB w).alloc _⟩)
      | (go_ret; exact ⟨ret_bool (by first | omega | simp_all | (simp; omega)), (Fr.refl NoB w).alloc _⟩)
      | (exfalso; omega)
      | (exfalso; simp_all; done)
      | trace_state
  subst hn1
  by_cases hn1 : cv = 0
  rotate_left
  · rw [decide_eq_false (fun h : BareD _ _ => hn1 (h.2.2.2.2.2.1 (by simp only; omega)))]
    have n1 : (cv != 0) = true := by simpa using hn1
    go_enter Tryz.func113, Tryz.ntmps113
    go_wp2
    all_goals first
      | (go_ret; exact ⟨rfl, (Fr.refl NoB w).alloc _⟩)
      | (go_ret; exact ⟨ret_bool (by first | omega | simp_all | (simp; omega)), (Fr.refl NoB w).alloc _⟩)
      | (exfalso; omega)
      | (exfalso; simp_all; done)
      | trace_state
  subst hn1
  by_cases hn1 : ti = 0
  rotate_left
  · rw [decide_eq_false (fun h : BareD _ _ => hn1 (h.2.2.2.2.2.2.1 (by simp only; omega)))]
    have n1 : (ti != 0) = true := by simpa using hn1
    go_enter Tryz.func113, Tryz.ntmps113
    go_wp2
    all_goals first
      | (go_ret; exact ⟨rfl, (Fr.refl NoB w).alloc _⟩)
      | (go_ret; exact ⟨ret_bool (by first | omega | simp_all | (simp; omega)), (Fr.refl NoB w).alloc _⟩)
      | (exfalso; omega)
      | (exfalso; simp_all; done)
      | trace_state
  subst hn1
  by_cases hn1 : er = 0
  rotate_left
  · rw [decide_eq_false (fun h : BareD _ _ => hn1 (h.2.2.2.2.2.2.2.1 (by simp only; omega)))]
    have n1 : (er != 0) = true := by simpa using hn1
    go_enter Tryz.func113, Tryz.ntmps113
    go_wp2
    all_goals first
      | (go_ret; exact ⟨rfl, (Fr.refl NoB w).alloc _⟩)
      | (go_ret; exact ⟨ret_bool (by first | omega | simp_all | (simp; omega)), (Fr.refl NoB w).alloc _⟩)
      | (exfalso; omega)
      | (exfalso; simp_all; done)
      | trace_state
  subst hn1
  by_cases hn1 : cver = 0
  rotate_left
  · rw [decide_eq_false (fun h : BareD _ _ => hn1 (h.2.2.2.2.2.2.2.2 (by simp only; omega)).1)]
    have n1 : (cver == 0) = false := by simpa using hn1
    go_enter Tryz.func113, Tryz.ntmps113
    go_wp2
    all_goals first
      | (go_ret; exact ⟨rfl, (Fr.refl NoB w).alloc _⟩)
      | (go_ret; exact ⟨ret_bool (by first | omega | simp_all | (simp; omega)), (Fr.refl NoB w).alloc _⟩)
      | (exfalso; omega)
      | (exfalso; simp_all; done)
      | trace_state
  subst hn1
  by_cases hn1 : ms = []
  rotate_left
  · rw [decide_eq_false (fun h : BareD _ _ => hn1 (h.2.2.2.2.2.2.2.2 (by simp only; omega)).2)]
    have n1 : (ms.length == 0) = false := by simpa using hn1
    have n2 : ((ms.length : Int) == 0) = false := by rw [beq_eq_false_iff_ne]; have := List.length_pos_iff.2 hn1; omega
    have n3 : ¬ ms.length = 0 := by simpa using hn1
    go_enter Tryz.func113, Tryz.ntmps113
    go_wp2
    all_goals first
      | (go_ret; exact ⟨rfl, (Fr.refl NoB w).alloc _⟩)
      | (go_ret; exact ⟨ret_bool (by first | omega | simp_all | (simp; omega)), (Fr.refl NoB w).alloc _⟩)
      | (exfalso; omega)
      | (exfalso; simp_all; done)
      | trace_state
  subst hn1
  simp only [List.length_nil] at *
  rw [decide_eq_true (show BareD _ _ from ⟨fun _ => rfl, fun _ => rfl, fun h => absurd h (by simp), fun h => absurd h (by simp), fun _ => rfl, fun _ => rfl, fun _ => rfl, fun _ => rfl, fun _ => ⟨rfl, rfl⟩⟩)]
  go_enter Tryz.func113, Tryz.ntmps113
  go_wp2
  all_goals first
    | (go_ret; exact ⟨rfl, (Fr.refl NoB w).alloc _⟩)
    | (go_ret; exact ⟨ret_bool (by first | omega | simp_all | (simp; omega)), (Fr.refl NoB w).alloc _⟩)
    | (exfalso; omega)
    | (exfalso; simp_all; done)
    | trace_state
set_option maxHeartbeats 3200000 in
set_option maxRecDepth 8000 in
theorem bare8_calls (f : Fd) (p : Pl) (np : Nat) (w : World) (hf : f.Ok) (_hn : np ≤ 140737488355328) (hk : f.k = 8) :
    Calls Tryz.prog 113 #[dval f p np] w fun e w' => e = .returned (.bool (decide (BareD f np))) ∧ Fr NoB w w' := by
  obtain ⟨z, k, s, t, x, m, path, data, ow, ve, cv, ti, er, cver, ms⟩ := f
  obtain ⟨A, c, B, d, P, e'⟩ := p
  simp only at hk
  subst hk
  have hda := hf.data
  have hms := hf.ms
  clear hf
  simp only at hda hms
  simp only [dval, dcells]
  by_cases hn1 : path = []
  rotate_left
  · rw [decide_eq_false (fun h : BareD _ _ => hn1 (h.1 (by simp only; omega)))]
    have n1 := pne hn1
    have n2 : (path == []) = false := by simpa using hn1
    have n3 : path.isEmpty = false := by simpa using hn1
    go_enter Tryz.func113, Tryz.ntmps113
    go_wp2
    all_goals first
      | (go_ret; exact ⟨rfl, (Fr.refl NoB w).alloc _⟩)
      | (go_ret; exact ⟨ret_bool (by first | omega | simp_all | (simp; omega)), (Fr.refl NoB w).alloc _⟩)
      | (exfalso; omega)
      | (exfalso; simp_all; done)
      | trace_state
  subst hn1
  by_cases hn1 : data = []
  rotate_left
  · rw [decide_eq_false (fun h : BareD _ _ => hn1 (h.2.1 (by simp only; omega)))]
    have n1 : 0 < data.length := List.length_pos_iff.2 hn1
    have n2 : (0 : Int) < (data.length : Int) := by omega
    go_enter Tryz.func113, Tryz.ntmps113
    go_wp2
    all_goals first
      | (go_ret; exact ⟨rfl, (Fr.refl NoB w).alloc _⟩)
      | (go_ret; exact ⟨ret_bool (by first | omega | simp_all | (simp; omega)), (Fr.refl NoB w).alloc _⟩)
      | (exfalso; omega)
      | (exfalso; simp_all; done)
      | trace_state
  subst hn1
  simp only [List.length_nil] at *
  by_cases hn1 : ow = 0
  rotate_left
  · rw [decide_eq_false (fun h : BareD _ _ => hn1 (h.2.2.1 (by simp only; omega)))]
    have n1 : (ow != 0) = true := by simpa using hn1
    go_enter Tryz.func113, Tryz.ntmps113
    go_wp2
    all_goals first
      | (go_ret; exact ⟨rfl, (Fr.refl NoB w).alloc _⟩)
      | (go_ret; exact ⟨ret_bool (by first | omega | simp_all | (simp; omega)), (Fr.refl NoB w).alloc _⟩)
      | (exfalso; omega)
      | (exfalso; simp_all; done)
      | trace_state
  subst hn1
  by_cases hn1 : ve = 0
  rotate_left
  · rw [decide_eq_false (fun h : BareD _ _ => hn1 (h.2.2.2.2.1 (by simp only; omega)))]
    have n1 : (ve != 0) = true := by simpa using hn1
    go_enter Tryz.func113, Tryz.ntmps113
    go_wp2
    all_goals first
      | (go_ret; exact ⟨rfl, (Fr.refl NoB w).alloc _⟩)
      | (go_ret; exact ⟨ret_bool (by first | omega | simp_all | (simp; omega)), (Fr.refl NoB w).alloc _⟩)
      | (exfalso; omega)
      | (exfalso; simp_all; done)
      | trace_state
  subst hn1
  by_cases hn1 : cv = 0
  rotate_left
  · rw [decide_eq_false (fun h : BareD _ _ => hn1 (h.2.2.2.2.2.1 (by simp only; omega)))]
    have n1 : (cv != 0) = true := by simpa using hn1
    go_enter Tryz.func113, Tryz.ntmps113
    go_wp2
    all_goals first
      | (go_ret; exact ⟨rfl, (Fr.refl NoB w).alloc _⟩)
      | (go_ret; exact ⟨ret_bool (by first | omega | simp_all | (simp; omega)), (Fr.refl NoB w).alloc _⟩)
      | (exfalso; omega)
      | (exfalso; simp_all; done)
      | trace_state
  subst hn1
  by_cases hn1 : ti = 0
  rotate_left
  · rw [decide_eq_false (fun h : BareD _ _ => hn1 (h.2.2.2.2.2.2.1 (by simp only; omega)))]
    have n1 : (ti != 0) = true := by simpa using hn1
    go_enter Tryz.func113, Tryz.ntmps113
    go_wp2
    all_goals first
      | (go_ret; exact ⟨rfl, (Fr.refl NoB w).alloc _⟩)
      | (go_ret; exact ⟨ret_bool (by first | omega | simp_all | (simp; omega)), (Fr.refl NoB w).alloc _⟩)
      | (exfalso; omega)
      | (exfalso; simp_all; done)
      | trace_state
  subst hn1
  by_cases hn1 : er = 0
  rotate_left
  · rw [decide_eq_false (fun h : BareD _ _ => hn1 (h.2.2.2.2.2.2.2.1 (by simp only; omega)))]
    have n1 : (er != 0) = true := by simpa using hn1
    go_enter Tryz.func113, Tryz.ntmps113
    go_wp2
    all_goals first
      | (go_ret; exact ⟨rfl, (Fr.refl NoB w).alloc _⟩)
      | (go_ret; exact ⟨ret_bool (by first | omega | simp_all | (simp; omega)), (Fr.refl NoB w).alloc _⟩)
      | (exfalso; omega)
      | (exfalso; simp_all; done)
      | trace_state
  subst hn1
  by_cases hn1 : cver = 0
  rotate_left
  · rw [decide_eq_false (fun h : BareD _ _ => hn1 (h.2.2.2.2.2.2.2.2 (by simp only; omega)).1)]
    have n1 : (cver == 0) = false := by simpa using hn1
    go_enter Tryz.func113, Tryz.ntmps113
    go_wp2
    all_goals first
      | (go_ret; exact ⟨rfl, (Fr.refl NoB w).alloc _⟩)
      | (go_ret; exact ⟨ret_bool (by first | omega | simp_all | (simp; omega)), (Fr.refl NoB w).alloc _⟩)
      | (exfalso; omega)
      | (exfalso; simp_all; done)
      | trace_state
  subst hn1
  by_cases hn1 : ms = []
  rotate_left
  · rw [decide_eq_false (fun h : BareD _ _ => hn1 (h.2.2.2.2.2.2.2.2 (by simp only; omega)).2)]
    have n1 : (ms.length == 0) = false := by simpa using hn1
    have n2 : ((ms.length : Int) == 0) = false := by rw [beq_eq_false_iff_ne]; have := List.length_pos_iff.2 hn1; omega
    have n3 : ¬ ms.length = 0 := by simpa using hn1
    go_enter Tryz.func113, Tryz.ntmps113
    go_wp2
    all_goals first
      | (go_ret; exact ⟨rfl, (Fr.refl NoB w).alloc _⟩)
      | (go_ret; exact ⟨ret_bool (by first | omega | simp_all | (simp; omega)), (Fr.refl NoB w).alloc _⟩)
      | (exfalso; omega)
      | (exfalso; simp_all; done)
      | trace_state
  subst hn1
  simp only [List.length_nil] at *
  rw [decide_eq_true (show BareD _ _ from ⟨fun _ => rfl, fun _ => rfl, fun _ => rfl, fun h => absurd h (by simp), fun _ => rfl, fun _ => rfl, fun _ => rfl, fun _ => rfl, fun _ => ⟨rfl, rfl⟩⟩)]
  go_enter Tryz.func113, Tryz.ntmps113
  go_wp2
  all_goals first
    | (go_ret; exact ⟨rfl, (Fr.refl NoB w).alloc _⟩)
    | (go_ret; exact ⟨ret_bool (by first | omega | simp_all | (simp; omega)), (Fr.refl NoB w).alloc _⟩)
    | (exfalso; omega)
    | (exfalso; simp_all; done)
    | trace_state
set_option maxHeartbeats 3200000 in
set_option maxRecDepth 8000 in
theorem bare9_calls (f : Fd) (p : Pl) (np : Nat) (w : World) (hf : f.Ok) (hn : np ≤ 140737488355328) (hk : f.k = 9) :
    Calls Tryz.prog 113 #[dval f p np] w fun e w' => e = .returned (.bool (decide (BareD f np))) ∧ Fr NoB w w' := by
  obtain ⟨z, k, s, t, x, m, path, data, ow, ve, cv, ti, er, cver, ms⟩ := f
  obtain ⟨A, c, B, d, P, e'⟩ := p
  simp only at hk
  subst hk
  have hda := hf.data
  have hms := hf.ms
  clear hf
  simp only at hda hms
  simp only [dval, dcells]
  by_cases hn1 : path = []
  rotate_left
  · rw [decide_eq_false (fun h : BareD _ _ => hn1 (h.1 (by simp only; omega)))]
    have n1 := pne hn1
    have n2 : (path == []) = false := by simpa using hn1
    have n3 : path.isEmpty = false := by simpa using hn1
    go_enter Tryz.func113, Tryz.ntmps113
    go_wp2
    all_goals first
      | (go_ret; exact ⟨rfl, (Fr.refl NoB w).alloc _⟩)
      | (go_ret; exact ⟨ret_bool (by first | omega | simp_all | (simp; omega)), (Fr.refl NoB w).alloc _⟩)
      | (exfalso; omega)
      | (exfalso; simp_all; done)
      | trace_state
  subst hn1
  by_cases hn1 : data = []
  rotate_left
  · rw [decide_eq_false (fun h : BareD _ _ => hn1 (h.2.1 (by simp only; omega)))]
    have n1 : 0 < data.length := List.length_pos_iff.2 hn1
    have n2 : (0 : Int) < (data.length : Int) := by omega
    go_enter Tryz.func113, Tryz.ntmps113
    go_wp2
    all_goals first
      | (go_ret; exact ⟨rfl, (Fr.refl NoB w).alloc _⟩)
      | (go_ret; exact ⟨ret_bool (by first | omega | simp_all | (simp; omega)), (Fr.refl NoB w).alloc _⟩)
      | (exfalso; omega)
      | (exfalso; simp_all; done)
      | trace_state
  subst hn1
  simp only [List.length_nil] at *
  by_cases hn1 : ow = 0
  rotate_left
  · rw [decide_eq_false (fun h : BareD _ _ => hn1 (h.2.2.1 (by simp only; omega)))]
    have n1 : (ow != 0) = true := by simpa using hn1
    go_enter Tryz.func113, Tryz.ntmps113
    go_wp2
    all_goals first
      | (go_ret; exact ⟨rfl, (Fr.refl NoB w).alloc _⟩)
      | (go_ret; exact ⟨ret_bool (by first | omega | simp_all | (simp; omega)), (Fr.refl NoB w).alloc _⟩)
      | (exfalso; omega)
      | (exfalso; simp_all; done)
      | trace_state
  subst hn1
  by_cases hn1 : np = 0
  rotate_left
  · rw [decide_eq_false (fun h : BareD _ _ => hn1 (h.2.2.2.1 (by simp only; omega)))]
    have n1 : 0 < np := by omega
    have n2 : (0 : Int) < (np : Int) := by omega
    go_enter Tryz.func113, Tryz.ntmps113
    go_wp2
    all_goals first
      | (go_ret; exact ⟨rfl, (Fr.refl NoB w).alloc _⟩)
      | (go_ret; exact ⟨ret_bool (by first | omega | simp_all | (simp; omega)), (Fr.refl NoB w).alloc _⟩)
      | (exfalso; omega)
      | (exfalso; simp_all; done)
      | trace_state
  subst hn1
  by_cases hn1 : ve = 0
  rotate_left
  · rw [decide_eq_false (fun h : BareD _ _ => hn1 (h.2.2.2.2.1 (by simp only; omega)))]
    have n1 : (ve != 0) = true := by simpa using hn1
    go_enter Tryz.func113, Tryz.ntmps113
    go_wp2
    all_goals first
      | (go_ret; exact ⟨rfl, (Fr.refl NoB w).alloc _⟩)
      | (go_ret; exact ⟨ret_bool (by first | omega | simp_all | (simp; omega)), (Fr.refl NoB w).alloc _⟩)
      | (exfalso; omega)
      | (exfalso; simp_all; done)
      | trace_state
  subst hn1
  by_cases hn1 : cv = 0
  rotate_left
  · rw [decide_eq_false (fun h : BareD _ _ => hn1 (h.2.2.2.2.2.1 (by simp only; omega)))]
    have n1 : (cv != 0) = true := by simpa using hn1
    go_enter Tryz.func113, Tryz.ntmps113
    go_wp2
    all_goals first
      | (go_ret; exact ⟨rfl, (Fr.refl NoB w).alloc _⟩)
      | (go_ret; exact ⟨ret_bool (by first | omega | simp_all | (simp; omega)), (Fr.refl NoB w).alloc _⟩)
      | (exfalso; omega)
      | (exfalso; simp_all; done)
      | trace_state
  subst hn1
  by_cases hn1 : ti = 0
  rotate_left
  · rw [decide_eq_false (fun h : BareD _ _ => hn1 (h.2.2.2.2.2.2.1 (by simp only; omega)))]
    have n1 : (ti != 0) = true := by simpa using hn1
    go_enter Tryz.func113, Tryz.ntmps113
    go_wp2
    all_goals first
      | (go_ret; exact ⟨rfl, (Fr.refl NoB w).alloc _⟩)
      | (go_ret; exact ⟨ret_bool (by first | omega | simp_all | (simp; omega)), (Fr.refl NoB w).alloc _⟩)
      | (exfalso; omega)
      | (exfalso; simp_all; done)
      | trace_state
  subst hn1
  by_cases hn1 : cver = 0
  rotate_left
  · rw [decide_eq_false (fun h : BareD _ _ => hn1 (h.2.2.2.2.2.2.2.2 (by simp only; omega)).1)]
    have n1 : (cver == 0) = false := by simpa using hn1
    go_enter Tryz.func113, Tryz.ntmps113
    go_wp2
    all_goals first
      | (go_ret; exact ⟨rfl, (Fr.refl NoB w).alloc _⟩)
      | (go_ret; exact ⟨ret_bool (by first | omega | simp_all | (simp; omega)), (Fr.refl NoB w).alloc _⟩)
      | (exfalso; omega)
      | (exfalso; simp_all; done)
      | trace_state
  subst hn1
  by_cases hn1 : ms = []
  rotate_left
  · rw [decide_eq_false (fun h : BareD _ _ => hn1 (h.2.2.2.2.2.2.2.2 (by simp only; omega)).2)]
    have n1 : (ms.length == 0) = false := by simpa using hn1
    have n2 : ((ms.length : Int) == 0) = false := by rw [beq_eq_false_iff_ne]; have := List.length_pos_iff.2 hn1; omega
    have n3 : ¬ ms.length = 0 := by simpa using hn1
    go_enter Tryz.func113, Tryz.ntmps113
    go_wp2
    all_goals first
      | (go_ret; exact ⟨rfl, (Fr.refl NoB w).alloc _⟩)
      | (go_ret; exact ⟨ret_bool (by first | omega | simp_all | (simp; omega)), (Fr.refl NoB w).alloc _⟩)
      | (exfalso; omega)
      | (exfalso; simp_all; done)
      | trace_state
  subst hn1
  simp only [List.length_nil] at *
  rw [decide_eq_true (show BareD _ _ from ⟨fun _ => rfl, fun _ => rfl, fun _ => rfl, fun _ => rfl, fun _ => rfl, fun _ => rfl, fun _ => rfl, fun h => absurd h (by simp), fun _ => ⟨rfl, rfl⟩⟩)]
  go_enter Tryz.func113, Tryz.ntmps113
  go_wp2
  all_goals first
    | (go_ret; exact ⟨rfl, (Fr.refl NoB w).alloc _⟩)
    | (go_ret; exact ⟨ret_bool (by first | omega | simp_all | (simp; omega)), (Fr.refl NoB w).alloc _⟩)
    | (exfalso; omega)
    | (exfalso; simp_all; done)
    | trace_state
end Go.Proofs.YtmlmbahimklfiaaGreatDoor
