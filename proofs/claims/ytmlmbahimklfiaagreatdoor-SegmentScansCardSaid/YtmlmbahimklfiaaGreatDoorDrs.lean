/-
  Drs: the document's node, parts.
-/
import Derived.Test.YtmlmbahimklfiaaGreatDoorDrb
import Derived.Test.YtmlmbahimklfiaaGreatDoorRck
import Derived.Test.YtmlmbahimklfiaaGreatDoorDee
namespace Go.Proofs.YtmlmbahimklfiaaGreatDoor
open Go.RowKit

set_option maxHeartbeats 3200000 in
set_option maxRecDepth 8000 in
theorem node_calls (f : Fd) (p : Pl) (np : Nat) (w : World) (hf : f.Ok) (hn : np ≤ 140737488355328) (hM : Max w) :
    Calls Tryz.prog 114 #[dval f p np] w fun e w' => e = .returned (.bool (decide (NodeD f np))) ∧ Fr NoB w w' := by
  have hcb := fun W => bare_calls f p np W hf hn
  have hcc := fun W (F : Fr NoB w W) => refcheck_calls f.path W (hM.fr F) (by have := hf.path; omega)
  have hkk := hf.k
  have hda := hf.data
  clear hf hM
  obtain ⟨z, k, s, t, x, m, path, data, ow, ve, cv, ti, er, cver, ms⟩ := f
  obtain ⟨A, c, B, d, P, e'⟩ := p
  simp only at hcc hkk hda
  by_cases hbare : BareD ⟨z, k, s, t, x, m, path, data, ow, ve, cv, ti, er, (cver, ms)⟩ np
  rotate_left
  · rw [decide_eq_false (fun h : NodeD ⟨z, k, s, t, x, m, path, data, ow, ve, cv, ti, er, (cver, ms)⟩ np => hbare h.1)]
    rw [decide_eq_false hbare] at hcb
    simp only [dval, dcells] at *
    clear hkk
    clear hbare
    as_aux_lemma =>
      go_enter Tryz.func114, Tryz.ntmps114
      go_wp2_with (first
        | ((with_reducible refine (hcb _).mono ?_); rintro e w1 ⟨rfl, f1⟩; have hb := f1.at_ (heap_alloc_new w _) (fun x => x); have c1 := (cells_of hb 1).1; have c6 := (cells_of hb 6).1; have c7 := (cells_of hb 7).1; have c8 := (cells_of hb 8).1; have c9 := (cells_of hb 9).1; have c10 := (cells_of hb 10).1; clear hb; simp only [List.getElem?_toArray, List.getElem?_cons_zero, List.getElem?_cons_succ] at c1 c6 c7 c8 c9 c10))
      all_goals first
        | (go_ret; exact ⟨rfl, ((Fr.refl NoB w).alloc _).then f1⟩)
        | (go_ret; exact ⟨ret_bool (by first | omega | simp_all | (simp; omega)), ((Fr.refl NoB w).alloc _).then f1⟩)
        | (exfalso; omega)
        | (exfalso; simp_all; done)
        | trace_state
  rw [decide_eq_true hbare] at hcb
  by_cases hpchk : pchk path = true
  rotate_left
  · rw [decide_eq_false (fun h : NodeD ⟨z, k, s, t, x, m, path, data, ow, ve, cv, ti, er, (cver, ms)⟩ np => hpchk h.2.1)]
    rw [Bool.eq_false_iff.2 hpchk] at hcc
    simp only [dval, dcells] at *
    clear hkk
    as_aux_lemma =>
      go_enter Tryz.func114, Tryz.ntmps114
      go_wp2_with (first
        | ((with_reducible refine (hcb _).mono ?_); rintro e w1 ⟨rfl, f1⟩; have hb := f1.at_ (heap_alloc_new w _) (fun x => x); have c1 := (cells_of hb 1).1; have c6 := (cells_of hb 6).1; have c7 := (cells_of hb 7).1; have c8 := (cells_of hb 8).1; have c9 := (cells_of hb 9).1; have c10 := (cells_of hb 10).1; clear hb; simp only [List.getElem?_toArray, List.getElem?_cons_zero, List.getElem?_cons_succ] at c1 c6 c7 c8 c9 c10)
        | ((with_reducible refine (hcc _ (((Fr.refl NoB w).alloc _).then f1)).mono ?_); rintro e w2 ⟨rfl, f2⟩; clear c1 c6 c7 c8 c9 c10; have hb := (f1.then f2).at_ (heap_alloc_new w _) (fun x => x); have c1 := (cells_of hb 1).1; have c6 := (cells_of hb 6).1; have c7 := (cells_of hb 7).1; have c8 := (cells_of hb 8).1; have c9 := (cells_of hb 9).1; have c10 := (cells_of hb 10).1; clear hb; simp only [List.getElem?_toArray, List.getElem?_cons_zero, List.getElem?_cons_succ] at c1 c6 c7 c8 c9 c10))
      all_goals first
        | (go_ret; exact ⟨rfl, (((Fr.refl NoB w).alloc _).then f1).then f2⟩)
        | (go_ret; exact ⟨ret_bool (by first | omega | simp_all | (simp; omega)), (((Fr.refl NoB w).alloc _).then f1).then f2⟩)
        | (exfalso; omega)
        | (exfalso; simp_all; done)
        | trace_state
  rw [hpchk] at hcc
  by_cases hdata : data.length ≤ 1000
  rotate_left
  · rw [decide_eq_false (fun h : NodeD ⟨z, k, s, t, x, m, path, data, ow, ve, cv, ti, er, (cver, ms)⟩ np => hdata h.2.2.1)]
    have hdi : (1000 : Int) < (data.length : Int) := by omega
    simp only [dval, dcells] at *
    clear hkk
    as_aux_lemma =>
      go_enter Tryz.func114, Tryz.ntmps114
      go_wp2_with (first
        | ((with_reducible refine (hcb _).mono ?_); rintro e w1 ⟨rfl, f1⟩; have hb := f1.at_ (heap_alloc_new w _) (fun x => x); have c1 := (cells_of hb 1).1; have c6 := (cells_of hb 6).1; have c7 := (cells_of hb 7).1; have c8 := (cells_of hb 8).1; have c9 := (cells_of hb 9).1; have c10 := (cells_of hb 10).1; clear hb; simp only [List.getElem?_toArray, List.getElem?_cons_zero, List.getElem?_cons_succ] at c1 c6 c7 c8 c9 c10)
        | ((with_reducible refine (hcc _ (((Fr.refl NoB w).alloc _).then f1)).mono ?_); rintro e w2 ⟨rfl, f2⟩; clear c1 c6 c7 c8 c9 c10; have hb := (f1.then f2).at_ (heap_alloc_new w _) (fun x => x); have c1 := (cells_of hb 1).1; have c6 := (cells_of hb 6).1; have c7 := (cells_of hb 7).1; have c8 := (cells_of hb 8).1; have c9 := (cells_of hb 9).1; have c10 := (cells_of hb 10).1; clear hb; simp only [List.getElem?_toArray, List.getElem?_cons_zero, List.getElem?_cons_succ] at c1 c6 c7 c8 c9 c10))
      all_goals first
        | (go_ret; exact ⟨rfl, (((Fr.refl NoB w).alloc _).then f1).then f2⟩)
        | (go_ret; exact ⟨ret_bool (by first | omega | simp_all | (simp; omega)), (((Fr.refl NoB w).alloc _).then f1).then f2⟩)
        | (exfalso; omega)
        | (exfalso; simp_all; done)
        | trace_state
  have hdi : ¬ (1000 : Int) < (data.length : Int) := by omega
  by_cases how : 0 ≤ ow
  rotate_left
  · rw [decide_eq_false (fun h : NodeD ⟨z, k, s, t, x, m, path, data, ow, ve, cv, ti, er, (cver, ms)⟩ np => how h.2.2.2.1)]
    simp only [dval, dcells] at *
    clear hkk
    as_aux_lemma =>
      go_enter Tryz.func114, Tryz.ntmps114
      go_wp2_with (first
        | ((with_reducible refine (hcb _).mono ?_); rintro e w1 ⟨rfl, f1⟩; have hb := f1.at_ (heap_alloc_new w _) (fun x => x); have c1 := (cells_of hb 1).1; have c6 := (cells_of hb 6).1; have c7 := (cells_of hb 7).1; have c8 := (cells_of hb 8).1; have c9 := (cells_of hb 9).1; have c10 := (cells_of hb 10).1; clear hb; simp only [List.getElem?_toArray, List.getElem?_cons_zero, List.getElem?_cons_succ] at c1 c6 c7 c8 c9 c10)
        | ((with_reducible refine (hcc _ (((Fr.refl NoB w).alloc _).then f1)).mono ?_); rintro e w2 ⟨rfl, f2⟩; clear c1 c6 c7 c8 c9 c10; have hb := (f1.then f2).at_ (heap_alloc_new w _) (fun x => x); have c1 := (cells_of hb 1).1; have c6 := (cells_of hb 6).1; have c7 := (cells_of hb 7).1; have c8 := (cells_of hb 8).1; have c9 := (cells_of hb 9).1; have c10 := (cells_of hb 10).1; clear hb; simp only [List.getElem?_toArray, List.getElem?_cons_zero, List.getElem?_cons_succ] at c1 c6 c7 c8 c9 c10))
      all_goals first
        | (go_ret; exact ⟨rfl, (((Fr.refl NoB w).alloc _).then f1).then f2⟩)
        | (go_ret; exact ⟨ret_bool (by first | omega | simp_all | (simp; omega)), (((Fr.refl NoB w).alloc _).then f1).then f2⟩)
        | (exfalso; omega)
        | (exfalso; simp_all; done)
        | trace_state
  by_cases hcv : 0 ≤ cv
  rotate_left
  · rw [decide_eq_false (fun h : NodeD ⟨z, k, s, t, x, m, path, data, ow, ve, cv, ti, er, (cver, ms)⟩ np => hcv h.2.2.2.2.1)]
    simp only [dval, dcells] at *
    clear hkk
    as_aux_lemma =>
      go_enter Tryz.func114, Tryz.ntmps114
      go_wp2_with (first
        | ((with_reducible refine (hcb _).mono ?_); rintro e w1 ⟨rfl, f1⟩; have hb := f1.at_ (heap_alloc_new w _) (fun x => x); have c1 := (cells_of hb 1).1; have c6 := (cells_of hb 6).1; have c7 := (cells_of hb 7).1; have c8 := (cells_of hb 8).1; have c9 := (cells_of hb 9).1; have c10 := (cells_of hb 10).1; clear hb; simp only [List.getElem?_toArray, List.getElem?_cons_zero, List.getElem?_cons_succ] at c1 c6 c7 c8 c9 c10)
        | ((with_reducible refine (hcc _ (((Fr.refl NoB w).alloc _).then f1)).mono ?_); rintro e w2 ⟨rfl, f2⟩; clear c1 c6 c7 c8 c9 c10; have hb := (f1.then f2).at_ (heap_alloc_new w _) (fun x => x); have c1 := (cells_of hb 1).1; have c6 := (cells_of hb 6).1; have c7 := (cells_of hb 7).1; have c8 := (cells_of hb 8).1; have c9 := (cells_of hb 9).1; have c10 := (cells_of hb 10).1; clear hb; simp only [List.getElem?_toArray, List.getElem?_cons_zero, List.getElem?_cons_succ] at c1 c6 c7 c8 c9 c10))
      all_goals first
        | (go_ret; exact ⟨rfl, (((Fr.refl NoB w).alloc _).then f1).then f2⟩)
        | (go_ret; exact ⟨ret_bool (by first | omega | simp_all | (simp; omega)), (((Fr.refl NoB w).alloc _).then f1).then f2⟩)
        | (exfalso; omega)
        | (exfalso; simp_all; done)
        | trace_state
  by_cases hve : 0 ≤ ve
  rotate_left
  · rw [decide_eq_false (fun h : NodeD ⟨z, k, s, t, x, m, path, data, ow, ve, cv, ti, er, (cver, ms)⟩ np => hve h.2.2.2.2.2.1)]
    simp only [dval, dcells] at *
    clear hkk
    as_aux_lemma =>
      go_enter Tryz.func114, Tryz.ntmps114
      go_wp2_with (first
        | ((with_reducible refine (hcb _).mono ?_); rintro e w1 ⟨rfl, f1⟩; have hb := f1.at_ (heap_alloc_new w _) (fun x => x); have c1 := (cells_of hb 1).1; have c6 := (cells_of hb 6).1; have c7 := (cells_of hb 7).1; have c8 := (cells_of hb 8).1; have c9 := (cells_of hb 9).1; have c10 := (cells_of hb 10).1; clear hb; simp only [List.getElem?_toArray, List.getElem?_cons_zero, List.getElem?_cons_succ] at c1 c6 c7 c8 c9 c10)
        | ((with_reducible refine (hcc _ (((Fr.refl NoB w).alloc _).then f1)).mono ?_); rintro e w2 ⟨rfl, f2⟩; clear c1 c6 c7 c8 c9 c10; have hb := (f1.then f2).at_ (heap_alloc_new w _) (fun x => x); have c1 := (cells_of hb 1).1; have c6 := (cells_of hb 6).1; have c7 := (cells_of hb 7).1; have c8 := (cells_of hb 8).1; have c9 := (cells_of hb 9).1; have c10 := (cells_of hb 10).1; clear hb; simp only [List.getElem?_toArray, List.getElem?_cons_zero, List.getElem?_cons_succ] at c1 c6 c7 c8 c9 c10))
      all_goals first
        | (go_ret; exact ⟨rfl, (((Fr.refl NoB w).alloc _).then f1).then f2⟩)
        | (go_ret; exact ⟨ret_bool (by first | omega | simp_all | (simp; omega)), (((Fr.refl NoB w).alloc _).then f1).then f2⟩)
        | (exfalso; omega)
        | (exfalso; simp_all; done)
        | trace_state
  by_cases hk3 : k = 3
  · subst hk3
    rw [decide_eq_true (show NodeD ⟨z, 3, s, t, x, m, path, data, ow, ve, cv, ti, er, (cver, ms)⟩ np from ⟨hbare, hpchk, hdata, how, hcv, hve, .inl rfl⟩)]
    simp only [dval, dcells] at *
    clear hkk hbare
    as_aux_lemma =>
      go_enter Tryz.func114, Tryz.ntmps114
      go_wp2_with (first
        | ((with_reducible refine (hcb _).mono ?_); rintro e w1 ⟨rfl, f1⟩; have hb := f1.at_ (heap_alloc_new w _) (fun x => x); have c1 := (cells_of hb 1).1; have c6 := (cells_of hb 6).1; have c7 := (cells_of hb 7).1; have c8 := (cells_of hb 8).1; have c9 := (cells_of hb 9).1; have c10 := (cells_of hb 10).1; clear hb; simp only [List.getElem?_toArray, List.getElem?_cons_zero, List.getElem?_cons_succ] at c1 c6 c7 c8 c9 c10)
        | ((with_reducible refine (hcc _ (((Fr.refl NoB w).alloc _).then f1)).mono ?_); rintro e w2 ⟨rfl, f2⟩; clear c1 c6 c7 c8 c9 c10; have hb := (f1.then f2).at_ (heap_alloc_new w _) (fun x => x); have c1 := (cells_of hb 1).1; have c6 := (cells_of hb 6).1; have c7 := (cells_of hb 7).1; have c8 := (cells_of hb 8).1; have c9 := (cells_of hb 9).1; have c10 := (cells_of hb 10).1; clear hb; simp only [List.getElem?_toArray, List.getElem?_cons_zero, List.getElem?_cons_succ] at c1 c6 c7 c8 c9 c10))
      all_goals first
        | (go_ret; exact ⟨rfl, (((Fr.refl NoB w).alloc _).then f1).then f2⟩)
        | (go_ret; exact ⟨ret_bool (by first | omega | simp_all | (simp; omega)), (((Fr.refl NoB w).alloc _).then f1).then f2⟩)
        | (exfalso; omega)
        | (exfalso; simp_all; done)
        | trace_state
  by_cases hk12 : k = 1 ∨ k = 2
  rotate_left
  · rw [decide_eq_false (fun h : NodeD ⟨z, k, s, t, x, m, path, data, ow, ve, cv, ti, er, (cver, ms)⟩ np => h.2.2.2.2.2.2.elim hk3 (fun x => hk12 x.1))]
    have hk1 : ¬ k = 1 := fun h => hk12 (.inl h)
    have hk2 : ¬ k = 2 := fun h => hk12 (.inr h)
    simp only [dval, dcells] at *
    clear hkk hbare hk12
    as_aux_lemma =>
      go_enter Tryz.func114, Tryz.ntmps114
      go_wp2_with (first
        | ((with_reducible refine (hcb _).mono ?_); rintro e w1 ⟨rfl, f1⟩; have hb := f1.at_ (heap_alloc_new w _) (fun x => x); have c1 := (cells_of hb 1).1; have c6 := (cells_of hb 6).1; have c7 := (cells_of hb 7).1; have c8 := (cells_of hb 8).1; have c9 := (cells_of hb 9).1; have c10 := (cells_of hb 10).1; clear hb; simp only [List.getElem?_toArray, List.getElem?_cons_zero, List.getElem?_cons_succ] at c1 c6 c7 c8 c9 c10)
        | ((with_reducible refine (hcc _ (((Fr.refl NoB w).alloc _).then f1)).mono ?_); rintro e w2 ⟨rfl, f2⟩; clear c1 c6 c7 c8 c9 c10; have hb := (f1.then f2).at_ (heap_alloc_new w _) (fun x => x); have c1 := (cells_of hb 1).1; have c6 := (cells_of hb 6).1; have c7 := (cells_of hb 7).1; have c8 := (cells_of hb 8).1; have c9 := (cells_of hb 9).1; have c10 := (cells_of hb 10).1; clear hb; simp only [List.getElem?_toArray, List.getElem?_cons_zero, List.getElem?_cons_succ] at c1 c6 c7 c8 c9 c10))
      all_goals first
        | (go_ret; exact ⟨rfl, (((Fr.refl NoB w).alloc _).then f1).then f2⟩)
        | (go_ret; exact ⟨ret_bool (by first | omega | simp_all | (simp; omega)), (((Fr.refl NoB w).alloc _).then f1).then f2⟩)
        | (exfalso; omega)
        | (exfalso; simp_all; done)
        | trace_state
  have hnd : decide (NodeD ⟨z, k, s, t, x, m, path, data, ow, ve, cv, ti, er, (cver, ms)⟩ np) = !(path == [47]) := by
    rw [Bool.eq_iff_iff, decide_eq_true_eq]
    exact ⟨fun h => h.2.2.2.2.2.2.elim (fun x => absurd x hk3) (fun x => by simpa using x.2), fun h => ⟨hbare, hpchk, hdata, how, hcv, hve, .inr ⟨hk12, by simpa using h⟩⟩⟩
  rw [hnd]
  clear hnd hbare
  rcases hk12 with rfl | rfl
  · simp only [dval, dcells] at *
    clear hkk hk3
    by_cases hpq : path = [47]
    · subst hpq
      as_aux_lemma =>
        go_enter Tryz.func114, Tryz.ntmps114
        go_wp2_with (first
          | ((with_reducible refine (hcb _).mono ?_); rintro e w1 ⟨rfl, f1⟩; have hb := f1.at_ (heap_alloc_new w _) (fun x => x); have c1 := (cells_of hb 1).1; have c6 := (cells_of hb 6).1; have c7 := (cells_of hb 7).1; have c8 := (cells_of hb 8).1; have c9 := (cells_of hb 9).1; have c10 := (cells_of hb 10).1; clear hb; simp only [List.getElem?_toArray, List.getElem?_cons_zero, List.getElem?_cons_succ] at c1 c6 c7 c8 c9 c10)
          | ((with_reducible refine (hcc _ (((Fr.refl NoB w).alloc _).then f1)).mono ?_); rintro e w2 ⟨rfl, f2⟩; clear c1 c6 c7 c8 c9 c10; have hb := (f1.then f2).at_ (heap_alloc_new w _) (fun x => x); have c1 := (cells_of hb 1).1; have c6 := (cells_of hb 6).1; have c7 := (cells_of hb 7).1; have c8 := (cells_of hb 8).1; have c9 := (cells_of hb 9).1; have c10 := (cells_of hb 10).1; clear hb; simp only [List.getElem?_toArray, List.getElem?_cons_zero, List.getElem?_cons_succ] at c1 c6 c7 c8 c9 c10))
        all_goals first
          | (go_ret; exact ⟨rfl, (((Fr.refl NoB w).alloc _).then f1).then f2⟩)
          | (go_ret; exact ⟨ret_bool (by first | omega | simp_all | (simp; omega)), (((Fr.refl NoB w).alloc _).then f1).then f2⟩)
          | (exfalso; omega)
          | (exfalso; simp_all; done)
          | trace_state
    · have hqq : (path == [47]) = false := by simpa using hpq
      have hq2 : ((⟨path.toArray⟩ : ByteArray) == ⟨#[47]⟩) = false := by rw [show (⟨#[47]⟩ : ByteArray) = ⟨([47] : List UInt8).toArray⟩ from rfl, mk_eq]; exact hqq
      as_aux_lemma =>
        go_enter Tryz.func114, Tryz.ntmps114
        go_wp2_with (first
          | ((with_reducible refine (hcb _).mono ?_); rintro e w1 ⟨rfl, f1⟩; have hb := f1.at_ (heap_alloc_new w _) (fun x => x); have c1 := (cells_of hb 1).1; have c6 := (cells_of hb 6).1; have c7 := (cells_of hb 7).1; have c8 := (cells_of hb 8).1; have c9 := (cells_of hb 9).1; have c10 := (cells_of hb 10).1; clear hb; simp only [List.getElem?_toArray, List.getElem?_cons_zero, List.getElem?_cons_succ] at c1 c6 c7 c8 c9 c10)
          | ((with_reducible refine (hcc _ (((Fr.refl NoB w).alloc _).then f1)).mono ?_); rintro e w2 ⟨rfl, f2⟩; clear c1 c6 c7 c8 c9 c10; have hb := (f1.then f2).at_ (heap_alloc_new w _) (fun x => x); have c1 := (cells_of hb 1).1; have c6 := (cells_of hb 6).1; have c7 := (cells_of hb 7).1; have c8 := (cells_of hb 8).1; have c9 := (cells_of hb 9).1; have c10 := (cells_of hb 10).1; clear hb; simp only [List.getElem?_toArray, List.getElem?_cons_zero, List.getElem?_cons_succ] at c1 c6 c7 c8 c9 c10))
        all_goals first
          | (go_ret; exact ⟨rfl, (((Fr.refl NoB w).alloc _).then f1).then f2⟩)
          | (go_ret; exact ⟨ret_bool (by first | omega | simp_all | (simp; omega)), (((Fr.refl NoB w).alloc _).then f1).then f2⟩)
          | (exfalso; omega)
          | (exfalso; simp_all; done)
          | trace_state
  · simp only [dval, dcells] at *
    clear hkk hk3
    by_cases hpq : path = [47]
    · subst hpq
      as_aux_lemma =>
        go_enter Tryz.func114, Tryz.ntmps114
        go_wp2_with (first
          | ((with_reducible refine (hcb _).mono ?_); rintro e w1 ⟨rfl, f1⟩; have hb := f1.at_ (heap_alloc_new w _) (fun x => x); have c1 := (cells_of hb 1).1; have c6 := (cells_of hb 6).1; have c7 := (cells_of hb 7).1; have c8 := (cells_of hb 8).1; have c9 := (cells_of hb 9).1; have c10 := (cells_of hb 10).1; clear hb; simp only [List.getElem?_toArray, List.getElem?_cons_zero, List.getElem?_cons_succ] at c1 c6 c7 c8 c9 c10)
          | ((with_reducible refine (hcc _ (((Fr.refl NoB w).alloc _).then f1)).mono ?_); rintro e w2 ⟨rfl, f2⟩; clear c1 c6 c7 c8 c9 c10; have hb := (f1.then f2).at_ (heap_alloc_new w _) (fun x => x); have c1 := (cells_of hb 1).1; have c6 := (cells_of hb 6).1; have c7 := (cells_of hb 7).1; have c8 := (cells_of hb 8).1; have c9 := (cells_of hb 9).1; have c10 := (cells_of hb 10).1; clear hb; simp only [List.getElem?_toArray, List.getElem?_cons_zero, List.getElem?_cons_succ] at c1 c6 c7 c8 c9 c10))
        all_goals first
          | (go_ret; exact ⟨rfl, (((Fr.refl NoB w).alloc _).then f1).then f2⟩)
          | (go_ret; exact ⟨ret_bool (by first | omega | simp_all | (simp; omega)), (((Fr.refl NoB w).alloc _).then f1).then f2⟩)
          | (exfalso; omega)
          | (exfalso; simp_all; done)
          | trace_state
    · have hqq : (path == [47]) = false := by simpa using hpq
      have hq2 : ((⟨path.toArray⟩ : ByteArray) == ⟨#[47]⟩) = false := by rw [show (⟨#[47]⟩ : ByteArray) = ⟨([47] : List UInt8).toArray⟩ from rfl, mk_eq]; exact hqq
      as_aux_lemma =>
        go_enter Tryz.func114, Tryz.ntmps114
        go_wp2_with (first
          | ((with_reducible refine (hcb _).mono ?_); rintro e w1 ⟨rfl, f1⟩; have hb := f1.at_ (heap_alloc_new w _) (fun x => x); have c1 := (cells_of hb 1).1; have c6 := (cells_of hb 6).1; have c7 := (cells_of hb 7).1; have c8 := (cells_of hb 8).1; have c9 := (cells_of hb 9).1; have c10 := (cells_of hb 10).1; clear hb; simp only [List.getElem?_toArray, List.getElem?_cons_zero, List.getElem?_cons_succ] at c1 c6 c7 c8 c9 c10)
          | ((with_reducible refine (hcc _ (((Fr.refl NoB w).alloc _).then f1)).mono ?_); rintro e w2 ⟨rfl, f2⟩; clear c1 c6 c7 c8 c9 c10; have hb := (f1.then f2).at_ (heap_alloc_new w _) (fun x => x); have c1 := (cells_of hb 1).1; have c6 := (cells_of hb 6).1; have c7 := (cells_of hb 7).1; have c8 := (cells_of hb 8).1; have c9 := (cells_of hb 9).1; have c10 := (cells_of hb 10).1; clear hb; simp only [List.getElem?_toArray, List.getElem?_cons_zero, List.getElem?_cons_succ] at c1 c6 c7 c8 c9 c10))
        all_goals first
          | (go_ret; exact ⟨rfl, (((Fr.refl NoB w).alloc _).then f1).then f2⟩)
          | (go_ret; exact ⟨ret_bool (by first | omega | simp_all | (simp; omega)), (((Fr.refl NoB w).alloc _).then f1).then f2⟩)
          | (exfalso; omega)
          | (exfalso; simp_all; done)
          | trace_state
set_option maxHeartbeats 3200000 in
set_option maxRecDepth 8000 in
theorem rparts_calls (A : Option Addr) (l : List (Fd × Nat)) (c lo hi least most : Nat) (all : Bool) (w : World) (h : RdP w lo hi A l) (hh : hi ≤ w.heap.size) (hl : l.length ≤ 140737488355328) (hok : ∀ q ∈ l, q.1.Ok ∧ q.2 ≤ 140737488355328) (hH : Max w) (_hm : least ≤ 1000 ∧ most ≤ 1000) :
    Calls Tryz.prog 115 #[.slice A l.length c, .int .i64 least, .int .i64 most, .bool all] w fun e w' => e = .returned (.bool (decide (PartsR l least most all))) ∧ Fr NoB w w' := by
  by_cases hn : least ≤ l.length ∧ l.length ≤ most
  rotate_left
  · rw [decide_eq_false (fun h => hn ⟨h.1, h.2.1⟩)]
    by_cases h1 : l.length < least
    · as_aux_lemma =>
      have h1i : (l.length : Int) < (least : Int) := by omega
      go_enter Tryz.func115, Tryz.ntmps115
      go_wp2
      all_goals first
        | (go_ret; exact ⟨rfl, Fr.refl _ _⟩)
        | trace_state
    · as_aux_lemma =>
      have h1i : ¬ (l.length : Int) < (least : Int) := by omega
      have h2i : (most : Int) < (l.length : Int) := by omega
      go_enter Tryz.func115, Tryz.ntmps115
      go_wp2
      all_goals first
        | (go_ret; exact ⟨rfl, Fr.refl _ _⟩)
        | trace_state
  have h1i : ¬ (l.length : Int) < (least : Int) := by omega
  have h2i : ¬ (most : Int) < (l.length : Int) := by omega
  generalize hRR : decide (PartsR l least most all) = R
  have HRR := Lib.hid hRR
  clear hRR
  go_enter Tryz.func115, Tryz.ntmps115
  go_wp2
  have HR := Lib.hid h
  have HOK := Lib.hid hok
  have HH := Lib.hid hH
  clear h hok hH
  go_loopw [9] (fun i W => ∃ k : Nat, k ≤ l.length ∧ i = .int .i64 (k : Int) ∧ (∀ q ∈ l.take k, PartR all q) ∧ Fr NoB w W) (fun i _ => l.length - (intOf i).toNat)
  case atStart => exact ⟨0, Nat.zero_le _, rfl, by simp, Fr.refl _ _⟩
  case round =>
    obtain ⟨k, hk, rfl, hsofar, hf⟩ := hrel
    have F := Lib.hid hf
    have HS := Lib.hid hsofar
    clear hf hsofar
    by_cases hlt : k < l.length
    · have hki : (k : Int) < (l.length : Int) := by omega
      obtain ⟨b, o, rfl, hb1, hb2, h4⟩ := HR.out (by omega)
      obtain ⟨pl, hcs, -, -⟩ := h4 k l[k] (List.getElem?_eq_getElem hlt)
      have hq := HOK.out l[k] (List.getElem_mem hlt)
      clear h4
      have HQ : l[k]? = some l[k] := List.getElem?_eq_getElem hlt
      generalize l[k] = q at hcs hq HQ
      have HQ2 := Lib.hid HQ
      clear HQ
      obtain ⟨f, np⟩ := q
      have HC : ∀ j v, (dcells f pl np)[j]? = some v → wr.cell? ⟨b, o + k * 16 + j, none⟩ = some v := fun j v hv => (F.out.cell (p := ⟨b, o + k * 16 + j, none⟩) (by simp only; omega) (fun x => x)).trans (hcs j v hv)
      obtain ⟨z, kk, s, t, x, m, path, data, ow, ve, cv, ti, er, cver, ms⟩ := f
      obtain ⟨A, ca, B, cb, P, cp⟩ := pl
      have hL := Lib.hid (part_range HC)
      clear HC hcs
      have HN : Hid (¬ PartR all (⟨z, kk, s, t, x, m, path, data, ow, ve, cv, ti, er, (cver, ms)⟩, np) → R = false) := fun h => by
        rw [← HRR.out]
        exact decide_eq_false fun hp => h (hp.2.2 _ (List.mem_iff_getElem?.2 ⟨k, HQ2.out⟩))
      have HY : Hid (PartR all (⟨z, kk, s, t, x, m, path, data, ow, ve, cv, ti, er, (cver, ms)⟩, np) → ∀ q ∈ l.take (k + 1), PartR all q) := fun h q hq => by
        rw [List.take_add_one, HQ2.out] at hq
        rcases List.mem_append.1 hq with hq | hq
        · exact HS.out q hq
        · simp at hq
          rw [hq]
          exact h
      clear HS HRR hn _hm
      have hk8 := hq.1.k
      simp only at hk8
      by_cases h0 : z = 0 ∧ s = 0 ∧ t = 0 ∧ x = 0 ∧ m = 0
      rotate_left
      · as_aux_lemma =>
        have hR : R = false := HN.out fun h => h0 ⟨h.1, h.2.1, h.2.2.1, h.2.2.2.1, h.2.2.2.2.1⟩
        subst hR
        clear HN HY HQ2 hq HR
        go_wp2_with (first | (refine wpList_load_mid rfl 31 _ rfl b (o + k * 16) rfl _ _ hL.out Tryz.underlying31 rfl (size_deed _ _ _) ?_; simp only [dcells]) | (refine wpList_store_row rfl 31 _ _ rfl wr.heap.size _ rfl rfl _ _ (heap_alloc_last wr _) size16 rfl (by simp [Value.oneCell']) ?_; rw [World.setRow_alloc_new]))
        all_goals first
          | (go_ret; exact ⟨rfl, F.out.alloc _⟩)
          | (exfalso; omega)
      obtain ⟨rfl, rfl, rfl, rfl, rfl⟩ := h0
      have hcf := fun W (hW : Max W) => node_calls ⟨0, kk, 0, 0, 0, 0, path, data, ow, ve, cv, ti, er, (cver, ms)⟩ ⟨A, ca, B, cb, P, cp⟩ np W hq.1 hq.2 hW
      by_cases hfd : NodeD ⟨0, kk, 0, 0, 0, 0, path, data, ow, ve, cv, ti, er, (cver, ms)⟩ np
      rotate_left
      · as_aux_lemma =>
        have hR : R = false := HN.out fun h => hfd h.2.2.2.2.2.1
        subst hR
        rw [decide_eq_false hfd] at hcf
        simp only [dval, dcells] at hcf
        clear HN HY HQ2 hq HR hfd
        go_wp2_with (first | (refine wpList_load_mid rfl 31 _ rfl b (o + k * 16) rfl _ _ hL.out Tryz.underlying31 rfl (size_deed _ _ _) ?_; simp only [dcells]) | (refine wpList_store_row rfl 31 _ _ rfl wr.heap.size _ rfl rfl _ _ (heap_alloc_last wr _) size16 rfl (by simp [Value.oneCell']) ?_; rw [World.setRow_alloc_new]) | ((with_reducible refine (hcf _ (HH.out.fr (F.out.alloc _))).mono ?_); rintro e w2 ⟨rfl, f2⟩))
        all_goals first
          | (go_ret; exact ⟨rfl, (F.out.alloc _).then f2⟩)
          | trace_state
      rw [decide_eq_true hfd] at hcf
      simp only [dval, dcells] at hcf
      have HFD := Lib.hid hfd
      clear HQ2 hq HR hfd
      cases all with
      | false =>
        by_cases hkk : kk = 2
        · as_aux_lemma =>
          subst hkk
          go_wp2_with (first | (refine wpList_load_mid rfl 31 _ rfl b (o + k * 16) rfl _ _ hL.out Tryz.underlying31 rfl (size_deed _ _ _) ?_; simp only [dcells]) | (refine wpList_store_row rfl 31 _ _ rfl wr.heap.size _ rfl rfl _ _ (heap_alloc_last wr _) size16 rfl (by simp [Value.oneCell']) ?_; rw [World.setRow_alloc_new]) | ((with_reducible refine (hcf _ (HH.out.fr (F.out.alloc _))).mono ?_); rintro e w2 ⟨rfl, f2⟩; have c1 := (cells_of (f2.at_ (heap_alloc_new wr _) (fun x => x)) 1).1; simp only [List.getElem?_toArray, List.getElem?_cons_zero, List.getElem?_cons_succ] at c1))
          refine ⟨⟨k + 1, by omega, by go_num, HY.out ⟨rfl, rfl, rfl, rfl, rfl, HFD.out, .inr rfl⟩, (F.out.alloc _).then f2⟩, ?_⟩
          simp [intOf]
          omega
        · as_aux_lemma =>
          have hR : R = false := HN.out fun h => hkk (h.2.2.2.2.2.2.resolve_left (by decide))
          subst hR
          have hne : (kk != 2) = true := by simpa using hkk
          clear HN HY HFD
          go_wp2_with (first | (refine wpList_load_mid rfl 31 _ rfl b (o + k * 16) rfl _ _ hL.out Tryz.underlying31 rfl (size_deed _ _ _) ?_; simp only [dcells]) | (refine wpList_store_row rfl 31 _ _ rfl wr.heap.size _ rfl rfl _ _ (heap_alloc_last wr _) size16 rfl (by simp [Value.oneCell']) ?_; rw [World.setRow_alloc_new]) | ((with_reducible refine (hcf _ (HH.out.fr (F.out.alloc _))).mono ?_); rintro e w2 ⟨rfl, f2⟩; have c1 := (cells_of (f2.at_ (heap_alloc_new wr _) (fun x => x)) 1).1; simp only [List.getElem?_toArray, List.getElem?_cons_zero, List.getElem?_cons_succ] at c1))
          all_goals (go_ret; exact ⟨rfl, (F.out.alloc _).then f2⟩)
      | true =>
        as_aux_lemma =>
          go_wp2_with (first | (refine wpList_load_mid rfl 31 _ rfl b (o + k * 16) rfl _ _ hL.out Tryz.underlying31 rfl (size_deed _ _ _) ?_; simp only [dcells]) | (refine wpList_store_row rfl 31 _ _ rfl wr.heap.size _ rfl rfl _ _ (heap_alloc_last wr _) size16 rfl (by simp [Value.oneCell']) ?_; rw [World.setRow_alloc_new]) | ((with_reducible refine (hcf _ (HH.out.fr (F.out.alloc _))).mono ?_); rintro e w2 ⟨rfl, f2⟩; have c1 := (cells_of (f2.at_ (heap_alloc_new wr _) (fun x => x)) 1).1; simp only [List.getElem?_toArray, List.getElem?_cons_zero, List.getElem?_cons_succ] at c1))
          refine ⟨⟨k + 1, by omega, by go_num, HY.out ⟨rfl, rfl, rfl, rfl, rfl, HFD.out, .inl rfl⟩, (F.out.alloc _).then f2⟩, ?_⟩
          simp [intOf]
          omega
    · as_aux_lemma =>
      obtain rfl : k = l.length := by omega
      have hall : PartsR l least most all := ⟨hn.1, hn.2, by have := HS.out; rwa [List.take_length] at this⟩
      have hR := HRR.out
      rw [decide_eq_true hall] at hR
      subst hR
      go_wp2
      go_ret
      exact ⟨rfl, F.out⟩
end Go.Proofs.YtmlmbahimklfiaaGreatDoor
