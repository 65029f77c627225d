/-
  Dfa: fits at kinds 1 to 3.
-/
import Derived.Test.YtmlmbahimklfiaaGreatDoorDeb
namespace Go.Proofs.YtmlmbahimklfiaaGreatDoor
open Go.RowKit

set_option maxHeartbeats 3200000 in
set_option maxRecDepth 8000 in
theorem fits1_calls (f : Fd) (p : Pl) (np : Nat) (w : World) (hf : f.Ok) (hn : np ≤ 140737488355328) (hH : Has w) (hk : f.k = 1) :
    Calls Tryz.prog 103 #[dval f p np] w fun e w' => e = .returned (.bool (decide (FitsD f np))) ∧ Fr NoB w w' := by
  obtain ⟨z, k, s, t, x, m, path, data, ow, ve, cv, ti, er, cver, ms⟩ := f
  obtain ⟨A, c, B, d, P, e'⟩ := p
  simp only at hk
  subst hk
  have hpa := hf.path
  have hda := hf.data
  have hms := hf.ms
  clear hf
  simp only at *
  have hcell : (w.alloc (.cells (dcells ⟨z, 1, s, t, x, m, path, data, ow, ve, cv, ti, er, (cver, ms)⟩ ⟨A, c, B, d, P, e'⟩ np) 31)).cell? ⟨0, 1, none⟩ = some (.int .i64 23) := hH.box _ _ _ 1 (by decide)
  have b1 : bits .and .i64 23 1 = 1 := by decide
  have b2 : bits .and .i64 23 2 = 2 := by decide
  have b4 : bits .and .i64 23 4 = 4 := by decide
  have b8 : bits .and .i64 23 8 = 0 := by decide
  have b16 : bits .and .i64 23 16 = 16 := by decide
  have b32 : bits .and .i64 23 32 = 0 := by decide
  have b64 : bits .and .i64 23 64 = 0 := by decide
  have b128 : bits .and .i64 23 128 = 0 := by decide
  have b256 : bits .and .i64 23 256 = 0 := by decide
  simp only [dval, dcells] at *
  clear hH
  have hck := fun W => pcheck_calls path W (by omega)
  by_cases hfit : FitsD ⟨z, 1, s, t, x, m, path, data, ow, ve, cv, ti, er, (cver, ms)⟩ np
  · rw [decide_eq_true hfit]
    obtain ⟨-, rfl, rfl, rfl, rfl, ⟨rfl, rfl⟩, hp, hd, ho, hc, hq⟩ := hfit.of1 rfl
    simp only at hp
    rw [hp] at hck
    have hqq : (path == [47]) = false := by simpa using hq
    have hdi : (data.length : Int) ≤ 1000 := by simp only at hd; omega
    simp only [List.length_nil] at *
    clear hfit
    go_enter Tryz.func103, Tryz.ntmps103
    go_wp2_with (refine (hck _).mono ?_; rintro e w1 ⟨rfl, f1⟩; have hb := f1.at_ (heap_alloc_new w _) (fun x => x); have c1 := (cells_of hb 1).1; have c6 := (cells_of hb 6).1; have c7 := (cells_of hb 7).1; have c8 := (cells_of hb 8).1; have c9 := (cells_of hb 9).1; have c10 := (cells_of hb 10).1; clear hb; simp only [List.getElem?_toArray, List.getElem?_cons_zero, List.getElem?_cons_succ] at c1 c6 c7 c8 c9 c10)
    all_goals first
      | (go_ret; exact ⟨rfl, ((Fr.refl NoB w).alloc _).then f1⟩)
      | (exfalso; (try simp at *); omega)
      | trace_state
  · rw [decide_eq_false hfit]
    cases hp : pchk path
    · rw [hp] at hck
      clear hfit
      go_enter Tryz.func103, Tryz.ntmps103
      go_wp2_with (refine (hck _).mono ?_; rintro e w1 ⟨rfl, f1⟩; have hb := f1.at_ (heap_alloc_new w _) (fun x => x); have c1 := (cells_of hb 1).1; have c6 := (cells_of hb 6).1; have c7 := (cells_of hb 7).1; have c8 := (cells_of hb 8).1; have c9 := (cells_of hb 9).1; have c10 := (cells_of hb 10).1; clear hb; simp only [List.getElem?_toArray, List.getElem?_cons_zero, List.getElem?_cons_succ] at c1 c6 c7 c8 c9 c10)
      all_goals first
        | (go_ret; exact ⟨rfl, (Fr.refl NoB w).alloc _⟩)
        | (go_ret; exact ⟨rfl, ((Fr.refl NoB w).alloc _).then f1⟩)
        | trace_state
    · rw [hp] at hck
      go_enter Tryz.func103, Tryz.ntmps103
      go_wp2_with (refine (hck _).mono ?_; rintro e w1 ⟨rfl, f1⟩; have hb := f1.at_ (heap_alloc_new w _) (fun x => x); have c1 := (cells_of hb 1).1; have c6 := (cells_of hb 6).1; have c7 := (cells_of hb 7).1; have c8 := (cells_of hb 8).1; have c9 := (cells_of hb 9).1; have c10 := (cells_of hb 10).1; clear hb; simp only [List.getElem?_toArray, List.getElem?_cons_zero, List.getElem?_cons_succ] at c1 c6 c7 c8 c9 c10)
      all_goals first
        | (go_ret; exact ⟨rfl, (Fr.refl NoB w).alloc _⟩)
        | (go_ret; exact ⟨rfl, ((Fr.refl NoB w).alloc _).then f1⟩)
        | (go_ret; exact ⟨ret_bool (nf1 hfit (by assumption) (by assumption) (by assumption) (by assumption) (by assumption) (by assumption) (by assumption) (by assumption) (by assumption) (by assumption) ), ((Fr.refl NoB w).alloc _).then f1⟩)
        | trace_state
set_option maxHeartbeats 3200000 in
set_option maxRecDepth 8000 in
theorem fits2_calls (f : Fd) (p : Pl) (np : Nat) (w : World) (hf : f.Ok) (hn : np ≤ 140737488355328) (hH : Has w) (hk : f.k = 2) :
    Calls Tryz.prog 103 #[dval f p np] w fun e w' => e = .returned (.bool (decide (FitsD f np))) ∧ Fr NoB w w' := by
  obtain ⟨z, k, s, t, x, m, path, data, ow, ve, cv, ti, er, cver, ms⟩ := f
  obtain ⟨A, c, B, d, P, e'⟩ := p
  simp only at hk
  subst hk
  have hpa := hf.path
  have hda := hf.data
  have hms := hf.ms
  clear hf
  simp only at *
  have hcell : (w.alloc (.cells (dcells ⟨z, 2, s, t, x, m, path, data, ow, ve, cv, ti, er, (cver, ms)⟩ ⟨A, c, B, d, P, e'⟩ np) 31)).cell? ⟨0, 2, none⟩ = some (.int .i64 17) := hH.box _ _ _ 2 (by decide)
  have b1 : bits .and .i64 17 1 = 1 := by decide
  have b2 : bits .and .i64 17 2 = 0 := by decide
  have b4 : bits .and .i64 17 4 = 0 := by decide
  have b8 : bits .and .i64 17 8 = 0 := by decide
  have b16 : bits .and .i64 17 16 = 16 := by decide
  have b32 : bits .and .i64 17 32 = 0 := by decide
  have b64 : bits .and .i64 17 64 = 0 := by decide
  have b128 : bits .and .i64 17 128 = 0 := by decide
  have b256 : bits .and .i64 17 256 = 0 := by decide
  simp only [dval, dcells] at *
  clear hH
  have hck := fun W => pcheck_calls path W (by omega)
  by_cases hfit : FitsD ⟨z, 2, s, t, x, m, path, data, ow, ve, cv, ti, er, (cver, ms)⟩ np
  · rw [decide_eq_true hfit]
    obtain ⟨-, rfl, rfl, rfl, rfl, rfl, rfl, ⟨rfl, rfl⟩, hp, hc, hq⟩ := hfit.of2 rfl
    simp only at hp
    rw [hp] at hck
    have hqq : (path == [47]) = false := by simpa using hq
    simp only [List.length_nil] at *
    clear hfit
    go_enter Tryz.func103, Tryz.ntmps103
    go_wp2_with (refine (hck _).mono ?_; rintro e w1 ⟨rfl, f1⟩; have hb := f1.at_ (heap_alloc_new w _) (fun x => x); have c1 := (cells_of hb 1).1; have c6 := (cells_of hb 6).1; have c7 := (cells_of hb 7).1; have c8 := (cells_of hb 8).1; have c9 := (cells_of hb 9).1; have c10 := (cells_of hb 10).1; clear hb; simp only [List.getElem?_toArray, List.getElem?_cons_zero, List.getElem?_cons_succ] at c1 c6 c7 c8 c9 c10)
    all_goals first
      | (go_ret; exact ⟨rfl, ((Fr.refl NoB w).alloc _).then f1⟩)
      | (exfalso; (try simp at *); omega)
      | trace_state
  · rw [decide_eq_false hfit]
    cases hp : pchk path
    · rw [hp] at hck
      clear hfit
      go_enter Tryz.func103, Tryz.ntmps103
      go_wp2_with (refine (hck _).mono ?_; rintro e w1 ⟨rfl, f1⟩; have hb := f1.at_ (heap_alloc_new w _) (fun x => x); have c1 := (cells_of hb 1).1; have c6 := (cells_of hb 6).1; have c7 := (cells_of hb 7).1; have c8 := (cells_of hb 8).1; have c9 := (cells_of hb 9).1; have c10 := (cells_of hb 10).1; clear hb; simp only [List.getElem?_toArray, List.getElem?_cons_zero, List.getElem?_cons_succ] at c1 c6 c7 c8 c9 c10)
      all_goals first
        | (go_ret; exact ⟨rfl, (Fr.refl NoB w).alloc _⟩)
        | (go_ret; exact ⟨rfl, ((Fr.refl NoB w).alloc _).then f1⟩)
        | trace_state
    · rw [hp] at hck
      go_enter Tryz.func103, Tryz.ntmps103
      go_wp2_with (refine (hck _).mono ?_; rintro e w1 ⟨rfl, f1⟩; have hb := f1.at_ (heap_alloc_new w _) (fun x => x); have c1 := (cells_of hb 1).1; have c6 := (cells_of hb 6).1; have c7 := (cells_of hb 7).1; have c8 := (cells_of hb 8).1; have c9 := (cells_of hb 9).1; have c10 := (cells_of hb 10).1; clear hb; simp only [List.getElem?_toArray, List.getElem?_cons_zero, List.getElem?_cons_succ] at c1 c6 c7 c8 c9 c10)
      all_goals first
        | (go_ret; exact ⟨rfl, (Fr.refl NoB w).alloc _⟩)
        | (go_ret; exact ⟨rfl, ((Fr.refl NoB w).alloc _).then f1⟩)
        | (go_ret; exact ⟨ret_bool (nf2 hfit (by assumption) (by assumption) (by assumption) (by assumption) (by assumption) (by assumption) (by assumption) (by assumption) (by assumption) (by assumption) ), ((Fr.refl NoB w).alloc _).then f1⟩)
        | trace_state
set_option maxHeartbeats 3200000 in
set_option maxRecDepth 8000 in
theorem fits3_calls (f : Fd) (p : Pl) (np : Nat) (w : World) (hf : f.Ok) (hn : np ≤ 140737488355328) (hH : Has w) (hk : f.k = 3) :
    Calls Tryz.prog 103 #[dval f p np] w fun e w' => e = .returned (.bool (decide (FitsD f np))) ∧ Fr NoB w w' := by
  obtain ⟨z, k, s, t, x, m, path, data, ow, ve, cv, ti, er, cver, ms⟩ := f
  obtain ⟨A, c, B, d, P, e'⟩ := p
  simp only at hk
  subst hk
  have hpa := hf.path
  have hda := hf.data
  have hms := hf.ms
  clear hf
  simp only at *
  have hcell : (w.alloc (.cells (dcells ⟨z, 3, s, t, x, m, path, data, ow, ve, cv, ti, er, (cver, ms)⟩ ⟨A, c, B, d, P, e'⟩ np) 31)).cell? ⟨0, 3, none⟩ = some (.int .i64 11) := hH.box _ _ _ 3 (by decide)
  have b1 : bits .and .i64 11 1 = 1 := by decide
  have b2 : bits .and .i64 11 2 = 2 := by decide
  have b4 : bits .and .i64 11 4 = 0 := by decide
  have b8 : bits .and .i64 11 8 = 8 := by decide
  have b16 : bits .and .i64 11 16 = 0 := by decide
  have b32 : bits .and .i64 11 32 = 0 := by decide
  have b64 : bits .and .i64 11 64 = 0 := by decide
  have b128 : bits .and .i64 11 128 = 0 := by decide
  have b256 : bits .and .i64 11 256 = 0 := by decide
  simp only [dval, dcells] at *
  clear hH
  have hck := fun W => pcheck_calls path W (by omega)
  by_cases hfit : FitsD ⟨z, 3, s, t, x, m, path, data, ow, ve, cv, ti, er, (cver, ms)⟩ np
  · rw [decide_eq_true hfit]
    obtain ⟨-, rfl, rfl, rfl, rfl, rfl, ⟨rfl, rfl⟩, hp, hd, ho⟩ := hfit.of3 rfl
    simp only at hp
    rw [hp] at hck
    have hdi : (data.length : Int) ≤ 1000 := by simp only at hd; omega
    simp only [List.length_nil] at *
    clear hfit
    go_enter Tryz.func103, Tryz.ntmps103
    go_wp2_with (refine (hck _).mono ?_; rintro e w1 ⟨rfl, f1⟩; have hb := f1.at_ (heap_alloc_new w _) (fun x => x); have c1 := (cells_of hb 1).1; have c6 := (cells_of hb 6).1; have c7 := (cells_of hb 7).1; have c8 := (cells_of hb 8).1; have c9 := (cells_of hb 9).1; have c10 := (cells_of hb 10).1; clear hb; simp only [List.getElem?_toArray, List.getElem?_cons_zero, List.getElem?_cons_succ] at c1 c6 c7 c8 c9 c10)
    all_goals first
      | (go_ret; exact ⟨rfl, ((Fr.refl NoB w).alloc _).then f1⟩)
      | (exfalso; (try simp at *); omega)
      | trace_state
  · rw [decide_eq_false hfit]
    cases hp : pchk path
    · rw [hp] at hck
      clear hfit
      go_enter Tryz.func103, Tryz.ntmps103
      go_wp2_with (refine (hck _).mono ?_; rintro e w1 ⟨rfl, f1⟩; have hb := f1.at_ (heap_alloc_new w _) (fun x => x); have c1 := (cells_of hb 1).1; have c6 := (cells_of hb 6).1; have c7 := (cells_of hb 7).1; have c8 := (cells_of hb 8).1; have c9 := (cells_of hb 9).1; have c10 := (cells_of hb 10).1; clear hb; simp only [List.getElem?_toArray, List.getElem?_cons_zero, List.getElem?_cons_succ] at c1 c6 c7 c8 c9 c10)
      all_goals first
        | (go_ret; exact ⟨rfl, (Fr.refl NoB w).alloc _⟩)
        | (go_ret; exact ⟨rfl, ((Fr.refl NoB w).alloc _).then f1⟩)
        | trace_state
    · rw [hp] at hck
      go_enter Tryz.func103, Tryz.ntmps103
      go_wp2_with (refine (hck _).mono ?_; rintro e w1 ⟨rfl, f1⟩; have hb := f1.at_ (heap_alloc_new w _) (fun x => x); have c1 := (cells_of hb 1).1; have c6 := (cells_of hb 6).1; have c7 := (cells_of hb 7).1; have c8 := (cells_of hb 8).1; have c9 := (cells_of hb 9).1; have c10 := (cells_of hb 10).1; clear hb; simp only [List.getElem?_toArray, List.getElem?_cons_zero, List.getElem?_cons_succ] at c1 c6 c7 c8 c9 c10)
      all_goals first
        | (go_ret; exact ⟨rfl, (Fr.refl NoB w).alloc _⟩)
        | (go_ret; exact ⟨rfl, ((Fr.refl NoB w).alloc _).then f1⟩)
        | (go_ret; exact ⟨ret_bool (nf3 hfit (by assumption) (by assumption) (by assumption) (by assumption) (by assumption) (by assumption) (by assumption) (by assumption) (by assumption) (by assumption) ), ((Fr.refl NoB w).alloc _).then f1⟩)
        | trace_state
end Go.Proofs.YtmlmbahimklfiaaGreatDoor
