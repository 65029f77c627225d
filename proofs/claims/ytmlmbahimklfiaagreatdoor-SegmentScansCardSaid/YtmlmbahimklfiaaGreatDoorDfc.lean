/-
  Dfc: Dfb, Dfc.
-/
import Derived.Test.YtmlmbahimklfiaaGreatDoorDeb
/- Dfb -/
namespace Go.Proofs.YtmlmbahimklfiaaGreatDoor
open Go.RowKit

set_option maxHeartbeats 3200000 in
set_option maxRecDepth 8000 in
theorem fits4_calls (f : Fd) (p : Pl) (np : Nat) (w : World) (hf : f.Ok) (hn : np ≤ 140737488355328) (hH : Has w) (hk : f.k = 4) :
    Calls Tryz.prog 103 #[dval f p np] w fun e w' => e = .returned (.bool (decide (FitsD f np))) ∧ Fr NoB w w' := by
  obtain ⟨z, k, s, t, x, m, path, data, ow, ve, cv, ti, er, cver, ms⟩ := f
  obtain ⟨A, c, B, d, P, e'⟩ := p
  simp only at hk
  subst hk
  have hpa := hf.path
  have hda := hf.data
  have hms := hf.ms
  clear hf
  simp only at *
  have hcell : (w.alloc (.cells (dcells ⟨z, 4, s, t, x, m, path, data, ow, ve, cv, ti, er, (cver, ms)⟩ ⟨A, c, B, d, P, e'⟩ np) 31)).cell? ⟨0, 4, none⟩ = some (.int .i64 32) := hH.box _ _ _ 4 (by decide)
  have b1 : bits .and .i64 32 1 = 0 := by decide
  have b2 : bits .and .i64 32 2 = 0 := by decide
  have b4 : bits .and .i64 32 4 = 0 := by decide
  have b8 : bits .and .i64 32 8 = 0 := by decide
  have b16 : bits .and .i64 32 16 = 0 := by decide
  have b32 : bits .and .i64 32 32 = 32 := by decide
  have b64 : bits .and .i64 32 64 = 0 := by decide
  have b128 : bits .and .i64 32 128 = 0 := by decide
  have b256 : bits .and .i64 32 256 = 0 := by decide
  simp only [dval, dcells] at *
  clear hH
  by_cases hfit : FitsD ⟨z, 4, s, t, x, m, path, data, ow, ve, cv, ti, er, (cver, ms)⟩ np
  · rw [decide_eq_true hfit]
    obtain ⟨-, rfl, rfl, rfl, rfl, rfl, rfl, rfl, ⟨rfl, rfl⟩, h1, h2⟩ := hfit.of4 rfl
    simp only [List.length_nil] at *
    clear hfit
    go_enter Tryz.func103, Tryz.ntmps103
    go_wp2
    all_goals first
      | (go_ret; exact ⟨rfl, (Fr.refl NoB w).alloc _⟩)
      | (exfalso; (try simp at *); omega)
      | trace_state
  · rw [decide_eq_false hfit]
    go_enter Tryz.func103, Tryz.ntmps103
    go_wp2
    all_goals first
      | (go_ret; exact ⟨rfl, (Fr.refl NoB w).alloc _⟩)
      | (go_ret; exact ⟨ret_bool (nf4 hfit (by assumption) (by assumption) (by assumption) (by assumption) (by assumption) (by assumption) (by assumption) (by assumption) (by assumption) (by assumption) ), (Fr.refl NoB w).alloc _⟩)
      | (exact absurd ‹(!path.isEmpty) = true› (by rw [‹(!path.isEmpty) = false›]; decide))
      | trace_state
set_option maxHeartbeats 3200000 in
set_option maxRecDepth 8000 in
theorem fits5_calls (f : Fd) (p : Pl) (np : Nat) (w : World) (hf : f.Ok) (_hn : np ≤ 140737488355328) (hH : Has w) (hk : f.k = 5) :
    Calls Tryz.prog 103 #[dval f p np] w fun e w' => e = .returned (.bool (decide (FitsD f np))) ∧ Fr NoB w w' := by
  obtain ⟨z, k, s, t, x, m, path, data, ow, ve, cv, ti, er, cver, ms⟩ := f
  obtain ⟨A, c, B, d, P, e'⟩ := p
  simp only at hk
  subst hk
  have hpa := hf.path
  have hda := hf.data
  have hms := hf.ms
  clear hf
  simp only at *
  have hcell : (w.alloc (.cells (dcells ⟨z, 5, s, t, x, m, path, data, ow, ve, cv, ti, er, (cver, ms)⟩ ⟨A, c, B, d, P, e'⟩ np) 31)).cell? ⟨0, 5, none⟩ = some (.int .i64 260) := hH.box _ _ _ 5 (by decide)
  have b1 : bits .and .i64 260 1 = 0 := by decide
  have b2 : bits .and .i64 260 2 = 0 := by decide
  have b4 : bits .and .i64 260 4 = 4 := by decide
  have b8 : bits .and .i64 260 8 = 0 := by decide
  have b16 : bits .and .i64 260 16 = 0 := by decide
  have b32 : bits .and .i64 260 32 = 0 := by decide
  have b64 : bits .and .i64 260 64 = 0 := by decide
  have b128 : bits .and .i64 260 128 = 0 := by decide
  have b256 : bits .and .i64 260 256 = 256 := by decide
  simp only [dval, dcells] at *
  clear hH
  by_cases hfit : FitsD ⟨z, 5, s, t, x, m, path, data, ow, ve, cv, ti, er, (cver, ms)⟩ np
  · rw [decide_eq_true hfit]
    obtain ⟨-, rfl, rfl, rfl, rfl, rfl, rfl, ⟨rfl, rfl⟩, h1⟩ := hfit.of5 rfl
    simp only [List.length_nil] at *
    clear hfit
    go_enter Tryz.func103, Tryz.ntmps103
    go_wp2
    all_goals first
      | (go_ret; exact ⟨rfl, (Fr.refl NoB w).alloc _⟩)
      | (exfalso; (try simp at *); omega)
      | trace_state
  · rw [decide_eq_false hfit]
    go_enter Tryz.func103, Tryz.ntmps103
    go_wp2
    all_goals first
      | (go_ret; exact ⟨rfl, (Fr.refl NoB w).alloc _⟩)
      | (go_ret; exact ⟨ret_bool (nf5 hfit (by assumption) (by assumption) (by assumption) (by assumption) (by assumption) (by assumption) (by assumption) (by assumption) ), (Fr.refl NoB w).alloc _⟩)
      | (exact absurd ‹(!path.isEmpty) = true› (by rw [‹(!path.isEmpty) = false›]; decide))
      | trace_state
set_option maxHeartbeats 3200000 in
set_option maxRecDepth 8000 in
theorem fits6_calls (f : Fd) (p : Pl) (np : Nat) (w : World) (hf : f.Ok) (hn : np ≤ 140737488355328) (hH : Has w) (hk : f.k = 6) :
    Calls Tryz.prog 103 #[dval f p np] w fun e w' => e = .returned (.bool (decide (FitsD f np))) ∧ Fr NoB w w' := by
  obtain ⟨z, k, s, t, x, m, path, data, ow, ve, cv, ti, er, cver, ms⟩ := f
  obtain ⟨A, c, B, d, P, e'⟩ := p
  simp only at hk
  subst hk
  have hpa := hf.path
  have hda := hf.data
  have hms := hf.ms
  clear hf
  simp only at *
  have hcell : (w.alloc (.cells (dcells ⟨z, 6, s, t, x, m, path, data, ow, ve, cv, ti, er, (cver, ms)⟩ ⟨A, c, B, d, P, e'⟩ np) 31)).cell? ⟨0, 6, none⟩ = some (.int .i64 0) := hH.box _ _ _ 6 (by decide)
  have b1 : bits .and .i64 0 1 = 0 := by decide
  have b2 : bits .and .i64 0 2 = 0 := by decide
  have b4 : bits .and .i64 0 4 = 0 := by decide
  have b8 : bits .and .i64 0 8 = 0 := by decide
  have b16 : bits .and .i64 0 16 = 0 := by decide
  have b32 : bits .and .i64 0 32 = 0 := by decide
  have b64 : bits .and .i64 0 64 = 0 := by decide
  have b128 : bits .and .i64 0 128 = 0 := by decide
  have b256 : bits .and .i64 0 256 = 0 := by decide
  simp only [dval, dcells] at *
  clear hH
  by_cases hfit : FitsD ⟨z, 6, s, t, x, m, path, data, ow, ve, cv, ti, er, (cver, ms)⟩ np
  · rw [decide_eq_true hfit]
    obtain ⟨-, rfl, rfl, rfl, rfl, rfl, rfl, rfl, rfl, ⟨rfl, rfl⟩⟩ := hfit.of6 rfl
    simp only [List.length_nil] at *
    clear hfit
    go_enter Tryz.func103, Tryz.ntmps103
    go_wp2
    all_goals first
      | (go_ret; exact ⟨rfl, (Fr.refl NoB w).alloc _⟩)
      | (exfalso; (try simp at *); omega)
      | trace_state
  · rw [decide_eq_false hfit]
    go_enter Tryz.func103, Tryz.ntmps103
    go_wp2
    all_goals first
      | (go_ret; exact ⟨rfl, (Fr.refl NoB w).alloc _⟩)
      | (go_ret; exact ⟨ret_bool (nf6 hfit (by assumption) (by assumption) (by assumption) (by assumption) (by assumption) (by assumption) (by assumption) (by assumption) (by assumption) (by assumption) ), (Fr.refl NoB w).alloc _⟩)
      | (exact absurd ‹(!path.isEmpty) = true› (by rw [‹(!path.isEmpty) = false›]; decide))
      | trace_state
end Go.Proofs.YtmlmbahimklfiaaGreatDoor

/- Dfc -/
namespace Go.Proofs.YtmlmbahimklfiaaGreatDoor
open Go.RowKit

set_option maxHeartbeats 3200000 in
set_option maxRecDepth 8000 in
theorem fits7_calls (f : Fd) (p : Pl) (np : Nat) (w : World) (hf : f.Ok) (hn : np ≤ 140737488355328) (hH : Has w) (hk : f.k = 7) :
    Calls Tryz.prog 103 #[dval f p np] w fun e w' => e = .returned (.bool (decide (FitsD f np))) ∧ Fr NoB w w' := by
  obtain ⟨z, k, s, t, x, m, path, data, ow, ve, cv, ti, er, cver, ms⟩ := f
  obtain ⟨A, c, B, d, P, e'⟩ := p
  simp only at hk
  subst hk
  have hpa := hf.path
  have hda := hf.data
  have hms := hf.ms
  clear hf
  simp only at *
  have hcell : (w.alloc (.cells (dcells ⟨z, 7, s, t, x, m, path, data, ow, ve, cv, ti, er, (cver, ms)⟩ ⟨A, c, B, d, P, e'⟩ np) 31)).cell? ⟨0, 7, none⟩ = some (.int .i64 128) := hH.box _ _ _ 7 (by decide)
  have b1 : bits .and .i64 128 1 = 0 := by decide
  have b2 : bits .and .i64 128 2 = 0 := by decide
  have b4 : bits .and .i64 128 4 = 0 := by decide
  have b8 : bits .and .i64 128 8 = 0 := by decide
  have b16 : bits .and .i64 128 16 = 0 := by decide
  have b32 : bits .and .i64 128 32 = 0 := by decide
  have b64 : bits .and .i64 128 64 = 0 := by decide
  have b128 : bits .and .i64 128 128 = 128 := by decide
  have b256 : bits .and .i64 128 256 = 0 := by decide
  simp only [dval, dcells] at *
  clear hH
  by_cases hfit : FitsD ⟨z, 7, s, t, x, m, path, data, ow, ve, cv, ti, er, (cver, ms)⟩ np
  · rw [decide_eq_true hfit]
    obtain ⟨-, rfl, rfl, rfl, rfl, rfl, rfl, rfl, rfl⟩ := hfit.of7 rfl
    simp only [List.length_nil] at *
    clear hfit
    go_enter Tryz.func103, Tryz.ntmps103
    go_wp2
    all_goals first
      | (go_ret; exact ⟨rfl, (Fr.refl NoB w).alloc _⟩)
      | (exfalso; (try simp at *); omega)
      | trace_state
  · rw [decide_eq_false hfit]
    go_enter Tryz.func103, Tryz.ntmps103
    go_wp2
    all_goals first
      | (go_ret; exact ⟨rfl, (Fr.refl NoB w).alloc _⟩)
      | (go_ret; exact ⟨ret_bool (nf7 hfit (by assumption) (by assumption) (by assumption) (by assumption) (by assumption) (by assumption) (by assumption) (by assumption) ), (Fr.refl NoB w).alloc _⟩)
      | (exact absurd ‹(!path.isEmpty) = true› (by rw [‹(!path.isEmpty) = false›]; decide))
      | trace_state
set_option maxHeartbeats 3200000 in
set_option maxRecDepth 8000 in
theorem fits8_calls (f : Fd) (p : Pl) (np : Nat) (w : World) (hf : f.Ok) (_hn : np ≤ 140737488355328) (hH : Has w) (hk : f.k = 8) :
    Calls Tryz.prog 103 #[dval f p np] w fun e w' => e = .returned (.bool (decide (FitsD f np))) ∧ Fr NoB w w' := by
  obtain ⟨z, k, s, t, x, m, path, data, ow, ve, cv, ti, er, cver, ms⟩ := f
  obtain ⟨A, c, B, d, P, e'⟩ := p
  simp only at hk
  subst hk
  have hpa := hf.path
  have hda := hf.data
  have hms := hf.ms
  clear hf
  simp only at *
  have hcell : (w.alloc (.cells (dcells ⟨z, 8, s, t, x, m, path, data, ow, ve, cv, ti, er, (cver, ms)⟩ ⟨A, c, B, d, P, e'⟩ np) 31)).cell? ⟨0, 8, none⟩ = some (.int .i64 256) := hH.box _ _ _ 8 (by decide)
  have b1 : bits .and .i64 256 1 = 0 := by decide
  have b2 : bits .and .i64 256 2 = 0 := by decide
  have b4 : bits .and .i64 256 4 = 0 := by decide
  have b8 : bits .and .i64 256 8 = 0 := by decide
  have b16 : bits .and .i64 256 16 = 0 := by decide
  have b32 : bits .and .i64 256 32 = 0 := by decide
  have b64 : bits .and .i64 256 64 = 0 := by decide
  have b128 : bits .and .i64 256 128 = 0 := by decide
  have b256 : bits .and .i64 256 256 = 256 := by decide
  simp only [dval, dcells] at *
  clear hH
  by_cases hfit : FitsD ⟨z, 8, s, t, x, m, path, data, ow, ve, cv, ti, er, (cver, ms)⟩ np
  · rw [decide_eq_true hfit]
    obtain ⟨-, rfl, rfl, rfl, rfl, rfl, rfl, rfl, ⟨rfl, rfl⟩⟩ := hfit.of8 rfl
    simp only [List.length_nil] at *
    clear hfit
    go_enter Tryz.func103, Tryz.ntmps103
    go_wp2
    all_goals first
      | (go_ret; exact ⟨rfl, (Fr.refl NoB w).alloc _⟩)
      | (exfalso; (try simp at *); omega)
      | trace_state
  · rw [decide_eq_false hfit]
    go_enter Tryz.func103, Tryz.ntmps103
    go_wp2
    all_goals first
      | (go_ret; exact ⟨rfl, (Fr.refl NoB w).alloc _⟩)
      | (go_ret; exact ⟨ret_bool (nf8 hfit (by assumption) (by assumption) (by assumption) (by assumption) (by assumption) (by assumption) (by assumption) (by assumption) (by assumption) ), (Fr.refl NoB w).alloc _⟩)
      | (exact absurd ‹(!path.isEmpty) = true› (by rw [‹(!path.isEmpty) = false›]; decide))
      | trace_state
set_option maxHeartbeats 3200000 in
set_option maxRecDepth 8000 in
theorem fits9_calls (f : Fd) (p : Pl) (np : Nat) (w : World) (hf : f.Ok) (hn : np ≤ 140737488355328) (hH : Has w) (hk : f.k = 9) :
    Calls Tryz.prog 103 #[dval f p np] w fun e w' => e = .returned (.bool (decide (FitsD f np))) ∧ Fr NoB w w' := by
  obtain ⟨z, k, s, t, x, m, path, data, ow, ve, cv, ti, er, cver, ms⟩ := f
  obtain ⟨A, c, B, d, P, e'⟩ := p
  simp only at hk
  subst hk
  have hpa := hf.path
  have hda := hf.data
  have hms := hf.ms
  clear hf
  simp only at *
  have hcell : (w.alloc (.cells (dcells ⟨z, 9, s, t, x, m, path, data, ow, ve, cv, ti, er, (cver, ms)⟩ ⟨A, c, B, d, P, e'⟩ np) 31)).cell? ⟨0, 9, none⟩ = some (.int .i64 64) := hH.box _ _ _ 9 (by decide)
  have b1 : bits .and .i64 64 1 = 0 := by decide
  have b2 : bits .and .i64 64 2 = 0 := by decide
  have b4 : bits .and .i64 64 4 = 0 := by decide
  have b8 : bits .and .i64 64 8 = 0 := by decide
  have b16 : bits .and .i64 64 16 = 0 := by decide
  have b32 : bits .and .i64 64 32 = 0 := by decide
  have b64 : bits .and .i64 64 64 = 64 := by decide
  have b128 : bits .and .i64 64 128 = 0 := by decide
  have b256 : bits .and .i64 64 256 = 0 := by decide
  simp only [dval, dcells] at *
  clear hH
  by_cases hfit : FitsD ⟨z, 9, s, t, x, m, path, data, ow, ve, cv, ti, er, (cver, ms)⟩ np
  · rw [decide_eq_true hfit]
    obtain ⟨-, rfl, rfl, rfl, rfl, rfl, rfl, rfl, ⟨rfl, rfl⟩, h1⟩ := hfit.of9 rfl
    simp only [List.length_nil] at *
    clear hfit
    go_enter Tryz.func103, Tryz.ntmps103
    go_wp2
    all_goals first
      | (go_ret; exact ⟨rfl, (Fr.refl NoB w).alloc _⟩)
      | (exfalso; (try simp at *); omega)
      | trace_state
  · rw [decide_eq_false hfit]
    go_enter Tryz.func103, Tryz.ntmps103
    go_wp2
    all_goals first
      | (go_ret; exact ⟨rfl, (Fr.refl NoB w).alloc _⟩)
      | (go_ret; exact ⟨ret_bool (nf9 hfit (by assumption) (by assumption) (by assumption) (by assumption) (by assumption) (by assumption) (by assumption) (by assumption) (by assumption) ), (Fr.refl NoB w).alloc _⟩)
      | (exact absurd ‹(!path.isEmpty) = true› (by rw [‹(!path.isEmpty) = false›]; decide))
      | trace_state
end Go.Proofs.YtmlmbahimklfiaaGreatDoor
