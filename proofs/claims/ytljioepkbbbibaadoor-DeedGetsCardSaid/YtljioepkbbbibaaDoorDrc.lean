/-
  Drc: Right of rows of deeds, of configs, of any deed.
-/
import Derived.Test.YtljioepkbbbibaaDoorDee
namespace Go.Proofs.YtljioepkbbbibaaDoor
open Go.RowKit

set_option maxHeartbeats 3200000 in
set_option maxRecDepth 8000 in
theorem right_5 (f : Fd) (p : Pl) (l : List (Fd × Nat)) (lo hi : Nat) (w : World) (hf : f.Ok) (hn : l.length ≤ 140737488355328) (hok : ∀ q ∈ l, q.1.Ok ∧ q.2 ≤ 140737488355328) (hD : RdD w lo hi f p l) (hh : hi ≤ w.heap.size) (hH : Has w) (hy : Head f l.length) (hk : f.k = 5) :
    Calls Tryd.prog 11 #[dval f p l.length] w fun e w' => e = .returned (.bool (decide (PartsOk l 0 500 2))) ∧ Fr NoB w w' := by
  have hcm := fun W => may_calls f.z W hf.z
  have hcf := fun W (hW : Has W) => dfits_calls f p l.length W hf hn hW
  have HH := Lib.hid hH
  rw [decide_eq_true hy.2.1] at hcm
  rw [decide_eq_true hy.2.2.2.2.2.2] at hcf
  have hcp := fun W (F : Fr NoB w W) => dparts_calls p.P l p.e lo hi 0 500 2 W (hD.parts.fr F hh (fun _ _ _ x => x)) (Nat.le_trans hh F.size) hn hok (hH.fr F) (by decide) (by decide)
  generalize decide (PartsOk l 0 500 2) = R at *
  obtain ⟨h1, -, h2, h3, h4, h5, -⟩ := hy
  clear hH hD hok
  obtain ⟨z, k, s, t, x, m, path, data, ow, ve, cv, ti, er, cver, ms⟩ := f
  obtain ⟨A, c, B, d, P, e'⟩ := p
  simp only at *
  simp only [dval, dcells] at *
  clear hf
  subst hk
  go_enter Tryd.func11, Tryd.ntmps11
  go_wp2_with (first
    | ((with_reducible refine (hcm _).mono ?_); rintro e w1 ⟨rfl, rfl⟩)
    | ((with_reducible refine (hcf _ (HH.out.fr ((Fr.refl NoB w).alloc _))).mono ?_); rintro e w2 ⟨rfl, f2⟩; have hb := f2.at_ (heap_alloc_new w _) (fun x => x); have d0 := (cells_of hb 0).1; have d1 := (cells_of hb 1).1; have d13 := (cells_of hb 13).1; have d14 := (cells_of hb 14).1; have d15 := (cells_of hb 15).1; clear hb; simp only [List.getElem?_toArray, List.getElem?_cons_zero, List.getElem?_cons_succ] at d0 d1 d13 d14 d15)
    | (refine (hcp _ (((Fr.refl NoB w).alloc _).then f2)).mono ?_; rintro e w3 ⟨rfl, f3⟩))
  all_goals first
    | (go_ret; exact ⟨rfl, (((Fr.refl NoB w).alloc _).then f2).then f3⟩)
    | trace_state

set_option maxHeartbeats 3200000 in
set_option maxRecDepth 8000 in
theorem right_8 (f : Fd) (p : Pl) (l : List (Fd × Nat)) (lo hi : Nat) (w : World) (hf : f.Ok) (hn : l.length ≤ 140737488355328) (hok : ∀ q ∈ l, q.1.Ok ∧ q.2 ≤ 140737488355328) (hD : RdD w lo hi f p l) (hh : hi ≤ w.heap.size) (hH : Has w) (hy : Head f l.length) (hk : f.k = 8) :
    Calls Tryd.prog 11 #[dval f p l.length] w fun e w' => e = .returned (.bool (decide (PartsOk l 1 16 3))) ∧ Fr NoB w w' := by
  have hcm := fun W => may_calls f.z W hf.z
  have hcf := fun W (hW : Has W) => dfits_calls f p l.length W hf hn hW
  have HH := Lib.hid hH
  rw [decide_eq_true hy.2.1] at hcm
  rw [decide_eq_true hy.2.2.2.2.2.2] at hcf
  have hcp := fun W (F : Fr NoB w W) => dparts_calls p.P l p.e lo hi 1 16 3 W (hD.parts.fr F hh (fun _ _ _ x => x)) (Nat.le_trans hh F.size) hn hok (hH.fr F) (by decide) (by decide)
  generalize decide (PartsOk l 1 16 3) = R at *
  obtain ⟨h1, -, h2, h3, h4, h5, -⟩ := hy
  clear hH hD hok
  obtain ⟨z, k, s, t, x, m, path, data, ow, ve, cv, ti, er, cver, ms⟩ := f
  obtain ⟨A, c, B, d, P, e'⟩ := p
  simp only at *
  simp only [dval, dcells] at *
  clear hf
  subst hk
  go_enter Tryd.func11, Tryd.ntmps11
  go_wp2_with (first
    | ((with_reducible refine (hcm _).mono ?_); rintro e w1 ⟨rfl, rfl⟩)
    | ((with_reducible refine (hcf _ (HH.out.fr ((Fr.refl NoB w).alloc _))).mono ?_); rintro e w2 ⟨rfl, f2⟩; have hb := f2.at_ (heap_alloc_new w _) (fun x => x); have d0 := (cells_of hb 0).1; have d1 := (cells_of hb 1).1; have d13 := (cells_of hb 13).1; have d14 := (cells_of hb 14).1; have d15 := (cells_of hb 15).1; clear hb; simp only [List.getElem?_toArray, List.getElem?_cons_zero, List.getElem?_cons_succ] at d0 d1 d13 d14 d15)
    | (refine (hcp _ (((Fr.refl NoB w).alloc _).then f2)).mono ?_; rintro e w3 ⟨rfl, f3⟩))
  all_goals first
    | (go_ret; exact ⟨rfl, (((Fr.refl NoB w).alloc _).then f2).then f3⟩)
    | trace_state

set_option maxHeartbeats 3200000 in
set_option maxRecDepth 8000 in
theorem right_7 (f : Fd) (p : Pl) (l : List (Fd × Nat)) (lo hi : Nat) (w : World) (hf : f.Ok) (hn : l.length ≤ 140737488355328) (_hok : ∀ q ∈ l, q.1.Ok ∧ q.2 ≤ 140737488355328) (hD : RdD w lo hi f p l) (hh : hi ≤ w.heap.size) (hH : Has w) (hy : Head f l.length) (hk : f.k = 7) :
    Calls Tryd.prog 11 #[dval f p l.length] w fun e w' => e = .returned (.bool (decide (chk f.c.1 f.c.2 = 0 ∧ f.c.1 = f.z))) ∧ Fr NoB w w' := by
  have hcm := fun W => may_calls f.z W hf.z
  have hcf := fun W (hW : Has W) => dfits_calls f p l.length W hf hn hW
  have HH := Lib.hid hH
  rw [decide_eq_true hy.2.1] at hcm
  rw [decide_eq_true hy.2.2.2.2.2.2] at hcf
  have hck := fun W (F : Fr NoB w W) => check_calls f.c.1 p.B f.c.2 p.d lo hi W (hD.ms.fr F hh (fun _ _ _ x => x)) (Nat.le_trans hh F.size) (by have := hf.ms; omega)
  generalize chk f.c.1 f.c.2 = C at *
  obtain ⟨h1, -, h2, h3, h4, h5, -⟩ := hy
  clear hH hD _hok
  obtain ⟨z, k, s, t, x, m, path, data, ow, ve, cv, ti, er, cver, ms⟩ := f
  obtain ⟨A, c, B, d, P, e'⟩ := p
  simp only at *
  simp only [dval, dcells] at *
  clear hf
  subst hk
  go_enter Tryd.func11, Tryd.ntmps11
  go_wp2_with (first
    | ((with_reducible refine (hcm _).mono ?_); rintro e w1 ⟨rfl, rfl⟩)
    | ((with_reducible refine (hcf _ (HH.out.fr ((Fr.refl NoB w).alloc _))).mono ?_); rintro e w2 ⟨rfl, f2⟩; have hb := f2.at_ (heap_alloc_new w _) (fun x => x); have d0 := (cells_of hb 0).1; have d1 := (cells_of hb 1).1; have d13 := (cells_of hb 13).1; have d14 := (cells_of hb 14).1; have d15 := (cells_of hb 15).1; clear hb; simp only [List.getElem?_toArray, List.getElem?_cons_zero, List.getElem?_cons_succ] at d0 d1 d13 d14 d15)
    | (refine (hck _ (((Fr.refl NoB w).alloc _).then f2)).mono ?_; rintro e w3 ⟨rfl, f3⟩; have g0 := (f3.cell (p := ⟨w.heap.size, 0, none⟩) (World.block_lt_of_cell? _ _ d0) (fun x => x)).trans d0; have g13 := (f3.cell (p := ⟨w.heap.size, 13, none⟩) (World.block_lt_of_cell? _ _ d13) (fun x => x)).trans d13))
  all_goals first
    | (go_ret; exact ⟨ret_bool (by rename_i hc; by_cases h : cver = z <;> simp [hc, h]), (((Fr.refl NoB w).alloc _).then f2).then f3⟩)
    | (rename_i hc; subst hc; go_ret; exact ⟨ret_bool (by by_cases h : cver = z <;> simp [h]), (((Fr.refl NoB w).alloc _).then f2).then f3⟩)
    | trace_state

theorem right_calls (f : Fd) (p : Pl) (l : List (Fd × Nat)) (lo hi : Nat) (w : World) (hf : f.Ok) (hn : l.length ≤ 140737488355328) (hok : ∀ q ∈ l, q.1.Ok ∧ q.2 ≤ 140737488355328) (hD : RdD w lo hi f p l) (hh : hi ≤ w.heap.size) (hH : Has w) :
    Calls Tryd.prog 11 #[dval f p l.length] w fun e w' => e = .returned (.bool (decide (Right f l))) ∧ Fr NoB w w' := by
  by_cases hy : Head f l.length
  rotate_left
  · rw [decide_eq_false (fun h => hy ⟨h.1, h.2.1, h.2.2.1, h.2.2.2.1, h.2.2.2.2.1, h.2.2.2.2.2.1, h.2.2.2.2.2.2.1⟩)]
    exact right_no f p l.length w hf hn hH hy
  have key : ∀ (P : Prop) [Decidable P], (Right f l ↔ P) → (Calls Tryd.prog 11 #[dval f p l.length] w fun e w' => e = .returned (.bool (decide P)) ∧ Fr NoB w w') → Calls Tryd.prog 11 #[dval f p l.length] w fun e w' => e = .returned (.bool (decide (Right f l))) ∧ Fr NoB w w' := fun P _ h hc => by
    rw [show decide (Right f l) = decide P from decide_eq_decide.2 h]
    exact hc
  have hsplit : Right f l ↔ (f.k = 5 → PartsOk l 0 500 2) ∧ (f.k = 7 → chk f.c.1 f.c.2 = 0 ∧ f.c.1 = f.z) ∧ (f.k = 8 → PartsOk l 1 16 3) :=
    ⟨fun h => ⟨h.2.2.2.2.2.2.2.1, h.2.2.2.2.2.2.2.2.1, h.2.2.2.2.2.2.2.2.2⟩, fun h => ⟨hy.1, hy.2.1, hy.2.2.1, hy.2.2.2.1, hy.2.2.2.2.1, hy.2.2.2.2.2.1, hy.2.2.2.2.2.2, h.1, h.2.1, h.2.2⟩⟩
  by_cases h5 : f.k = 5
  · exact key (PartsOk l 0 500 2) (hsplit.trans ⟨fun h => h.1 h5, fun h => ⟨fun _ => h, fun h7 => absurd (h5.symm.trans h7) (by decide), fun h7 => absurd (h5.symm.trans h7) (by decide)⟩⟩) (right_5 f p l lo hi w hf hn hok hD hh hH hy h5)
  by_cases h7 : f.k = 7
  · exact key (chk f.c.1 f.c.2 = 0 ∧ f.c.1 = f.z) (hsplit.trans ⟨fun h => h.2.1 h7, fun h => ⟨fun h5 => absurd (h7.symm.trans h5) (by decide), fun _ => h, fun h5 => absurd (h7.symm.trans h5) (by decide)⟩⟩) (right_7 f p l lo hi w hf hn hok hD hh hH hy h7)
  by_cases h8 : f.k = 8
  · exact key (PartsOk l 1 16 3) (hsplit.trans ⟨fun h => h.2.2 h8, fun h => ⟨fun h5 => absurd (h8.symm.trans h5) (by decide), fun h5 => absurd (h8.symm.trans h5) (by decide), fun _ => h⟩⟩) (right_8 f p l lo hi w hf hn hok hD hh hH hy h8)
  · rw [decide_eq_true (hsplit.2 ⟨fun h => absurd h h5, fun h => absurd h h7, fun h => absurd h h8⟩)]
    exact right_else f p l lo hi w hf hn hok hD hh hH hy h5 h7 h8
end Go.Proofs.YtljioepkbbbibaaDoor
