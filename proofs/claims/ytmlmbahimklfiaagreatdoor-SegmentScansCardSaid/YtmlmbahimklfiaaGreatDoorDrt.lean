/-
  Drt: the document's Right.
-/
import Derived.Test.YtmlmbahimklfiaaGreatDoorDrs
import Derived.Test.YtmlmbahimklfiaaGreatDoorRec
import Derived.Test.YtmlmbahimklfiaaGreatDoorDez
namespace Go.Proofs.YtmlmbahimklfiaaGreatDoor
open Go.RowKit

/-- What the document asks ahead of a kind's own. -/
def HeadR (f : Fd) (np : Nat) : Prop := 1 ≤ f.z ∧ May f.z ∧ 0 ≤ f.s ∧ 0 ≤ f.t ∧ 0 ≤ f.x ∧ 0 ≤ f.m ∧ BareD f np
instance (f : Fd) (np : Nat) : Decidable (HeadR f np) := by unfold HeadR; infer_instance
theorem rmay_calls (z : Int) (w : World) (hz0 : -9223372036854775808 ≤ z ∧ z ≤ 9223372036854775807) :
    Calls Tryz.prog 112 #[.int .i64 z] w fun r w' => r = .returned (.bool (decide (May z))) ∧ w' = w := by
  by_cases hb : May z
  · rw [decide_eq_true hb]
    obtain ⟨h1, h2⟩ := hb
    go_enter Tryz.func112, Tryz.ntmps112
    go_wp2
    all_goals first
      | (exfalso; (try simp at *); omega)
      | (go_ret; exact ⟨rfl, rfl⟩)
      | (go_ret; exact ⟨ret_bool (by simp; omega), rfl⟩)
  · rw [decide_eq_false hb]
    unfold May at hb
    go_enter Tryz.func112, Tryz.ntmps112
    go_wp2
    all_goals first
      | (go_ret; exact ⟨rfl, rfl⟩)
      | (go_ret; exact ⟨ret_bool (by simp; omega), rfl⟩)
      | (exfalso; (try simp at *); omega)

set_option maxHeartbeats 3200000 in
set_option maxRecDepth 8000 in
theorem rright_no (f : Fd) (p : Pl) (np : Nat) (w : World) (hf : f.Ok) (hn : np ≤ 140737488355328) (hno : ¬ HeadR f np) :
    Calls Tryz.prog 54 #[dval f p np] w fun e w' => e = .returned (.bool false) ∧ Fr NoB w w' := by
  have hcm := fun W => rmay_calls f.z W hf.z
  have hcf := fun W => bare_calls f p np W hf hn
  have HNO := Lib.hid hno
  obtain ⟨z, k, s, t, x, m, path, data, ow, ve, cv, ti, er, cver, ms⟩ := f
  obtain ⟨A, c, B, d, P, e'⟩ := p
  simp only at hcm
  generalize hmm : decide (May z) = bm at hcm
  generalize hff : decide (BareD ⟨z, k, s, t, x, m, path, data, ow, ve, cv, ti, er, (cver, ms)⟩ np) = bf at hcf
  simp only [dval, dcells] at *
  have hz : 1 ≤ z ∧ bm = true ∧ 0 ≤ s ∧ 0 ≤ t ∧ 0 ≤ x ∧ 0 ≤ m → bf = false := fun ⟨h1, h2, h3, h4, h5, h6⟩ => by
    rw [h2] at hmm
    rw [← hff]
    exact decide_eq_false fun h => HNO.out ⟨h1, of_decide_eq_true hmm, h3, h4, h5, h6, h⟩
  have HZ := Lib.hid hz
  clear hf hno HNO hmm hff hz
  go_enter Tryz.func54, Tryz.ntmps54
  go_wp2_with (first
    | ((with_reducible refine (hcm _).mono ?_); rintro e w1 ⟨rfl, rfl⟩)
    | (have hbf : bf = false := HZ.out ⟨by assumption, by assumption, by assumption, by assumption, by assumption, by assumption⟩; subst hbf; (with_reducible refine (hcf _).mono ?_); rintro e w2 ⟨rfl, f2⟩))
  all_goals first
    | (go_ret; exact ⟨rfl, (Fr.refl NoB w).alloc _⟩)
    | (go_ret; exact ⟨rfl, ((Fr.refl NoB w).alloc _).then f2⟩)
    | trace_state

set_option maxHeartbeats 3200000 in
set_option maxRecDepth 8000 in
theorem rright_1 (f : Fd) (p : Pl) (l : List (Fd × Nat)) (lo hi : Nat) (w : World) (hf : f.Ok) (hn : l.length ≤ 140737488355328) (_hok : ∀ q ∈ l, q.1.Ok ∧ q.2 ≤ 140737488355328) (_hD : RdD w lo hi f p l) (_hh : hi ≤ w.heap.size) (_hM : Max w) (hy : HeadR f l.length) (hk : f.k = 1) :
    Calls Tryz.prog 54 #[dval f p l.length] w fun e w' => e = .returned (.bool (decide (NodeD f l.length))) ∧ Fr NoB w w' := by
  have hcm := fun W => rmay_calls f.z W hf.z
  have hcf := fun W => bare_calls f p l.length W hf hn
  rw [decide_eq_true hy.2.1] at hcm
  rw [decide_eq_true hy.2.2.2.2.2.2] at hcf
  have hcn := fun W (F : Fr NoB w W) => node_calls f p l.length W hf hn (_hM.fr F)
  generalize decide (NodeD f l.length) = R at *
  obtain ⟨h1, -, h2, h3, h4, h5, -⟩ := hy
  clear _hM _hD _hok
  obtain ⟨z, k, s, t, x, m, path, data, ow, ve, cv, ti, er, cver, ms⟩ := f
  obtain ⟨A, c, B, d, P, e'⟩ := p
  simp only at *
  simp only [dval, dcells] at *
  clear hf
  subst hk
  go_enter Tryz.func54, Tryz.ntmps54
  go_wp2_with (first
    | ((with_reducible refine (hcm _).mono ?_); rintro e w1 ⟨rfl, rfl⟩)
    | ((with_reducible refine (hcf _).mono ?_); rintro e w2 ⟨rfl, f2⟩; have hb := f2.at_ (heap_alloc_new w _) (fun x => x); have d0 := (cells_of hb 0).1; have d1 := (cells_of hb 1).1; simp only [List.getElem?_toArray, List.getElem?_cons_zero, List.getElem?_cons_succ] at d0 d1)
    | (refine wpList_load_row rfl 31 _ rfl w.heap.size rfl _ _ _ _ hb Tryz.underlying31 rfl size16 ?_)
    | (refine (hcn _ (((Fr.refl NoB w).alloc _).then f2)).mono ?_; rintro e w3 ⟨rfl, f3⟩))
  all_goals first
    | (go_ret; exact ⟨rfl, (((Fr.refl NoB w).alloc _).then f2).then f3⟩)
    | trace_state
set_option maxHeartbeats 3200000 in
set_option maxRecDepth 8000 in
theorem rright_2 (f : Fd) (p : Pl) (l : List (Fd × Nat)) (lo hi : Nat) (w : World) (hf : f.Ok) (hn : l.length ≤ 140737488355328) (_hok : ∀ q ∈ l, q.1.Ok ∧ q.2 ≤ 140737488355328) (_hD : RdD w lo hi f p l) (_hh : hi ≤ w.heap.size) (_hM : Max w) (hy : HeadR f l.length) (hk : f.k = 2) :
    Calls Tryz.prog 54 #[dval f p l.length] w fun e w' => e = .returned (.bool (decide (NodeD f l.length))) ∧ Fr NoB w w' := by
  have hcm := fun W => rmay_calls f.z W hf.z
  have hcf := fun W => bare_calls f p l.length W hf hn
  rw [decide_eq_true hy.2.1] at hcm
  rw [decide_eq_true hy.2.2.2.2.2.2] at hcf
  have hcn := fun W (F : Fr NoB w W) => node_calls f p l.length W hf hn (_hM.fr F)
  generalize decide (NodeD f l.length) = R at *
  obtain ⟨h1, -, h2, h3, h4, h5, -⟩ := hy
  clear _hM _hD _hok
  obtain ⟨z, k, s, t, x, m, path, data, ow, ve, cv, ti, er, cver, ms⟩ := f
  obtain ⟨A, c, B, d, P, e'⟩ := p
  simp only at *
  simp only [dval, dcells] at *
  clear hf
  subst hk
  go_enter Tryz.func54, Tryz.ntmps54
  go_wp2_with (first
    | ((with_reducible refine (hcm _).mono ?_); rintro e w1 ⟨rfl, rfl⟩)
    | ((with_reducible refine (hcf _).mono ?_); rintro e w2 ⟨rfl, f2⟩; have hb := f2.at_ (heap_alloc_new w _) (fun x => x); have d0 := (cells_of hb 0).1; have d1 := (cells_of hb 1).1; simp only [List.getElem?_toArray, List.getElem?_cons_zero, List.getElem?_cons_succ] at d0 d1)
    | (refine wpList_load_row rfl 31 _ rfl w.heap.size rfl _ _ _ _ hb Tryz.underlying31 rfl size16 ?_)
    | (refine (hcn _ (((Fr.refl NoB w).alloc _).then f2)).mono ?_; rintro e w3 ⟨rfl, f3⟩))
  all_goals first
    | (go_ret; exact ⟨rfl, (((Fr.refl NoB w).alloc _).then f2).then f3⟩)
    | trace_state
set_option maxHeartbeats 3200000 in
set_option maxRecDepth 8000 in
theorem rright_3 (f : Fd) (p : Pl) (l : List (Fd × Nat)) (lo hi : Nat) (w : World) (hf : f.Ok) (hn : l.length ≤ 140737488355328) (_hok : ∀ q ∈ l, q.1.Ok ∧ q.2 ≤ 140737488355328) (_hD : RdD w lo hi f p l) (_hh : hi ≤ w.heap.size) (_hM : Max w) (hy : HeadR f l.length) (hk : f.k = 3) :
    Calls Tryz.prog 54 #[dval f p l.length] w fun e w' => e = .returned (.bool (decide (NodeD f l.length))) ∧ Fr NoB w w' := by
  have hcm := fun W => rmay_calls f.z W hf.z
  have hcf := fun W => bare_calls f p l.length W hf hn
  rw [decide_eq_true hy.2.1] at hcm
  rw [decide_eq_true hy.2.2.2.2.2.2] at hcf
  have hcn := fun W (F : Fr NoB w W) => node_calls f p l.length W hf hn (_hM.fr F)
  generalize decide (NodeD f l.length) = R at *
  obtain ⟨h1, -, h2, h3, h4, h5, -⟩ := hy
  clear _hM _hD _hok
  obtain ⟨z, k, s, t, x, m, path, data, ow, ve, cv, ti, er, cver, ms⟩ := f
  obtain ⟨A, c, B, d, P, e'⟩ := p
  simp only at *
  simp only [dval, dcells] at *
  clear hf
  subst hk
  go_enter Tryz.func54, Tryz.ntmps54
  go_wp2_with (first
    | ((with_reducible refine (hcm _).mono ?_); rintro e w1 ⟨rfl, rfl⟩)
    | ((with_reducible refine (hcf _).mono ?_); rintro e w2 ⟨rfl, f2⟩; have hb := f2.at_ (heap_alloc_new w _) (fun x => x); have d0 := (cells_of hb 0).1; have d1 := (cells_of hb 1).1; simp only [List.getElem?_toArray, List.getElem?_cons_zero, List.getElem?_cons_succ] at d0 d1)
    | (refine wpList_load_row rfl 31 _ rfl w.heap.size rfl _ _ _ _ hb Tryz.underlying31 rfl size16 ?_)
    | (refine (hcn _ (((Fr.refl NoB w).alloc _).then f2)).mono ?_; rintro e w3 ⟨rfl, f3⟩))
  all_goals first
    | (go_ret; exact ⟨rfl, (((Fr.refl NoB w).alloc _).then f2).then f3⟩)
    | trace_state
set_option maxHeartbeats 3200000 in
set_option maxRecDepth 8000 in
theorem rright_4 (f : Fd) (p : Pl) (l : List (Fd × Nat)) (lo hi : Nat) (w : World) (hf : f.Ok) (hn : l.length ≤ 140737488355328) (_hok : ∀ q ∈ l, q.1.Ok ∧ q.2 ≤ 140737488355328) (_hD : RdD w lo hi f p l) (_hh : hi ≤ w.heap.size) (_hM : Max w) (hy : HeadR f l.length) (hk : f.k = 4) :
    Calls Tryz.prog 54 #[dval f p l.length] w fun e w' => e = .returned (.bool (decide (1 ≤ f.ti ∧ f.ti ≤ 1000))) ∧ Fr NoB w w' := by
  have hcm := fun W => rmay_calls f.z W hf.z
  have hcf := fun W => bare_calls f p l.length W hf hn
  rw [decide_eq_true hy.2.1] at hcm
  rw [decide_eq_true hy.2.2.2.2.2.2] at hcf
  obtain ⟨h1, -, h2, h3, h4, h5, -⟩ := hy
  clear _hM _hD _hok
  obtain ⟨z, k, s, t, x, m, path, data, ow, ve, cv, ti, er, cver, ms⟩ := f
  obtain ⟨A, c, B, d, P, e'⟩ := p
  simp only at *
  simp only [dval, dcells] at *
  clear hf
  subst hk
  go_enter Tryz.func54, Tryz.ntmps54
  go_wp2_with (first
    | ((with_reducible refine (hcm _).mono ?_); rintro e w1 ⟨rfl, rfl⟩)
    | ((with_reducible refine (hcf _).mono ?_); rintro e w2 ⟨rfl, f2⟩; have hb := f2.at_ (heap_alloc_new w _) (fun x => x); have d0 := (cells_of hb 0).1; have d1 := (cells_of hb 1).1; have d11 := (cells_of hb 11).1; simp only [List.getElem?_toArray, List.getElem?_cons_zero, List.getElem?_cons_succ] at d0 d1 d11))
  all_goals first
    | (go_ret; exact ⟨rfl, ((Fr.refl NoB w).alloc _).then f2⟩)
    | (go_ret; exact ⟨ret_bool (by first | omega | (simp; omega) | simp_all), ((Fr.refl NoB w).alloc _).then f2⟩)
    | trace_state
set_option maxHeartbeats 3200000 in
set_option maxRecDepth 8000 in
theorem rright_5 (f : Fd) (p : Pl) (l : List (Fd × Nat)) (lo hi : Nat) (w : World) (hf : f.Ok) (hn : l.length ≤ 140737488355328) (_hok : ∀ q ∈ l, q.1.Ok ∧ q.2 ≤ 140737488355328) (_hD : RdD w lo hi f p l) (_hh : hi ≤ w.heap.size) (_hM : Max w) (hy : HeadR f l.length) (hk : f.k = 5) :
    Calls Tryz.prog 54 #[dval f p l.length] w fun e w' => e = .returned (.bool (decide (1 ≤ f.ow ∧ PartsR l 0 500 false))) ∧ Fr NoB w w' := by
  have hcm := fun W => rmay_calls f.z W hf.z
  have hcf := fun W => bare_calls f p l.length W hf hn
  rw [decide_eq_true hy.2.1] at hcm
  rw [decide_eq_true hy.2.2.2.2.2.2] at hcf
  have hcp := fun W (F : Fr NoB w W) => rparts_calls p.P l p.e lo hi 0 500 false W (_hD.parts.fr F _hh (fun _ _ _ x => x)) (Nat.le_trans _hh F.size) hn _hok (_hM.fr F) (by decide)
  rw [Bool.decide_and]
  generalize decide (PartsR l 0 500 false) = R at *
  obtain ⟨h1, -, h2, h3, h4, h5, -⟩ := hy
  clear _hM _hD _hok
  obtain ⟨z, k, s, t, x, m, path, data, ow, ve, cv, ti, er, cver, ms⟩ := f
  obtain ⟨A, c, B, d, P, e'⟩ := p
  simp only at *
  simp only [dval, dcells] at *
  clear hf
  subst hk
  go_enter Tryz.func54, Tryz.ntmps54
  go_wp2_with (first
    | ((with_reducible refine (hcm _).mono ?_); rintro e w1 ⟨rfl, rfl⟩)
    | ((with_reducible refine (hcf _).mono ?_); rintro e w2 ⟨rfl, f2⟩; have hb := f2.at_ (heap_alloc_new w _) (fun x => x); have d0 := (cells_of hb 0).1; have d1 := (cells_of hb 1).1; have d8 := (cells_of hb 8).1; have d15 := (cells_of hb 15).1; simp only [List.getElem?_toArray, List.getElem?_cons_zero, List.getElem?_cons_succ] at d0 d1 d8 d15)
    | (refine (hcp _ (((Fr.refl NoB w).alloc _).then f2)).mono ?_; rintro e w3 ⟨rfl, f3⟩))
  all_goals first
    | (go_ret; exact ⟨rfl, (((Fr.refl NoB w).alloc _).then f2).then f3⟩)
    | (go_ret; exact ⟨ret_bool (by first | (simp; omega) | simp_all), (((Fr.refl NoB w).alloc _).then f2).then f3⟩)
    | (go_ret; exact ⟨ret_bool (by first | (simp; omega) | simp_all), ((Fr.refl NoB w).alloc _).then f2⟩)
    | trace_state
set_option maxHeartbeats 3200000 in
set_option maxRecDepth 8000 in
theorem rright_6 (f : Fd) (p : Pl) (l : List (Fd × Nat)) (lo hi : Nat) (w : World) (hf : f.Ok) (hn : l.length ≤ 140737488355328) (_hok : ∀ q ∈ l, q.1.Ok ∧ q.2 ≤ 140737488355328) (_hD : RdD w lo hi f p l) (_hh : hi ≤ w.heap.size) (_hM : Max w) (hy : HeadR f l.length) (hk : f.k = 6) :
    Calls Tryz.prog 54 #[dval f p l.length] w fun e w' => e = .returned (.bool (true)) ∧ Fr NoB w w' := by
  have hcm := fun W => rmay_calls f.z W hf.z
  have hcf := fun W => bare_calls f p l.length W hf hn
  rw [decide_eq_true hy.2.1] at hcm
  rw [decide_eq_true hy.2.2.2.2.2.2] at hcf
  obtain ⟨h1, -, h2, h3, h4, h5, -⟩ := hy
  clear _hM _hD _hok
  obtain ⟨z, k, s, t, x, m, path, data, ow, ve, cv, ti, er, cver, ms⟩ := f
  obtain ⟨A, c, B, d, P, e'⟩ := p
  simp only at *
  simp only [dval, dcells] at *
  clear hf
  subst hk
  go_enter Tryz.func54, Tryz.ntmps54
  go_wp2_with (first
    | ((with_reducible refine (hcm _).mono ?_); rintro e w1 ⟨rfl, rfl⟩)
    | ((with_reducible refine (hcf _).mono ?_); rintro e w2 ⟨rfl, f2⟩; have hb := f2.at_ (heap_alloc_new w _) (fun x => x); have d0 := (cells_of hb 0).1; have d1 := (cells_of hb 1).1; simp only [List.getElem?_toArray, List.getElem?_cons_zero, List.getElem?_cons_succ] at d0 d1))
  all_goals first
    | (go_ret; exact ⟨rfl, ((Fr.refl NoB w).alloc _).then f2⟩)
    | trace_state
set_option maxHeartbeats 3200000 in
set_option maxRecDepth 8000 in
theorem rright_7 (f : Fd) (p : Pl) (l : List (Fd × Nat)) (lo hi : Nat) (w : World) (hf : f.Ok) (hn : l.length ≤ 140737488355328) (_hok : ∀ q ∈ l, q.1.Ok ∧ q.2 ≤ 140737488355328) (_hD : RdD w lo hi f p l) (_hh : hi ≤ w.heap.size) (_hM : Max w) (hy : HeadR f l.length) (hk : f.k = 7) :
    Calls Tryz.prog 54 #[dval f p l.length] w fun e w' => e = .returned (.bool (decide (chk f.c.1 f.c.2 = 0 ∧ f.c.1 = f.z))) ∧ Fr NoB w w' := by
  have hcm := fun W => rmay_calls f.z W hf.z
  have hcf := fun W => bare_calls f p l.length W hf hn
  rw [decide_eq_true hy.2.1] at hcm
  rw [decide_eq_true hy.2.2.2.2.2.2] at hcf
  have hck := fun W (F : Fr NoB w W) => rcheck_calls f.c.1 p.B f.c.2 p.d lo hi W (_hD.ms.fr F _hh (fun _ _ _ x => x)) (Nat.le_trans _hh F.size) (by have := hf.ms; omega)
  generalize chk f.c.1 f.c.2 = C at *
  obtain ⟨h1, -, h2, h3, h4, h5, -⟩ := hy
  clear _hM _hD _hok
  obtain ⟨z, k, s, t, x, m, path, data, ow, ve, cv, ti, er, cver, ms⟩ := f
  obtain ⟨A, c, B, d, P, e'⟩ := p
  simp only at *
  simp only [dval, dcells] at *
  clear hf
  subst hk
  go_enter Tryz.func54, Tryz.ntmps54
  go_wp2_with (first
    | ((with_reducible refine (hcm _).mono ?_); rintro e w1 ⟨rfl, rfl⟩)
    | ((with_reducible refine (hcf _).mono ?_); rintro e w2 ⟨rfl, f2⟩; have hb := f2.at_ (heap_alloc_new w _) (fun x => x); have d0 := (cells_of hb 0).1; have d1 := (cells_of hb 1).1; have d13 := (cells_of hb 13).1; have d14 := (cells_of hb 14).1; simp only [List.getElem?_toArray, List.getElem?_cons_zero, List.getElem?_cons_succ] at d0 d1 d13 d14)
    | (refine (hck _ (((Fr.refl NoB w).alloc _).then f2)).mono ?_; rintro e w3 ⟨rfl, f3⟩; have g0 := (f3.cell (p := ⟨w.heap.size, 0, none⟩) (World.block_lt_of_cell? _ _ d0) (fun x => x)).trans d0; have g13 := (f3.cell (p := ⟨w.heap.size, 13, none⟩) (World.block_lt_of_cell? _ _ d13) (fun x => x)).trans d13))
  all_goals first
    | (go_ret; exact ⟨ret_bool (by rename_i hc; by_cases h : cver = z <;> simp [hc, h]), (((Fr.refl NoB w).alloc _).then f2).then f3⟩)
    | (rename_i hc; subst hc; go_ret; exact ⟨ret_bool (by by_cases h : cver = z <;> simp [h]), (((Fr.refl NoB w).alloc _).then f2).then f3⟩)
    | trace_state
set_option maxHeartbeats 3200000 in
set_option maxRecDepth 8000 in
theorem rright_8 (f : Fd) (p : Pl) (l : List (Fd × Nat)) (lo hi : Nat) (w : World) (hf : f.Ok) (hn : l.length ≤ 140737488355328) (_hok : ∀ q ∈ l, q.1.Ok ∧ q.2 ≤ 140737488355328) (_hD : RdD w lo hi f p l) (_hh : hi ≤ w.heap.size) (_hM : Max w) (hy : HeadR f l.length) (hk : f.k = 8) :
    Calls Tryz.prog 54 #[dval f p l.length] w fun e w' => e = .returned (.bool (decide (PartsR l 1 16 true))) ∧ Fr NoB w w' := by
  have hcm := fun W => rmay_calls f.z W hf.z
  have hcf := fun W => bare_calls f p l.length W hf hn
  rw [decide_eq_true hy.2.1] at hcm
  rw [decide_eq_true hy.2.2.2.2.2.2] at hcf
  have hcp := fun W (F : Fr NoB w W) => rparts_calls p.P l p.e lo hi 1 16 true W (_hD.parts.fr F _hh (fun _ _ _ x => x)) (Nat.le_trans _hh F.size) hn _hok (_hM.fr F) (by decide)
  generalize decide (PartsR l 1 16 true) = R at *
  obtain ⟨h1, -, h2, h3, h4, h5, -⟩ := hy
  clear _hM _hD _hok
  obtain ⟨z, k, s, t, x, m, path, data, ow, ve, cv, ti, er, cver, ms⟩ := f
  obtain ⟨A, c, B, d, P, e'⟩ := p
  simp only at *
  simp only [dval, dcells] at *
  clear hf
  subst hk
  go_enter Tryz.func54, Tryz.ntmps54
  go_wp2_with (first
    | ((with_reducible refine (hcm _).mono ?_); rintro e w1 ⟨rfl, rfl⟩)
    | ((with_reducible refine (hcf _).mono ?_); rintro e w2 ⟨rfl, f2⟩; have hb := f2.at_ (heap_alloc_new w _) (fun x => x); have d0 := (cells_of hb 0).1; have d1 := (cells_of hb 1).1; have d15 := (cells_of hb 15).1; simp only [List.getElem?_toArray, List.getElem?_cons_zero, List.getElem?_cons_succ] at d0 d1 d15)
    | (refine (hcp _ (((Fr.refl NoB w).alloc _).then f2)).mono ?_; rintro e w3 ⟨rfl, f3⟩))
  all_goals first
    | (go_ret; exact ⟨rfl, (((Fr.refl NoB w).alloc _).then f2).then f3⟩)
    | trace_state
set_option maxHeartbeats 3200000 in
set_option maxRecDepth 8000 in
theorem rright_9 (f : Fd) (p : Pl) (l : List (Fd × Nat)) (lo hi : Nat) (w : World) (hf : f.Ok) (hn : l.length ≤ 140737488355328) (_hok : ∀ q ∈ l, q.1.Ok ∧ q.2 ≤ 140737488355328) (_hD : RdD w lo hi f p l) (_hh : hi ≤ w.heap.size) (_hM : Max w) (hy : HeadR f l.length) (hk : f.k = 9) :
    Calls Tryz.prog 54 #[dval f p l.length] w fun e w' => e = .returned (.bool (decide (1 ≤ f.er))) ∧ Fr NoB w w' := by
  have hcm := fun W => rmay_calls f.z W hf.z
  have hcf := fun W => bare_calls f p l.length W hf hn
  rw [decide_eq_true hy.2.1] at hcm
  rw [decide_eq_true hy.2.2.2.2.2.2] at hcf
  obtain ⟨h1, -, h2, h3, h4, h5, -⟩ := hy
  clear _hM _hD _hok
  obtain ⟨z, k, s, t, x, m, path, data, ow, ve, cv, ti, er, cver, ms⟩ := f
  obtain ⟨A, c, B, d, P, e'⟩ := p
  simp only at *
  simp only [dval, dcells] at *
  clear hf
  subst hk
  go_enter Tryz.func54, Tryz.ntmps54
  go_wp2_with (first
    | ((with_reducible refine (hcm _).mono ?_); rintro e w1 ⟨rfl, rfl⟩)
    | ((with_reducible refine (hcf _).mono ?_); rintro e w2 ⟨rfl, f2⟩; have hb := f2.at_ (heap_alloc_new w _) (fun x => x); have d0 := (cells_of hb 0).1; have d1 := (cells_of hb 1).1; have d12 := (cells_of hb 12).1; simp only [List.getElem?_toArray, List.getElem?_cons_zero, List.getElem?_cons_succ] at d0 d1 d12))
  all_goals first
    | (go_ret; exact ⟨rfl, ((Fr.refl NoB w).alloc _).then f2⟩)
    | (go_ret; exact ⟨ret_bool (by first | omega | (simp; omega) | simp_all), ((Fr.refl NoB w).alloc _).then f2⟩)
    | trace_state
set_option maxHeartbeats 3200000 in
set_option maxRecDepth 8000 in
theorem rright_x (f : Fd) (p : Pl) (l : List (Fd × Nat)) (lo hi : Nat) (w : World) (hf : f.Ok) (hn : l.length ≤ 140737488355328) (_hok : ∀ q ∈ l, q.1.Ok ∧ q.2 ≤ 140737488355328) (_hD : RdD w lo hi f p l) (_hh : hi ≤ w.heap.size) (_hM : Max w) (hy : HeadR f l.length) (hk : f.k = 0 ∨ 9 < f.k) :
    Calls Tryz.prog 54 #[dval f p l.length] w fun e w' => e = .returned (.bool (false)) ∧ Fr NoB w w' := by
  have hcm := fun W => rmay_calls f.z W hf.z
  have hcf := fun W => bare_calls f p l.length W hf hn
  rw [decide_eq_true hy.2.1] at hcm
  rw [decide_eq_true hy.2.2.2.2.2.2] at hcf
  obtain ⟨h1, -, h2, h3, h4, h5, -⟩ := hy
  clear _hM _hD _hok
  obtain ⟨z, k, s, t, x, m, path, data, ow, ve, cv, ti, er, cver, ms⟩ := f
  obtain ⟨A, c, B, d, P, e'⟩ := p
  simp only at *
  simp only [dval, dcells] at *
  clear hf
  have q1 : ¬ k = 1 := by omega
  have q2 : ¬ k = 2 := by omega
  have q3 : ¬ k = 3 := by omega
  have q4 : ¬ k = 4 := by omega
  have q5 : ¬ k = 5 := by omega
  have q6 : ¬ k = 6 := by omega
  have q7 : ¬ k = 7 := by omega
  have q8 : ¬ k = 8 := by omega
  have q9 : ¬ k = 9 := by omega
  go_enter Tryz.func54, Tryz.ntmps54
  go_wp2_with (first
    | ((with_reducible refine (hcm _).mono ?_); rintro e w1 ⟨rfl, rfl⟩)
    | ((with_reducible refine (hcf _).mono ?_); rintro e w2 ⟨rfl, f2⟩; have hb := f2.at_ (heap_alloc_new w _) (fun x => x); have d0 := (cells_of hb 0).1; have d1 := (cells_of hb 1).1; simp only [List.getElem?_toArray, List.getElem?_cons_zero, List.getElem?_cons_succ] at d0 d1))
  all_goals first
    | (go_ret; exact ⟨rfl, ((Fr.refl NoB w).alloc _).then f2⟩)
    | trace_state
instance (f : Fd) (l : List (Fd × Nat)) : Decidable (KindR f l) := by unfold KindR; infer_instance
/-- The document's Right tells what the program's tells. -/
theorem rright_calls (f : Fd) (p : Pl) (l : List (Fd × Nat)) (lo hi : Nat) (w : World) (hf : f.Ok) (hn : l.length ≤ 140737488355328) (hok : ∀ q ∈ l, q.1.Ok ∧ q.2 ≤ 140737488355328) (hD : RdD w lo hi f p l) (hh : hi ≤ w.heap.size) (hM : Max w) :
    Calls Tryz.prog 54 #[dval f p l.length] w fun e w' => e = .returned (.bool (decide (Right f l))) ∧ Fr NoB w w' := by
  by_cases hy : HeadR f l.length
  rotate_left
  · rw [decide_eq_false (fun h => by
      have h := (rightR_iff f l).2 h
      exact hy ⟨h.1, h.2.1, h.2.2.1, h.2.2.2.1, h.2.2.2.2.1, h.2.2.2.2.2.1, h.2.2.2.2.2.2.1⟩)]
    exact rright_no f p l.length w hf hn hy
  have key : ∀ (P : Prop) [Decidable P], (KindR f l ↔ P) → (Calls Tryz.prog 54 #[dval f p l.length] w fun e w' => e = .returned (.bool (decide P)) ∧ Fr NoB w w') → Calls Tryz.prog 54 #[dval f p l.length] w fun e w' => e = .returned (.bool (decide (Right f l))) ∧ Fr NoB w w' := fun P _ h hc => by
    have hr : Right f l ↔ P := (rightR_iff f l).symm.trans ⟨fun x => h.1 x.2.2.2.2.2.2.2, fun x => ⟨hy.1, hy.2.1, hy.2.2.1, hy.2.2.2.1, hy.2.2.2.2.1, hy.2.2.2.2.2.1, hy.2.2.2.2.2.2, h.2 x⟩⟩
    rw [show decide (Right f l) = decide P from decide_eq_decide.2 hr]
    exact hc
  have hkr := hf.k
  by_cases k1 : f.k = 1
  · exact key (NodeD f l.length) (by unfold KindR; rw [if_pos (.inl k1)]) (rright_1 f p l lo hi w hf hn hok hD hh hM hy k1)
  by_cases k2 : f.k = 2
  · exact key (NodeD f l.length) (by unfold KindR; rw [if_pos (.inr (.inl k2))]) (rright_2 f p l lo hi w hf hn hok hD hh hM hy k2)
  by_cases k3 : f.k = 3
  · exact key (NodeD f l.length) (by unfold KindR; rw [if_pos (.inr (.inr k3))]) (rright_3 f p l lo hi w hf hn hok hD hh hM hy k3)
  have kn : ¬ (f.k = 1 ∨ f.k = 2 ∨ f.k = 3) := by omega
  by_cases k4 : f.k = 4
  · exact key (1 ≤ f.ti ∧ f.ti ≤ 1000) (by unfold KindR; rw [if_neg kn, if_pos k4]) (rright_4 f p l lo hi w hf hn hok hD hh hM hy k4)
  by_cases k5 : f.k = 5
  · exact key (1 ≤ f.ow ∧ PartsR l 0 500 false) (by unfold KindR; rw [if_neg kn, if_neg k4, if_pos k5]) (rright_5 f p l lo hi w hf hn hok hD hh hM hy k5)
  by_cases k6 : f.k = 6
  · exact key True (by unfold KindR; rw [if_neg kn, if_neg k4, if_neg k5, if_pos k6]) (by rw [show decide True = true from rfl]; exact rright_6 f p l lo hi w hf hn hok hD hh hM hy k6)
  by_cases k7 : f.k = 7
  · exact key (chk f.c.1 f.c.2 = 0 ∧ f.c.1 = f.z) (by unfold KindR; rw [if_neg kn, if_neg k4, if_neg k5, if_neg k6, if_pos k7]) (rright_7 f p l lo hi w hf hn hok hD hh hM hy k7)
  by_cases k8 : f.k = 8
  · exact key (PartsR l 1 16 true) (by unfold KindR; rw [if_neg kn, if_neg k4, if_neg k5, if_neg k6, if_neg k7, if_pos k8]) (rright_8 f p l lo hi w hf hn hok hD hh hM hy k8)
  by_cases k9 : f.k = 9
  · exact key (1 ≤ f.er) (by unfold KindR; rw [if_neg kn, if_neg k4, if_neg k5, if_neg k6, if_neg k7, if_neg k8, if_pos k9]) (rright_9 f p l lo hi w hf hn hok hD hh hM hy k9)
  · exact key False (by unfold KindR; rw [if_neg kn, if_neg k4, if_neg k5, if_neg k6, if_neg k7, if_neg k8, if_neg k9]) (by rw [show decide False = false from rfl]; exact rright_x f p l lo hi w hf hn hok hD hh hM hy (by omega))
end Go.Proofs.YtmlmbahimklfiaaGreatDoor
