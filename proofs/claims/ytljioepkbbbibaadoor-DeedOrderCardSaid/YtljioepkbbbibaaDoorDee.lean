/-
  Dee: Right.
-/
import Derived.Test.YtljioepkbbbibaaDoorDed
namespace Go.Proofs.YtljioepkbbbibaaDoor
open Go.RowKit

/-- A deed in memory: what its lists read as. -/
structure RdD (w : World) (lo hi : Nat) (f : Fd) (p : Pl) (l : List (Fd × Nat)) : Prop where
  data : Rd w lo hi p.A f.data
  ms : RdM w lo hi p.B f.c.2
  parts : RdP w lo hi p.P l
theorem RdD.fr {M : Nat → Prop} {w w' : World} {lo hi : Nat} {f : Fd} {p : Pl} {l : List (Fd × Nat)} (h : RdD w lo hi f p l) (hf : Fr M w w') (hh : hi ≤ w.heap.size) (hm : ∀ k, lo ≤ k → k < hi → ¬ M k) : RdD w' lo hi f p l :=
  ⟨h.data.fr hf hh hm, h.ms.fr hf hh hm, h.parts.fr hf hh hm⟩
theorem RdP.wide {w : World} {lo hi lo' hi' : Nat} {A : Option Addr} {l : List (Fd × Nat)} (h : RdP w lo hi A l) (h1 : lo' ≤ lo) (h2 : hi ≤ hi') : RdP w lo' hi' A l := fun hl => by
  obtain ⟨b, o, a1, a2, a3, a4⟩ := h hl
  refine ⟨b, o, a1, by omega, by omega, fun i q hq => ?_⟩
  obtain ⟨pl, k1, k2, k3⟩ := a4 i q hq
  exact ⟨pl, k1, k2.wide h1 h2, k3.wide h1 h2⟩

theorem may_calls (z : Int) (w : World) (hz0 : -9223372036854775808 ≤ z ∧ z ≤ 9223372036854775807) :
    Calls Tryd.prog 32 #[.int .i64 z] w fun r w' => r = .returned (.bool (decide (May z))) ∧ w' = w := by
  by_cases hb : May z
  · rw [decide_eq_true hb]
    obtain ⟨h1, h2⟩ := hb
    go_enter Tryd.func32, Tryd.ntmps32
    go_wp2
    all_goals first
      | (exfalso; (try simp at *); omega)
      | (go_ret; exact ⟨rfl, rfl⟩)
      | (go_ret; exact ⟨ret_bool (by simp; omega), rfl⟩)
  · rw [decide_eq_false hb]
    unfold May at hb
    go_enter Tryd.func32, Tryd.ntmps32
    go_wp2
    all_goals first
      | (go_ret; exact ⟨rfl, rfl⟩)
      | (go_ret; exact ⟨ret_bool (by simp; omega), rfl⟩)
      | (exfalso; (try simp at *); omega)

/-- What is asked ahead of a kind's own. -/
def Head (f : Fd) (np : Nat) : Prop := 1 ≤ f.z ∧ May f.z ∧ 0 ≤ f.s ∧ 0 ≤ f.t ∧ 0 ≤ f.x ∧ 0 ≤ f.m ∧ FitsD f np
instance (f : Fd) (np : Nat) : Decidable (Head f np) := by unfold Head; infer_instance

set_option maxHeartbeats 3200000 in
set_option maxRecDepth 8000 in
theorem right_no (f : Fd) (p : Pl) (np : Nat) (w : World) (hf : f.Ok) (hn : np ≤ 140737488355328) (hH : Has w) (hno : ¬ Head f np) :
    Calls Tryd.prog 11 #[dval f p np] w fun e w' => e = .returned (.bool false) ∧ Fr NoB w w' := by
  have hcm := fun W => may_calls f.z W hf.z
  have hcf := fun W (hW : Has W) => dfits_calls f p np W hf hn hW
  have HH := Lib.hid hH
  have HNO := Lib.hid hno
  obtain ⟨z, k, s, t, x, m, path, data, ow, ve, cv, ti, er, cver, ms⟩ := f
  obtain ⟨A, c, B, d, P, e'⟩ := p
  simp only at hcm
  generalize hmm : decide (May z) = bm at hcm
  generalize hff : decide (FitsD ⟨z, k, s, t, x, m, path, data, ow, ve, cv, ti, er, (cver, ms)⟩ np) = bf at hcf
  simp only [dval, dcells] at *
  have hz : 1 ≤ z ∧ bm = true ∧ 0 ≤ s ∧ 0 ≤ t ∧ 0 ≤ x ∧ 0 ≤ m → bf = false := fun ⟨h1, h2, h3, h4, h5, h6⟩ => by
    rw [h2] at hmm
    rw [← hff]
    exact decide_eq_false fun h => HNO.out ⟨h1, of_decide_eq_true hmm, h3, h4, h5, h6, h⟩
  have HZ := Lib.hid hz
  clear hf hH hno HNO hmm hff hz
  go_enter Tryd.func11, Tryd.ntmps11
  go_wp2_with (first
    | ((with_reducible refine (hcm _).mono ?_); rintro e w1 ⟨rfl, rfl⟩)
    | (have hbf : bf = false := HZ.out ⟨by assumption, by assumption, by assumption, by assumption, by assumption, by assumption⟩; subst hbf; (with_reducible refine (hcf _ (HH.out.fr ((Fr.refl NoB w).alloc _))).mono ?_); rintro e w2 ⟨rfl, f2⟩))
  all_goals first
    | (go_ret; exact ⟨rfl, (Fr.refl NoB w).alloc _⟩)
    | (go_ret; exact ⟨rfl, ((Fr.refl NoB w).alloc _).then f2⟩)
    | trace_state

set_option maxHeartbeats 3200000 in
set_option maxRecDepth 8000 in
theorem right_else (f : Fd) (p : Pl) (l : List (Fd × Nat)) (lo hi : Nat) (w : World) (hf : f.Ok) (hn : l.length ≤ 140737488355328) (_hok : ∀ q ∈ l, q.1.Ok ∧ q.2 ≤ 140737488355328) (_hD : RdD w lo hi f p l) (_hh : hi ≤ w.heap.size) (hH : Has w) (hy : Head f l.length) (h5 : f.k ≠ 5) (h7 : f.k ≠ 7) (h8 : f.k ≠ 8) :
    Calls Tryd.prog 11 #[dval f p l.length] w fun e w' => e = .returned (.bool (true)) ∧ Fr NoB w w' := by
  have hcm := fun W => may_calls f.z W hf.z
  have hcf := fun W (hW : Has W) => dfits_calls f p l.length W hf hn hW
  have HH := Lib.hid hH
  rw [decide_eq_true hy.2.1] at hcm
  rw [decide_eq_true hy.2.2.2.2.2.2] at hcf
  obtain ⟨h1, -, h2, h3, h4, h5, -⟩ := hy
  clear hH _hD _hok
  obtain ⟨z, k, s, t, x, m, path, data, ow, ve, cv, ti, er, cver, ms⟩ := f
  obtain ⟨A, c, B, d, P, e'⟩ := p
  simp only at *
  simp only [dval, dcells] at *
  clear hf
  go_enter Tryd.func11, Tryd.ntmps11
  go_wp2_with (first
    | ((with_reducible refine (hcm _).mono ?_); rintro e w1 ⟨rfl, rfl⟩)
    | ((with_reducible refine (hcf _ (HH.out.fr ((Fr.refl NoB w).alloc _))).mono ?_); rintro e w2 ⟨rfl, f2⟩; have hb := f2.at_ (heap_alloc_new w _) (fun x => x); have d0 := (cells_of hb 0).1; have d1 := (cells_of hb 1).1; have d13 := (cells_of hb 13).1; have d14 := (cells_of hb 14).1; have d15 := (cells_of hb 15).1; clear hb; simp only [List.getElem?_toArray, List.getElem?_cons_zero, List.getElem?_cons_succ] at d0 d1 d13 d14 d15))
  all_goals first
    | (go_ret; exact ⟨rfl, ((Fr.refl NoB w).alloc _).then f2⟩)
    | trace_state
end Go.Proofs.YtljioepkbbbibaaDoor
