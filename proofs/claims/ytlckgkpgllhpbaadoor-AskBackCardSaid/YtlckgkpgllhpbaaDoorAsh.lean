/-
  Ash: what is put is got; cut off, with more behind it.
-/
import Derived.Test.YtlckgkpgllhpbaaDoorAbl
namespace Go.Proofs.YtlckgkpgllhpbaaDoor
open Go.RowKit

theorem a_back {f : Fa} {l : List (Fa × Nat)} (hR : RightA f l) (hf : FineA f l) (hz : ∀ q ∈ l, q.1.OkMs) (A : Option Addr) (c : Nat) (w : World) (h : Rd w 0 w.heap.size A (askB f l)) (hl : (askB f l).length ≤ 140737488355328) :
    Calls Tryd.prog 19 #[.slice A (askB f l).length c] w fun e w' => ∃ xs, e = .returned (.tuple #[.agg xs, .int .i64 0]) ∧ IsA w' xs f l ∧ Fr NoB w w' := by
  refine (b_get A _ c 0 w h hl).mono ?_
  rintro e w' ⟨cs, f', l', zz, rfl, hg, hi, fr⟩
  rw [getA_front hR hf.ok hf.ms (fun q hq => ⟨hf.oks q hq, hz q hq⟩)] at hg
  rcases hg with ⟨h1, rfl⟩ | ⟨h1, -⟩
  · simp only [Option.some.injEq, Prod.mk.injEq] at h1
    obtain ⟨rfl, rfl⟩ := h1
    exact ⟨cs, rfl, hi, fr⟩
  · cases h1
theorem a_cut {f : Fa} {l : List (Fa × Nat)} (hR : RightA f l) (hf : FineA f l) (hz : ∀ q ∈ l, q.1.OkMs) (A : Option Addr) (c q : Nat) (w : World) (h : Rd w 0 w.heap.size A (askB f l)) (hq : q < (askB f l).length) (hl : (askB f l).length ≤ 140737488355328) :
    Calls Tryd.prog 19 #[.slice A q c] w fun e w' => ∃ xs, e = .returned (.tuple #[.agg xs, .int .i64 4]) ∧ xs.size = 15 ∧ xs.all (·.oneCell') = true ∧ Fr NoB w w' := by
  have hlen : ((askB f l).take q).length = q := by rw [List.length_take]; omega
  have hc := b_get A ((askB f l).take q) c 0 w (h.take (n := q)) (by omega)
  rw [hlen, getA_cut hR hf.ok hf.ms (fun q hq => ⟨hf.oks q hq, hz q hq⟩) hq] at hc
  refine hc.mono ?_
  rintro e w' ⟨cs, f', l', zz, rfl, hg, hi, fr⟩
  rcases hg with ⟨h1, -⟩ | ⟨-, -, -, rfl⟩
  · cases h1
  · exact ⟨cs, rfl, hi.size, hi.one, fr⟩
theorem a_more {f : Fa} {l : List (Fa × Nat)} (hR : RightA f l) (hf : FineA f l) (hz : ∀ q ∈ l, q.1.OkMs) (more : List UInt8) (A : Option Addr) (c : Nat) (w : World) (h : Rd w 0 w.heap.size A (askB f l ++ more)) (hl : (askB f l ++ more).length ≤ 140737488355328) :
    Calls Tryd.prog 19 #[.slice A ((askB f l).length + more.length) c] w fun e w' => ∃ xs zz, e = .returned (.tuple #[.agg xs, .int .i64 zz]) ∧ (zz == 0) = ((more.length : Int) == 0) ∧ xs.size = 15 ∧ xs.all (·.oneCell') = true ∧ Fr NoB w w' := by
  have hc := b_get A _ c 0 w h hl
  rw [List.length_append] at hc
  refine hc.mono ?_
  rintro e w' ⟨cs, f', l', zz, rfl, hg, hi, fr⟩
  refine ⟨cs, zz, rfl, ?_, hi.size, hi.one, fr⟩
  cases more with
  | nil =>
    rw [List.append_nil, getA_front hR hf.ok hf.ms (fun q hq => ⟨hf.oks q hq, hz q hq⟩)] at hg
    rcases hg with ⟨-, rfl⟩ | ⟨h1, -⟩
    · rfl
    · cases h1
  | cons x m =>
    rw [getA_more hR hf.ok hf.ms (fun q hq => ⟨hf.oks q hq, hz q hq⟩) (by simp)] at hg
    rcases hg with ⟨h1, -⟩ | ⟨-, -, -, rfl⟩
    · cases h1
    · rw [show ((4 : Int) == 0) = false from rfl, eq_comm, beq_eq_false_iff_ne, List.length_cons]
      omega
theorem y_back {f : Fy} {l : List (Fy × Nat)} (hR : RightY f l) (hf : FineY f l) (A : Option Addr) (c : Nat) (w : World) (h : Rd w 0 w.heap.size A (replyB f l)) (hl : (replyB f l).length ≤ 140737488355328) :
    Calls Tryd.prog 23 #[.slice A (replyB f l).length c] w fun e w' => ∃ xs, e = .returned (.tuple #[.agg xs, .int .i64 0]) ∧ IsY w' xs f l ∧ Fr NoB w w' := by
  refine (y_get A _ c 0 w h hl).mono ?_
  rintro e w' ⟨cs, f', l', zz, rfl, hg, hi, fr⟩
  rw [getY_front hR hf.ok hf.oks] at hg
  rcases hg with ⟨h1, rfl⟩ | ⟨h1, -⟩
  · simp only [Option.some.injEq, Prod.mk.injEq] at h1
    obtain ⟨rfl, rfl⟩ := h1
    exact ⟨cs, rfl, hi, fr⟩
  · cases h1
theorem y_cut {f : Fy} {l : List (Fy × Nat)} (hR : RightY f l) (hf : FineY f l) (A : Option Addr) (c q : Nat) (w : World) (h : Rd w 0 w.heap.size A (replyB f l)) (hq : q < (replyB f l).length) (hl : (replyB f l).length ≤ 140737488355328) :
    Calls Tryd.prog 23 #[.slice A q c] w fun e w' => ∃ xs, e = .returned (.tuple #[.agg xs, .int .i64 4]) ∧ xs.size = 22 ∧ xs.all (·.oneCell') = true ∧ Fr NoB w w' := by
  have hlen : ((replyB f l).take q).length = q := by rw [List.length_take]; omega
  have hc := y_get A ((replyB f l).take q) c 0 w (h.take (n := q)) (by omega)
  rw [hlen, getY_cut hR hf.ok hf.oks hq] at hc
  refine hc.mono ?_
  rintro e w' ⟨cs, f', l', zz, rfl, hg, hi, fr⟩
  rcases hg with ⟨h1, -⟩ | ⟨-, -, -, rfl⟩
  · cases h1
  · exact ⟨cs, rfl, hi.size, hi.one, fr⟩
theorem y_more {f : Fy} {l : List (Fy × Nat)} (hR : RightY f l) (hf : FineY f l) (more : List UInt8) (A : Option Addr) (c : Nat) (w : World) (h : Rd w 0 w.heap.size A (replyB f l ++ more)) (hl : (replyB f l ++ more).length ≤ 140737488355328) :
    Calls Tryd.prog 23 #[.slice A ((replyB f l).length + more.length) c] w fun e w' => ∃ xs zz, e = .returned (.tuple #[.agg xs, .int .i64 zz]) ∧ (zz == 0) = ((more.length : Int) == 0) ∧ xs.size = 22 ∧ xs.all (·.oneCell') = true ∧ Fr NoB w w' := by
  have hc := y_get A _ c 0 w h hl
  rw [List.length_append] at hc
  refine hc.mono ?_
  rintro e w' ⟨cs, f', l', zz, rfl, hg, hi, fr⟩
  refine ⟨cs, zz, rfl, ?_, hi.size, hi.one, fr⟩
  cases more with
  | nil =>
    rw [List.append_nil, getY_front hR hf.ok hf.oks] at hg
    rcases hg with ⟨-, rfl⟩ | ⟨h1, -⟩
    · rfl
    · cases h1
  | cons x m =>
    rw [getY_more hR hf.ok hf.oks (by simp)] at hg
    rcases hg with ⟨h1, -⟩ | ⟨-, -, -, rfl⟩
    · cases h1
    · rw [show ((4 : Int) == 0) = false from rfl, eq_comm, beq_eq_false_iff_ne, List.length_cons]
      omega
theorem e_more {f : Fe} (hR : RightE f) (hf : f.Ok) (more : List UInt8) (A : Option Addr) (c : Nat) (w : World) (h : Rd w 0 w.heap.size A (evB f ++ more)) (hl : (evB f ++ more).length ≤ 140737488355328) :
    Calls Tryd.prog 25 #[.slice A ((evB f).length + more.length) c] w fun e w' => ∃ fe zz, e = .returned (.tuple #[.agg (ecells fe), .int .i64 zz]) ∧ (zz == 0) = ((more.length : Int) == 0) ∧ Fr NoB w w' := by
  have hc := eget_calls A _ c 0 w.heap.size w h (Nat.le_refl _) hl
  rw [List.length_append] at hc
  refine hc.mono ?_
  rintro e w' ⟨fe, zz, rfl, hg, fr⟩
  refine ⟨fe, zz, rfl, ?_, fr⟩
  cases more with
  | nil =>
    rw [List.append_nil, getEv_front hR hf] at hg
    rcases hg with ⟨-, rfl⟩ | ⟨h1, -⟩
    · rfl
    · cases h1
  | cons x m =>
    rw [getEv_more hR hf (by simp)] at hg
    rcases hg with ⟨h1, -⟩ | ⟨-, -, rfl⟩
    · cases h1
    · rw [show ((4 : Int) == 0) = false from rfl, eq_comm, beq_eq_false_iff_ne, List.length_cons]
      omega
theorem e_cut {f : Fe} (hR : RightE f) (hf : f.Ok) (A : Option Addr) (c q : Nat) (w : World) (h : Rd w 0 w.heap.size A (evB f)) (hq : q < (evB f).length) (hl : (evB f).length ≤ 140737488355328) :
    Calls Tryd.prog 25 #[.slice A q c] w fun e w' => ∃ fe, e = .returned (.tuple #[.agg (ecells fe), .int .i64 4]) ∧ Fr NoB w w' := by
  have hlen : ((evB f).take q).length = q := by rw [List.length_take]; omega
  have hc := eget_calls A ((evB f).take q) c 0 w.heap.size w (h.take (n := q)) (Nat.le_refl _) (by omega)
  rw [hlen, getEv_cut hR hf hq] at hc
  refine hc.mono ?_
  rintro e w' ⟨fe, zz, rfl, hg, fr⟩
  rcases hg with ⟨h1, -⟩ | ⟨-, -, rfl⟩
  · cases h1
  · exact ⟨fe, rfl, fr⟩
theorem e_back {f : Fe} (hR : RightE f) (hf : f.Ok) (A : Option Addr) (c : Nat) (w : World) (h : Rd w 0 w.heap.size A (evB f)) (hl : (evB f).length ≤ 140737488355328) :
    Calls Tryd.prog 25 #[.slice A (evB f).length c] w fun e w' => e = .returned (.tuple #[.agg (ecells f), .int .i64 0]) ∧ Fr NoB w w' := by
  refine (eget_calls A _ c 0 w.heap.size w h (Nat.le_refl _) hl).mono ?_
  rintro e w' ⟨fe, zz, rfl, hg, fr⟩
  rw [getEv_front hR hf] at hg
  rcases hg with ⟨h1, rfl⟩ | ⟨h1, -⟩
  · injection h1 with h1; subst h1; exact ⟨rfl, fr⟩
  · cases h1
end Go.Proofs.YtlckgkpgllhpbaaDoor
