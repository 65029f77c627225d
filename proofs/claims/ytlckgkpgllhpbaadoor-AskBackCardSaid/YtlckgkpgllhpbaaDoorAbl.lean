/-
  Abl: a call, a reply as one opaque row of cells; what is asked of it.
-/
import Derived.Test.YtlckgkpgllhpbaaDoorAwa
import Derived.Test.YtlckgkpgllhpbaaDoorAgr
import Derived.Test.YtlckgkpgllhpbaaDoorAsa
import Derived.Test.YtlckgkpgllhpbaaDoorAsy
namespace Go.Proofs.YtlckgkpgllhpbaaDoor
open Go.RowKit

/-- A call that lies somewhere, as a row of cells. -/
def IsA (w : World) (cs : Array Value) (f : Fa) (l : List (Fa × Nat)) : Prop := ∃ p lo hi, cs = acells f p l.length ∧ hi ≤ w.heap.size ∧ RdA w lo hi f p l
theorem IsA.size {w : World} {cs : Array Value} {f : Fa} {l : List (Fa × Nat)} (h : IsA w cs f l) : cs.size = 15 := by obtain ⟨p, lo, hi, rfl, -, -⟩ := h; rfl
theorem IsA.one {w : World} {cs : Array Value} {f : Fa} {l : List (Fa × Nat)} (h : IsA w cs f l) : cs.all (·.oneCell') = true := by obtain ⟨p, lo, hi, rfl, -, -⟩ := h; exact acells_one _ _ _
theorem IsA.fr {w w' : World} {cs : Array Value} {f : Fa} {l : List (Fa × Nat)} (h : IsA w cs f l) (F : Fr NoB w w') : IsA w' cs f l := by
  obtain ⟨p, lo, hi, rfl, h2, h3⟩ := h
  exact ⟨p, lo, hi, rfl, Nat.le_trans h2 F.size, h3.fr F h2 (fun _ _ _ x => x)⟩
/-- A call's numbers are what the machine's kinds hold; its lists are not too long. -/
structure FineA (f : Fa) (l : List (Fa × Nat)) : Prop where
  ok : f.Ok
  ms : f.OkMs
  len : l.length ≤ 140737488355328
  oks : ∀ q ∈ l, q.1.Ok
theorem asize_of {cs : Array Value} (h : cs.size = 15) : (Tryd.prog.info? 29).map (·.size) = some cs.size := by rw [h]; exact asize15
theorem b_great {w : World} {cs : Array Value} {f : Fa} {l : List (Fa × Nat)} (h : IsA w cs f l) (hf : FineA f l) : Calls Tryd.prog 7 #[.agg cs] w fun e w' => IsBool e ∧ Fr NoB w w' := by
  obtain ⟨p, lo, hi, rfl, h2, h3⟩ := h
  exact great_calls f p l lo hi w h3.parts h2 hf.len
theorem b_right {w : World} {cs : Array Value} {f : Fa} {l : List (Fa × Nat)} (h : IsA w cs f l) : Calls Tryd.prog 11 #[.agg cs] w fun e w' => e = .returned (.bool (decide (RightA f l))) ∧ Fr NoB w w' := by
  obtain ⟨p, lo, hi, rfl, h2, h3⟩ := h
  exact aright_calls f p l lo hi w h3.parts h2
theorem b_put {w : World} {cs : Array Value} {f : Fa} {l : List (Fa × Nat)} (h : IsA w cs f l) (hf : FineA f l) : Calls Tryd.prog 9 #[.agg cs] w fun e w' => ∃ A c, e = .returned (.tuple #[.slice A (putA f l).1.length c, .int .i64 (putA f l).2]) ∧ (putA f l).1.length ≤ c ∧ c ≤ maxLen ∧ w'.ownsRow w.heap.size 5 1 (.slice A (putA f l).1.length c) (putA f l).1.length (bv (putA f l).1) ∧ Fr NoB w w' := by
  obtain ⟨p, lo, hi, rfl, h2, h3⟩ := h
  refine (aput_calls f p l lo hi w hf.ok hf.ms hf.oks h3 h2).mono ?_
  rintro e w' ⟨v, rfl, ho, hf⟩
  obtain ⟨A, c, rfl, n1, n2⟩ := own_form ho
  exact ⟨A, c, rfl, n1, n2, ho, hf⟩
theorem b_get (A : Option Addr) (b : List UInt8) (c lo : Nat) (w : World) (h : Rd w lo w.heap.size A b) (hl : b.length ≤ 140737488355328) : Calls Tryd.prog 19 #[.slice A b.length c] w fun e w' => ∃ cs f l zz, e = .returned (.tuple #[.agg cs, .int .i64 zz]) ∧ ((getA b = some (f, l) ∧ zz = 0) ∨ (getA b = none ∧ f = bareA 0 ∧ l = [] ∧ zz = 4)) ∧ IsA w' cs f l ∧ Fr NoB w w' := by
  refine (aget_calls A b c lo w.heap.size w h (Nat.le_refl _) hl).mono ?_
  rintro e w' ⟨f, pl, l, zz, rfl, hg, hgot, fr⟩
  refine ⟨acells f pl l.length, f, l, zz, rfl, ?_, ⟨pl, _, _, rfl, Nat.le_refl _, hgot.rd⟩, fr⟩
  rcases hg with h | ⟨h1, h2, h3, -, h5⟩
  · exact .inl h
  · exact .inr ⟨h1, h2, h3, h5⟩
theorem b_same {w : World} {cs cs' : Array Value} {f : Fa} {l : List (Fa × Nat)} (h : IsA w cs f l) (h' : IsA w cs' f l) (hf : FineA f l) (hz : ∀ q ∈ l, q.2 = 0) : Calls Tryd.prog 22 #[.agg cs, .agg cs'] w fun e w' => e = .returned (.bool true) ∧ Fr NoB w w' := by
  obtain ⟨p, lo, hi, rfl, h2, h3⟩ := h
  obtain ⟨p', lo', hi', rfl, h2', h3'⟩ := h'
  exact sameA_calls f p p' l lo hi lo' hi' w hf.ok (fun q hq => ⟨hf.oks q hq, hz q hq⟩) hf.len h3 h2 h3' h2'
theorem zeroA_is (w : World) : IsA w (acells (bareA 0) pl0 0) (bareA 0) [] := ⟨pl0, 0, 0, rfl, Nat.zero_le _, rda_nil w _ rfl rfl⟩
theorem zeroA_fine : FineA (bareA 0) [] := ⟨(bareA_ok (by omega)).1, (bareA_ok (by omega)).2, by simp, fun q hq => absurd hq (by simp)⟩
/-- A reply that lies somewhere, as a row of cells. -/
def IsY (w : World) (cs : Array Value) (f : Fy) (l : List (Fy × Nat)) : Prop := ∃ p lo hi, cs = ycells f p l.length ∧ hi ≤ w.heap.size ∧ RdY w lo hi f p l
theorem IsY.size {w : World} {cs : Array Value} {f : Fy} {l : List (Fy × Nat)} (h : IsY w cs f l) : cs.size = 22 := by obtain ⟨p, lo, hi, rfl, -, -⟩ := h; rfl
theorem IsY.one {w : World} {cs : Array Value} {f : Fy} {l : List (Fy × Nat)} (h : IsY w cs f l) : cs.all (·.oneCell') = true := by obtain ⟨p, lo, hi, rfl, -, -⟩ := h; exact ycells_one _ _ _
theorem IsY.fr {w w' : World} {cs : Array Value} {f : Fy} {l : List (Fy × Nat)} (h : IsY w cs f l) (F : Fr NoB w w') : IsY w' cs f l := by
  obtain ⟨p, lo, hi, rfl, h2, h3⟩ := h
  exact ⟨p, lo, hi, rfl, Nat.le_trans h2 F.size, h3.fr F h2 (fun _ _ _ x => x)⟩
structure FineY (f : Fy) (l : List (Fy × Nat)) : Prop where
  ok : f.Ok
  len : l.length ≤ 140737488355328
  oks : ∀ q ∈ l, q.1.Ok
theorem ysize_of {cs : Array Value} (h : cs.size = 22) : (Tryd.prog.info? 43).map (·.size) = some cs.size := by rw [h]; exact rsize22
theorem y_wide {w : World} {cs : Array Value} {f : Fy} {l : List (Fy × Nat)} (h : IsY w cs f l) (hf : FineY f l) : Calls Tryd.prog 14 #[.agg cs] w fun e w' => IsBool e ∧ Fr NoB w w' := by
  obtain ⟨p, lo, hi, rfl, h2, h3⟩ := h
  exact wide_calls f p l lo hi w h3.parts h2 hf.len
theorem y_put {w : World} {cs : Array Value} {f : Fy} {l : List (Fy × Nat)} (h : IsY w cs f l) (hf : FineY f l) : Calls Tryd.prog 15 #[.agg cs] w fun e w' => ∃ A c, e = .returned (.tuple #[.slice A (putY f l).1.length c, .int .i64 (putY f l).2]) ∧ (putY f l).1.length ≤ c ∧ c ≤ maxLen ∧ w'.ownsRow w.heap.size 5 1 (.slice A (putY f l).1.length c) (putY f l).1.length (bv (putY f l).1) ∧ Fr NoB w w' := by
  obtain ⟨p, lo, hi, rfl, h2, h3⟩ := h
  refine (yput_calls f p l lo hi w hf.ok hf.oks hf.len h3 h2).mono ?_
  rintro e w' ⟨v, rfl, ho, hf⟩
  obtain ⟨A, c, rfl, n1, n2⟩ := own_form ho
  exact ⟨A, c, rfl, n1, n2, ho, hf⟩
theorem y_get (A : Option Addr) (b : List UInt8) (c lo : Nat) (w : World) (h : Rd w lo w.heap.size A b) (hl : b.length ≤ 140737488355328) : Calls Tryd.prog 23 #[.slice A b.length c] w fun e w' => ∃ cs f l zz, e = .returned (.tuple #[.agg cs, .int .i64 zz]) ∧ ((getY b = some (f, l) ∧ zz = 0) ∨ (getY b = none ∧ f = fy0 ∧ l = [] ∧ zz = 4)) ∧ IsY w' cs f l ∧ Fr NoB w w' := by
  refine (ygetR_calls A b c lo w.heap.size w h (Nat.le_refl _) hl).mono ?_
  rintro e w' ⟨f, pl, l, zz, rfl, hg, hgot, fr⟩
  refine ⟨ycells f pl l.length, f, l, zz, rfl, ?_, ⟨pl, _, _, rfl, Nat.le_refl _, hgot.rd⟩, fr⟩
  rcases hg with h | ⟨h1, h2, h3, -, h5⟩
  · exact .inl h
  · exact .inr ⟨h1, h2, h3, h5⟩
theorem y_same {w : World} {cs cs' : Array Value} {f : Fy} {l : List (Fy × Nat)} (h : IsY w cs f l) (h' : IsY w cs' f l) (hf : FineY f l) (ht : ∀ t ∈ f.ls, t.length ≤ 140737488351232) (hz : ∀ q ∈ l, q.2 = 0 ∧ ∀ t ∈ q.1.ls, t.length ≤ 140737488351232) : Calls Tryd.prog 24 #[.agg cs, .agg cs'] w fun e w' => e = .returned (.bool true) ∧ Fr NoB w w' := by
  obtain ⟨p, lo, hi, rfl, h2, h3⟩ := h
  obtain ⟨p', lo', hi', rfl, h2', h3'⟩ := h'
  exact sameY_calls f p p' l lo hi lo' hi' w ⟨hf.ok, ht⟩ (fun q hq => ⟨⟨hf.oks q hq, (hz q hq).2⟩, (hz q hq).1⟩) hf.len h3 h2 h3' h2'
theorem fy0_ok : fy0.Ok := by
  constructor
  · decide
  · intro n hn; simp only [fy0, List.mem_cons, List.not_mem_nil, or_false] at hn; rcases hn with rfl | rfl | rfl | rfl | rfl <;> (unfold OkI; omega)
  · decide
  · intro n hn; simp only [fy0, List.mem_cons, List.not_mem_nil, or_false] at hn; rcases hn with rfl | rfl | rfl | rfl | rfl | rfl | rfl | rfl | rfl | rfl <;> (unfold OkI; omega)
  · decide
  · show OkI 0; unfold OkI; omega
  · decide
  · decide
  · decide
  · decide
theorem zeroY_is (w : World) : IsY w (ycells fy0 py0 0) fy0 [] := ⟨py0, 0, 0, rfl, Nat.zero_le _, Rd.nil _ _ _ _, RdT.nil _ _ _ _, RdM.nil' _ _ _ _, RdPy.nil _ _ _ _⟩
theorem zeroY_fine : FineY fy0 [] := ⟨fy0_ok, by simp, fun q hq => absurd hq (by simp)⟩
set_option maxRecDepth 20000 in
theorem ev_eql (k so z : Int) (s : ByteArray) (W : World) : (binOp .eql 46 (.agg #[.int .u8 k, .int .u8 so, .string s, .int .i64 z]) (.agg #[.int .u8 k, .int .u8 so, .string s, .int .i64 z])).run Tryd.prog W = .ok (.bool true) W := by
  obtain ⟨d, hd⟩ : ∃ d, 10000 = d + 1 + 1 + 1 := ⟨9997, rfl⟩
  rw [run_eql_struct, hd, run_equalIn_agg W _ 46 _ _ (by kernel_rfl) (by kernel_rfl)]
  have hf : (Program.fieldsOf Tryd.prog 46) = (match Tryd.prog.underlying 46 with | some (.struct fs) => fs | _ => #[]) := rfl
  rw [Tryd.underlying46] at hf
  rw [hf]
  simp [go_sem, Tryd.underlying44, Tryd.underlying24, Tryd.underlying9, Tryd.underlying25]
theorem same_again (A A' : Option Addr) (l : List UInt8) (c c' lo hi lo' hi' : Nat) (w : World) (h : Rd w lo hi A l) (h' : Rd w lo' hi' A' l) (hl : l.length ≤ 140737488355328) : Calls Tryd.prog 13 #[.slice A l.length c, .slice A' l.length c'] w fun e w' => e = .returned (.bool true) ∧ Fr NoB w w' := by
  have hs := same_calls A A' l l c c' lo hi lo' hi' w h h' hl hl
  rw [show (l == l) = true by simp] at hs
  refine hs.mono ?_
  rintro e w' ⟨rfl, n, rfl⟩
  exact ⟨rfl, (Fr.refl NoB w).drewN n⟩
end Go.Proofs.YtlckgkpgllhpbaaDoor
