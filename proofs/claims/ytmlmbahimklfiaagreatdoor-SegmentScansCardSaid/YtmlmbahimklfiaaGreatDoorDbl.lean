/-
  Dbl: a deed as one row of cells: what the program's functions do with it (the segment seat's).
-/
import Derived.Test.YtmlmbahimklfiaaGreatDoorDex
namespace Go.Proofs.YtmlmbahimklfiaaGreatDoor
open Go.RowKit

theorem bare0_ok : (bareF 0).Ok := bareF_ok 0
/-- Cells that are a deed's. -/
def IsD (w : World) (cs : Array Value) (f : Fd) (l : List (Fd × Nat)) : Prop := ∃ p lo hi, cs = dcells f p l.length ∧ hi ≤ w.heap.size ∧ RdD w lo hi f p l
theorem IsD.fr {w w' : World} {cs : Array Value} {f : Fd} {l : List (Fd × Nat)} (h : IsD w cs f l) (fr : Fr NoB w w') : IsD w' cs f l := by
  obtain ⟨p, lo, hi, h1, h2, h3⟩ := h
  exact ⟨p, lo, hi, h1, Nat.le_trans h2 fr.size, h3.fr fr h2 (fun _ _ _ x => x)⟩
theorem IsD.size {w : World} {cs : Array Value} {f : Fd} {l : List (Fd × Nat)} (h : IsD w cs f l) : cs.size = 16 := by
  obtain ⟨p, lo, hi, rfl, h2, h3⟩ := h
  rfl
theorem IsD.one {w : World} {cs : Array Value} {f : Fd} {l : List (Fd × Nat)} (h : IsD w cs f l) : cs.all (·.oneCell') = true := by
  obtain ⟨p, lo, hi, rfl, h2, h3⟩ := h
  simp [dcells, Value.oneCell']
/-- No deed's cells. -/
def zcs : Array Value := dcells (bareF 0) pl0 0
theorem zcs_is (w : World) : IsD w zcs (bareF 0) [] := ⟨pl0, 0, 0, rfl, Nat.zero_le _, Rd.nil _ _ _ _, RdM.nil' _ _ _ _, RdP.nil _ _ _ _⟩
/-- A deed whose parts have none. -/
structure Fine (f : Fd) (l : List (Fd × Nat)) : Prop where
  ok : f.Ok
  parts : ∀ q ∈ l, q.1.Ok ∧ q.2 = 0
  len : l.length ≤ 140737488355328
theorem b_put {w : World} {cs : Array Value} {f : Fd} {l : List (Fd × Nat)} (h : IsD w cs f l) (hl : l.length ≤ 140737488355328) (hf : f.Ok) (hok : ∀ q ∈ l, q.1.Ok ∧ q.2 ≤ 140737488355328) (hH : Has w) :
    Calls Tryz.prog 25 #[.agg cs] w fun e w' => ∃ A c, e = .returned (.tuple #[.slice A (putD f l).1.length c, .int .i64 (putD f l).2]) ∧ (putD f l).1.length ≤ c ∧ c ≤ maxLen ∧ Rd w' w.heap.size w'.heap.size A (putD f l).1 ∧ Fr NoB w w' := by
  obtain ⟨p, lo, hi, rfl, h2, h3⟩ := h
  refine (dput_calls f p l lo hi w hf hok hl h3 h2 hH).mono ?_
  rintro e w' ⟨v, rfl, ho, hf⟩
  obtain ⟨A, c, rfl, n1, n2⟩ := own_form ho
  exact ⟨A, c, rfl, n1, n2, own_rd ho, hf⟩
theorem b_right {w : World} {cs : Array Value} {f : Fd} {l : List (Fd × Nat)} (h : IsD w cs f l) (hl : l.length ≤ 140737488355328) (hf : f.Ok) (hok : ∀ q ∈ l, q.1.Ok ∧ q.2 ≤ 140737488355328) (hH : Has w) :
    Calls Tryz.prog 46 #[.agg cs] w fun e w' => e = .returned (.bool (decide (Right f l))) ∧ Fr NoB w w' := by
  obtain ⟨p, lo, hi, rfl, h2, h3⟩ := h
  exact right_calls f p l lo hi w hf hl hok h3 h2 hH
theorem b_get (A : Option Addr) (b : List UInt8) (c lo hi : Nat) (w : World) (h : Rd w lo hi A b) (hh : hi ≤ w.heap.size) (hl : b.length ≤ 140737488355328) (hH : Has w) :
    Calls Tryz.prog 30 #[.slice A b.length c] w fun e w' => ∃ cs f l zz, e = .returned (.tuple #[.agg cs, .int .i64 zz]) ∧ ((getD b = some (f, l) ∧ zz = 0) ∨ (getD b = none ∧ f = bareF 0 ∧ l = [] ∧ zz = 4)) ∧ IsD w' cs f l ∧ Fr NoB w w' := by
  refine (dget_calls A b c lo hi w h hh hl hH).mono ?_
  rintro e w' ⟨f, pl, l, zz, rfl, hg, hd, hf⟩
  refine ⟨dcells f pl l.length, f, l, zz, rfl, ?_, ⟨pl, _, _, rfl, Nat.le_refl _, hd.rd⟩, hf⟩
  rcases hg with h | ⟨h1, h2, h3, -, h5⟩
  · exact .inl h
  · exact .inr ⟨h1, h2, h3, h5⟩
theorem b_same {w : World} {cs cs' : Array Value} {f : Fd} {l : List (Fd × Nat)} (h : IsD w cs f l) (h' : IsD w cs' f l) (hf : Fine f l) :
    Calls Tryz.prog 33 #[.agg cs, .agg cs'] w fun e w' => e = .returned (.bool true) ∧ Fr NoB w w' := by
  obtain ⟨p, lo, hi, rfl, h2, h3⟩ := h
  obtain ⟨p', lo', hi', rfl, h2', h3'⟩ := h'
  exact sameD_calls f p p' l lo hi lo' hi' w hf.ok hf.parts hf.len h3 h2 h3' h2'
theorem Fine.bare : Fine (bareF 0) [] := ⟨bare0_ok, fun q hq => absurd hq (by simp), by simp⟩
theorem Fine.get {b : List UInt8} {f : Fd} {l : List (Fd × Nat)} (h : getD b = some (f, l)) : Fine f l := by
  obtain ⟨-, hr, hf, hl⟩ := getD_back h
  have := hr.parts.2.1
  exact ⟨hf, hl, by omega⟩
theorem Fine.wide {f : Fd} {l : List (Fd × Nat)} (h : Fine f l) : ∀ q ∈ l, q.1.Ok ∧ q.2 ≤ 140737488355328 := fun q hq => ⟨(h.parts q hq).1, by rw [(h.parts q hq).2]; omega⟩
theorem Fine.right {f : Fd} {l : List (Fd × Nat)} (h : Right f l) (hf : f.Ok) (hok : ∀ q ∈ l, q.1.Ok ∧ q.2 ≤ 140737488355328) : Fine f l := by
  obtain ⟨h1, h2, -⟩ := h.parts
  exact ⟨hf, fun q hq => ⟨(hok q hq).1, ((h1 q hq).low (by omega)).2.2.1⟩, by omega⟩

/-- What Get tells of a right deed's bytes. -/
theorem g_back {f : Fd} {l : List (Fd × Nat)} (hR : Right f l) (hf : Fine f l) (A : Option Addr) (c lo hi : Nat) (w : World) (h : Rd w lo hi A (deedB f l)) (hh : hi ≤ w.heap.size) (hH : Has w) :
    Calls Tryz.prog 30 #[.slice A (deedB f l).length c] w fun e w' => ∃ cs, e = .returned (.tuple #[.agg cs, .int .i64 0]) ∧ IsD w' cs f l ∧ Fr NoB w w' := by
  have hlen := deedB_len hR
  refine (b_get A _ c lo hi w h hh (by omega) hH).mono ?_
  rintro e w' ⟨cs, f', l', zz, rfl, hg, hd, hfr⟩
  rw [getD_front hR hf.ok (fun q hq => (hf.parts q hq).1)] at hg
  rcases hg with ⟨h1, rfl⟩ | ⟨h1, -⟩
  · simp only [Option.some.injEq, Prod.mk.injEq] at h1
    obtain ⟨rfl, rfl⟩ := h1
    exact ⟨cs, rfl, hd, hfr⟩
  · cases h1
/-- What Get tells of bytes that are no deed's. -/
theorem g_none {b : List UInt8} (hn : getD b = none) (A : Option Addr) (c lo hi : Nat) (w : World) (h : Rd w lo hi A b) (hh : hi ≤ w.heap.size) (hl : b.length ≤ 140737488355328) (hH : Has w) :
    Calls Tryz.prog 30 #[.slice A b.length c] w fun e w' => ∃ cs, e = .returned (.tuple #[.agg cs, .int .i64 4]) ∧ IsD w' cs (bareF 0) [] ∧ Fr NoB w w' := by
  refine (b_get A _ c lo hi w h hh hl hH).mono ?_
  rintro e w' ⟨cs, f', l', zz, rfl, hg, hd, hfr⟩
  rw [hn] at hg
  rcases hg with ⟨h1, -⟩ | ⟨-, rfl, rfl, rfl⟩
  · cases h1
  · exact ⟨cs, rfl, hd, hfr⟩
/-- What Get tells of a right deed's bytes with others behind them. -/
theorem g_more {f : Fd} {l : List (Fd × Nat)} (hR : Right f l) (hf : Fine f l) (r : List UInt8) (A : Option Addr) (c lo hi : Nat) (w : World) (h : Rd w lo hi A (deedB f l ++ r)) (hh : hi ≤ w.heap.size) (hl : (deedB f l ++ r).length ≤ 140737488355328) (hH : Has w) :
    Calls Tryz.prog 30 #[.slice A (deedB f l ++ r).length c] w fun e w' => ∃ cs hz, e = .returned (.tuple #[.agg cs, .int .i64 hz]) ∧ (hz == 0) = ((r.length : Int) == 0) ∧ (∃ f' l', IsD w' cs f' l') ∧ Fr NoB w w' := by
  by_cases hr : r = []
  · subst hr
    rw [List.append_nil] at h ⊢
    refine (g_back hR hf A c lo hi w h hh hH).mono ?_
    rintro e w' ⟨cs, rfl, h1, h2⟩
    exact ⟨cs, 0, rfl, rfl, ⟨_, _, h1⟩, h2⟩
  · have hr2 : ((r.length : Int) == 0) = false := by rw [beq_eq_false_iff_ne]; have := List.length_pos_iff.2 hr; omega
    rw [hr2]
    refine (g_none (getD_more hR hf.ok (fun q hq => (hf.parts q hq).1) hr) A c lo hi w h hh hl hH).mono ?_
    rintro e w' ⟨cs, rfl, h1, h2⟩
    exact ⟨cs, 4, rfl, rfl, ⟨_, _, h1⟩, h2⟩
/-- What is got of bytes is put as these bytes. -/
theorem p_back {b : List UInt8} {f : Fd} {l : List (Fd × Nat)} (hg : getD b = some (f, l)) {w : World} {cs : Array Value} (h : IsD w cs f l) (hH : Has w) :
    Calls Tryz.prog 25 #[.agg cs] w fun e w' => ∃ A c, e = .returned (.tuple #[.slice A b.length c, .int .i64 0]) ∧ b.length ≤ c ∧ c ≤ maxLen ∧ Rd w' w.heap.size w'.heap.size A b ∧ Fr NoB w w' := by
  have hfi := Fine.get hg
  obtain ⟨hb, hr, hf, hl⟩ := getD_back hg
  refine (b_put h hfi.len hfi.ok hfi.wide hH).mono ?_
  rw [show putD f l = (deedB f l, 0) from if_pos hr, hb]
  exact fun _ _ x => x
theorem r_back {b : List UInt8} {f : Fd} {l : List (Fd × Nat)} (hg : getD b = some (f, l)) {w : World} {cs : Array Value} (h : IsD w cs f l) (hH : Has w) :
    Calls Tryz.prog 46 #[.agg cs] w fun e w' => e = .returned (.bool true) ∧ Fr NoB w w' := by
  have hfi := Fine.get hg
  obtain ⟨hb, hr, hf, hl⟩ := getD_back hg
  refine (b_right h hfi.len hfi.ok hfi.wide hH).mono ?_
  rw [decide_eq_true hr]
  exact fun _ _ x => x
theorem cut_calls {f : Fd} {l : List (Fd × Nat)} (hR : Right f l) (hf : Fine f l) (A : Option Addr) (c q lo hi : Nat) (w : World) (h : Rd w lo hi A (deedB f l)) (hh : hi ≤ w.heap.size) (hq : q < (deedB f l).length) (hH : Has w) :
    Calls Tryz.prog 30 #[.slice A q c] w fun e w' => ∃ cs, e = .returned (.tuple #[.agg cs, .int .i64 4]) ∧ IsD w' cs (bareF 0) [] ∧ Fr NoB w w' := by
  have hlen := deedB_len hR
  have h2 := g_none (getD_cut hR hf.ok (fun q hq => (hf.parts q hq).1) hq) A c lo hi w h.take hh (by rw [List.length_take]; omega) hH
  rw [List.length_take, Nat.min_eq_left (Nat.le_of_lt hq)] at h2
  exact h2
theorem b_zero {w : World} {cs : Array Value} (h : IsD w cs (bareF 0) []) :
    Calls Tryz.prog 33 #[.agg cs, .agg #[.int .i64 0, .int .u8 0, .int .i64 0, .int .i64 0, .int .i64 0, .int .i64 0, .string ⟨#[]⟩, .slice none 0 0, .int .i64 0, .int .i64 0, .int .i64 0, .int .i64 0, .int .i64 0, .int .i64 0, .slice none 0 0, .slice none 0 0]] w fun e w' => e = .returned (.bool true) ∧ Fr NoB w w' :=
  b_same h (zcs_is w) Fine.bare
theorem size_of {cs : Array Value} (h : cs.size = 16) : (Tryz.prog.info? 31).map (·.size) = some cs.size := size16.trans (congrArg some h.symm)
theorem same_again (A A' : Option Addr) (b : List UInt8) (c c' lo hi lo' hi' : Nat) (w : World) (h : Rd w lo hi A b) (h' : Rd w lo' hi' A' b) (hb : b.length ≤ 140737488355328) :
    Calls Tryz.prog 9 #[.slice A b.length c, .slice A' b.length c'] w fun e w' => e = .returned (.bool true) ∧ Fr NoB w w' := by
  refine (same_calls A A' b b c c' lo hi lo' hi' w h h' hb hb).mono ?_
  rw [show (b == b) = true by simp]
  rintro e w' ⟨h, n, rfl⟩
  exact ⟨h, (Fr.refl NoB w).drewN n⟩
theorem held_load_on {P : Program} {ops : Array Oper} {Q : Exit → Act → World → Prop} {rest : List Oper} {a : Act} {w : World} {ty tp : TypeId} {x : Operand} {dst : Option Tmp} {ps : String} {af : Array Edge} {gd : Nat × Bool} (h : Held (wpList P ops Q ({ dst := dst, op := .load ty x, type := tp, pos := ps, after := af, guard := some gd } :: rest) a w)) : wpList P ops Q ({ dst := dst, op := .load ty x, type := tp, pos := ps, after := af, guard := some gd } :: rest) a w := h
theorem wpList_load_on {P : Program} {ops : Array Oper} {rest : List Oper} {o : Oper} {a : Act} {w : World} {Q : Exit → Act → World → Prop} (hw : Region.wanted o (yielded ops a.tmps)) (ty : TypeId) (x : Operand) (ho : o.op = .load ty x)
    (g : Nat) (hx : a.eval x = .pointer (some ⟨g, 0, none⟩)) (t : TypeId) (cs : Array Value) (fr : Nat × Nat) (d : TypeDesc) (hg : w.heap[g]? = some (.cells cs t fr))
    (hu : P.underlying ty = some d) (hd : (match d with | .struct _ | .array _ _ => true | _ => false) = true) (hi : (P.info? ty).map (·.size) = some cs.size)
    (h : wpList P ops Q rest (a.put o.dst (.agg cs)) w) : wpList P ops Q (o :: rest) a w :=
  wpList_step fun K hK => by rw [if_pos hw]; exact wp_load_row ty x ho g hx t cs fr d hg hu hd hi (hK _ _ h)
theorem deedB_pos (f : Fd) (l : List (Fd × Nat)) : 1 ≤ (deedB f l).length := by simp [deedB, headB]

theorem atoms {cs : Array Value} (h : cs.size = 16) : ∃ x0 x1 x2 x3 x4 x5 x6 x7 x8 x9 x10 x11 x12 x13 x14 x15, cs = #[x0, x1, x2, x3, x4, x5, x6, x7, x8, x9, x10, x11, x12, x13, x14, x15] := by
  obtain ⟨l⟩ := cs
  simp only [List.size_toArray] at h
  match l, h with
  | [x0, x1, x2, x3, x4, x5, x6, x7, x8, x9, x10, x11, x12, x13, x14, x15], _ => exact ⟨x0, x1, x2, x3, x4, x5, x6, x7, x8, x9, x10, x11, x12, x13, x14, x15, rfl⟩
end Go.Proofs.YtmlmbahimklfiaaGreatDoor
