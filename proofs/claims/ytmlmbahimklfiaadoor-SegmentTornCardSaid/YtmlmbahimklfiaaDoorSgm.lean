/-
  Sgm: where a scan's own boxes stand, one by one.
-/
import Derived.Test.YtmlmbahimklfiaaDoorSgq
import Derived.Test.YtmlmbahimklfiaaDoorSgx
import Derived.Test.YtmlmbahimklfiaaDoorDev
namespace Go.Proofs.YtmlmbahimklfiaaDoor
open Go.RowKit Go.Shelf

theorem J_oneH {P : Program} {ops : Array Oper} {Q : Exit → Act → World → Prop} {i : Nat} {o : Oper} {K : Act → World → Prop} {a : Act} {w : World} (ho : ops[i]? = some o) (hg : o.guard = none) (h : ∀ K' : Act → World → Prop, Hid (∀ a w, K a w → K' a w) → o.wp P a w K' Q) : wpOp P ops Q i K a w := J_one ho hg (h K (Lib.hid fun _ _ x => x))
theorem info_int : (Tryd.prog.info? 3).map (fun i => (i.zero, i.size, i.bytes)) = some (some (.int .i64 0), 1, 8) := by kernel_rfl
theorem yieldsIf_load_row {P : Program} {ops : Array Oper} {S : World → Prop} {op : Oper} {a : Act} (hw : Region.wanted op (yielded ops a.tmps) = true) (ty : TypeId) (x : Operand) (ho : op.op = .load ty x)
    (g : Nat) (hx : a.eval x = .pointer (some ⟨g, 0, none⟩)) (t : TypeId) (cs : Array Value) (fr : Nat × Nat) (d : TypeDesc) (hS : ∀ w, S w → w.heap[g]? = some (.cells cs t fr))
    (hu : P.underlying ty = some d) (hd : (match d with | .struct _ | .array _ _ => true | _ => false) = true) (hi : (P.info? ty).map (·.size) = some cs.size) : YieldsIf P ops S op (.agg cs) a :=
  .inl ⟨hw, fun w hw' => by
    unfold execOp
    simp only [ho, hx, Instr.loadAt, Instr.sureAddr, Sem.run_bind, Sem.run_pure, Result.andThen_ok, run_loadVar_row w g t ty cs fr d (hS w hw') hu hd hi]⟩
/-- The ends, as numbers. -/
def endZ (ds : List De) : List Int := (endsOf 0 ds).map fun e : Nat => (e : Int)
/-- Where a scan's own boxes stand. -/
structure XS (w0 : World) (ds : List De) (W : World) : Prop where
  fr : Fr NoB w0 W
  e : ∃ V U LL, W.heap[w0.heap.size]? = some (.cells #[V] 27 (0, 0)) ∧ W.heap[w0.heap.size + 1]? = some (.cells #[U] 28 (0, 0)) ∧ LL.map (·.1) = ds ∧ DE (w0.heap.size + 7) W V U LL (endZ ds)
  at_ : W.heap[w0.heap.size + 2]? = some (.cells #[.int .i64 ((segB ds).length : Int)] 3 (0, 0))
  last : W.heap[w0.heap.size + 3]? = some (.cells #[.int .i64 (lastZ 0 ds)] 24 (0, 0))
  dfr : W.heap[w0.heap.size + 5]? = some (.deferred (some []))
theorem XS.any {w0 W W' : World} {ds : List De} {M : Nat → Prop} (h : XS w0 ds W) (f : Fr M W W') (hm : ∀ k, M k → k = w0.heap.size + 4 ∨ k = w0.heap.size + 6) : XS w0 ds W' := by
  obtain ⟨V, U, LL, h1, h2, h3, h4⟩ := h.e
  have hn : ∀ j, j ≠ 4 → j ≠ 6 → ¬ M (w0.heap.size + j) := fun j h4 h6 hx => by rcases hm _ hx with h | h <;> omega
  exact ⟨h.fr.upE f (fun k hk => by rcases hm k hk with h | h <;> omega), ⟨V, U, LL, f.at_ h1 (hn 0 (by omega) (by omega)), f.at_ h2 (hn 1 (by omega) (by omega)), h3, h4.keep f (fun k hk => .inl (by rcases hm k hk with h | h <;> omega))⟩, f.at_ h.at_ (hn 2 (by omega) (by omega)), f.at_ h.last (hn 3 (by omega) (by omega)), f.at_ h.dfr (hn 5 (by omega) (by omega))⟩
theorem XS.bears (w0 : World) : Bears2 (XS w0) (w0.heap.size + 4) (w0.heap.size + 6) where
  fr := fun _ _ _ h f => h.any f (fun _ x => x.elim)
  set := fun _ W u h => h.any ((Fr.refl (OneB (w0.heap.size + 4)) W).setCell (p := ⟨w0.heap.size + 4, 0, none⟩) (fun _ => rfl) u) (fun _ x => .inl x)
  put := fun _ W L h => h.any (fr_putObj W (w0.heap.size + 6) (.loop L)) (fun _ x => .inr x)

/-- The boxes, the rows under way, the loop's record. -/
structure MM (w0 W : World) (lo hi : Nat) (q : List UInt8) (L : Loop) (V0 U0 : Value) (a z : Int) (V U : Value) (LL : List (De × Pl)) (es : List Int) : Prop where
  fr : Fr NoB w0 W
  v : W.heap[w0.heap.size]? = some (.cells #[V0] 27 (0, 0))
  u : W.heap[w0.heap.size + 1]? = some (.cells #[U0] 28 (0, 0))
  at_ : W.heap[w0.heap.size + 2]? = some (.cells #[.int .i64 a] 3 (0, 0))
  last : W.heap[w0.heap.size + 3]? = some (.cells #[.int .i64 z] 24 (0, 0))
  box : ∃ A c, W.heap[w0.heap.size + 4]? = some (.cells #[.slice A q.length c] 22 (0, 0)) ∧ q.length ≤ c ∧ c ≤ maxLen ∧ Rd W lo hi A q
  dfr : W.heap[w0.heap.size + 5]? = some (.deferred (some []))
  lp : W.heap[w0.heap.size + 6]? = some (.loop L)
  hb : hi ≤ w0.heap.size
  de : DE (w0.heap.size + 7) W V U LL es
theorem MM.of {w0 W : World} {lo hi : Nat} {q : List UInt8} {L : Loop} {ds : List De} (hh : hi ≤ w0.heap.size) (h : FB (XS w0) (w0.heap.size + 4) (w0.heap.size + 6) lo hi q ds L W) : ∃ V U LL, LL.map (·.1) = ds ∧ MM w0 W lo hi q L V U ((segB ds).length : Int) (lastZ 0 ds) V U LL (endZ ds) := by
  obtain ⟨V, U, LL, h1, h2, h3, h4⟩ := h.x.e
  exact ⟨V, U, LL, h3, h.x.fr, h1, h2, h.x.at_, h.x.last, h.box, h.x.dfr, h.lp, hh, h4⟩
theorem MM.fb {w0 W : World} {lo hi : Nat} {q : List UInt8} {L : Loop} {ds : List De} {V U : Value} {LL : List (De × Pl)} (h : MM w0 W lo hi q L V U ((segB ds).length : Int) (lastZ 0 ds) V U LL (endZ ds)) (e : LL.map (·.1) = ds) : FB (XS w0) (w0.heap.size + 4) (w0.heap.size + 6) lo hi q ds L W :=
  ⟨⟨h.fr, ⟨V, U, LL, h.v, h.u, e, h.de⟩, h.at_, h.last, h.dfr⟩, h.box, h.lp, Nat.le_trans h.hb (by omega), by omega, Nat.le_trans h.hb (by omega)⟩
section
variable {w0 W W' : World} {lo hi : Nat} {q : List UInt8} {L : Loop} {V0 U0 V U : Value} {a z : Int} {LL : List (De × Pl)} {es : List Int}
theorem MM.keep {V' U' : Value} {LL' : List (De × Pl)} {es' : List Int} {M : Nat → Prop} (h : MM w0 W lo hi q L V0 U0 a z V U LL es) (f : Fr M W W') (hm : ∀ k, M k → w0.heap.size + 7 ≤ k) (hd : DE (w0.heap.size + 7) W' V' U' LL' es') : MM w0 W' lo hi q L V0 U0 a z V' U' LL' es' := by
  have hn : ∀ j, j < 7 → ¬ M (w0.heap.size + j) := fun j hj hx => by have := hm _ hx; omega
  obtain ⟨A, c, h1, h2, h3, h4⟩ := h.box
  have hlt := Lib.lt_of_heap h1
  have hb := h.hb
  exact ⟨h.fr.upE f (fun k hk => by have := hm k hk; omega), f.at_ h.v (hn 0 (by omega)), f.at_ h.u (hn 1 (by omega)), f.at_ h.at_ (hn 2 (by omega)), f.at_ h.last (hn 3 (by omega)),
    ⟨A, c, f.at_ h1 (hn 4 (by omega)), h2, h3, h4.fr f (by omega) (fun k _ hk hx => by have := hm k hx; omega)⟩, f.at_ h.dfr (hn 5 (by omega)), f.at_ h.lp (hn 6 (by omega)), hb, hd⟩
theorem MM.no (h : MM w0 W lo hi q L V0 U0 a z V U LL es) (f : Fr NoB W W') : MM w0 W' lo hi q L V0 U0 a z V U LL es := h.keep f (fun _ x => x.elim) (h.de.then f)
theorem MM.app {V' U' : Value} {LL' : List (De × Pl)} {es' : List Int} {n0 e size N : Nat} {X : Value} {ys : List Value} {X' : Value} (h : MM w0 W lo hi q L V0 U0 a z V U LL es) (hA : App n0 e size X N ys W X' W') (hX : X = V ∨ X = U) (hd : DE (w0.heap.size + 7) W' V' U' LL' es') : MM w0 W' lo hi q L V0 U0 a z V' U' LL' es' :=
  h.keep hA.fr (fun k hk => by
    rcases hX with rfl | rfl
    · exact (h.de.own.lt k hk).1
    · exact (h.de.ends.lt k hk).1) hd
theorem MM.store (h : MM w0 W lo hi q L V0 U0 a z V U LL es) (j : Nat) (hj : j < 4) (x : Value) : ∃ W', W.setCell ⟨w0.heap.size + j, 0, none⟩ x = W' ∧ Fr (OneB (w0.heap.size + j)) W W' ∧ (∀ i, i ≠ j → W'.heap[w0.heap.size + i]? = W.heap[w0.heap.size + i]?) ∧ (∃ A c, W'.heap[w0.heap.size + 4]? = some (.cells #[.slice A q.length c] 22 (0, 0)) ∧ q.length ≤ c ∧ c ≤ maxLen ∧ Rd W' lo hi A q) ∧ Fr NoB w0 W' ∧ DE (w0.heap.size + 7) W' V U LL es := by
  have f : Fr (OneB (w0.heap.size + j)) W (W.setCell ⟨w0.heap.size + j, 0, none⟩ x) := (Fr.refl (OneB (w0.heap.size + j)) W).setCell (p := ⟨w0.heap.size + j, 0, none⟩) (fun _ => rfl) _
  refine ⟨_, rfl, f, fun i hi => heap_far (by omega) _ _, ?_, h.fr.upE f (fun k hk => by simp only [OneB] at hk; omega), h.de.keep f (fun k hk => .inl (by simp only [OneB] at hk; omega))⟩
  obtain ⟨A, c, h1, h2, h3, h4⟩ := h.box
  have hlt := Lib.lt_of_heap h1
  have hb := h.hb
  exact ⟨A, c, (heap_far (by omega) _ _).trans h1, h2, h3, h4.fr f (by omega) (fun k _ hk hx => by simp only [OneB] at hx; omega)⟩
theorem MM.setV (h : MM w0 W lo hi q L V0 U0 a z V U LL es) (x : Value) : MM w0 (W.setCell ⟨w0.heap.size, 0, none⟩ x) lo hi q L x U0 a z V U LL es := by
  obtain ⟨W', e, f, hn, hbx, hf, hd⟩ := h.store 0 (by omega) x
  rw [Nat.add_zero] at e f
  rw [e]
  exact ⟨hf, by rw [← e, heap_set h.v]; rfl, (hn 1 (by omega)).trans h.u, (hn 2 (by omega)).trans h.at_, (hn 3 (by omega)).trans h.last, hbx, (hn 5 (by omega)).trans h.dfr, (hn 6 (by omega)).trans h.lp, h.hb, hd⟩
theorem MM.setU (h : MM w0 W lo hi q L V0 U0 a z V U LL es) (x : Value) : MM w0 (W.setCell ⟨w0.heap.size + 1, 0, none⟩ x) lo hi q L V0 x a z V U LL es := by
  obtain ⟨W', e, f, hn, hbx, hf, hd⟩ := h.store 1 (by omega) x
  rw [e]
  exact ⟨hf, (hn 0 (by omega)).trans h.v, by rw [← e, heap_set h.u]; rfl, (hn 2 (by omega)).trans h.at_, (hn 3 (by omega)).trans h.last, hbx, (hn 5 (by omega)).trans h.dfr, (hn 6 (by omega)).trans h.lp, h.hb, hd⟩
theorem MM.setA (h : MM w0 W lo hi q L V0 U0 a z V U LL es) (x : Int) : MM w0 (W.setCell ⟨w0.heap.size + 2, 0, none⟩ (.int .i64 x)) lo hi q L V0 U0 x z V U LL es := by
  obtain ⟨W', e, f, hn, hbx, hf, hd⟩ := h.store 2 (by omega) (.int .i64 x)
  rw [e]
  exact ⟨hf, (hn 0 (by omega)).trans h.v, (hn 1 (by omega)).trans h.u, by rw [← e, heap_set h.at_]; rfl, (hn 3 (by omega)).trans h.last, hbx, (hn 5 (by omega)).trans h.dfr, (hn 6 (by omega)).trans h.lp, h.hb, hd⟩
theorem MM.setZ (h : MM w0 W lo hi q L V0 U0 a z V U LL es) (x : Int) : MM w0 (W.setCell ⟨w0.heap.size + 3, 0, none⟩ (.int .i64 x)) lo hi q L V0 U0 a x V U LL es := by
  obtain ⟨W', e, f, hn, hbx, hf, hd⟩ := h.store 3 (by omega) (.int .i64 x)
  rw [e]
  exact ⟨hf, (hn 0 (by omega)).trans h.v, (hn 1 (by omega)).trans h.u, (hn 2 (by omega)).trans h.at_, by rw [← e, heap_set h.last]; rfl, hbx, (hn 5 (by omega)).trans h.dfr, (hn 6 (by omega)).trans h.lp, h.hb, hd⟩
/-- What is at hand while the two rows grow: the boxes still hold what they held, the deed stands in its block. -/
def Cd (w0 : World) (D : Nat) (V0 U0 : Value) (a : Int) (cs : Array Value) (W : World) : Prop :=
  W.cell? ⟨w0.heap.size, 0, none⟩ = some V0 ∧ W.cell? ⟨w0.heap.size + 1, 0, none⟩ = some U0 ∧ W.cell? ⟨w0.heap.size + 2, 0, none⟩ = some (.int .i64 a) ∧ W.heap[D]? = some (.cells cs 35 (0, 0))
theorem MM.cd {D : Nat} {cs : Array Value} (h : MM w0 W lo hi q L V0 U0 a z V U LL es) (hD : W.heap[D]? = some (.cells cs 35 (0, 0))) : Cd w0 D V0 U0 a cs W := ⟨(cells_of h.v 0).1, (cells_of h.u 0).1, (cells_of h.at_ 0).1, hD⟩
end
end Go.Proofs.YtmlmbahimklfiaaDoor
