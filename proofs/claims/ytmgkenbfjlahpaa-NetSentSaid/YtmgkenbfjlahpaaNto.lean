/-
  Nto: the document's net: one row of packets; Count, place.
-/
import Derived.Test.YtmgkenbfjlahpaaNtl
import Derived.Test.YtmgkenbfjlahpaaNtn
namespace Go.Proofs.Ytmgkenbfjlahpaa
open Go.RowKit Go.WideMaps Go.Sort

/-- The packets' cells. -/
def pc (x : Lk × Pk) : List Value := [.int .i64 x.1.1, .int .i64 x.1.2, x.2.val]
def pcs (V : PkV) : List Value := V.flatMap pc
theorem pcs_cons (x : Lk × Pk) (V : PkV) : pcs (x :: V) = .int .i64 x.1.1 :: .int .i64 x.1.2 :: x.2.val :: pcs V := rfl
theorem pcs_append (a b : PkV) : pcs (a ++ b) = pcs a ++ pcs b := by simp [pcs]
theorem pcs_len (V : PkV) : (pcs V).length = V.length * 3 := by
  induction V with
  | nil => rfl
  | cons x V ih => rw [pcs_cons]; simp only [List.length_cons, ih]; omega
theorem pcs_one (V : PkV) : ∀ v ∈ pcs V, v.oneCell' = true := by
  intro v hv
  obtain ⟨x, _, hx⟩ := List.mem_flatMap.1 hv
  simp only [pc, List.mem_cons, List.not_mem_nil, or_false] at hx
  rcases hx with rfl | rfl | rfl <;> rfl
theorem pcs_get : ∀ (V : PkV) (i : Nat) (x : Lk × Pk), V[i]? = some x → (pcs V)[i * 3]? = some (.int .i64 x.1.1) ∧ (pcs V)[i * 3 + 1]? = some (.int .i64 x.1.2) ∧ (pcs V)[i * 3 + 2]? = some x.2.val
  | [], _, _, h => by simp at h
  | y :: V, 0, x, h => by simp only [List.getElem?_cons_zero, Option.some.injEq] at h; subst h; exact ⟨rfl, rfl, rfl⟩
  | y :: V, i + 1, x, h => by
    have h2 := pcs_get V i x (by simpa using h)
    rw [pcs_cons, show (i + 1) * 3 = i * 3 + 1 + 1 + 1 by omega]
    exact h2
theorem pcs_take (V : PkV) (i : Nat) : (pcs V).take (i * 3) = pcs (V.take i) := by
  induction V generalizing i with
  | nil => simp [pcs]
  | cons x V ih =>
    cases i with
    | zero => simp [pcs]
    | succ i => rw [pcs_cons, List.take_succ_cons, pcs_cons, show (i + 1) * 3 = i * 3 + 1 + 1 + 1 by omega, List.take_succ_cons, List.take_succ_cons, List.take_succ_cons, ih]
theorem pcs_drop (V : PkV) (i : Nat) : (pcs V).drop (i * 3) = pcs (V.drop i) := by
  induction V generalizing i with
  | nil => simp [pcs]
  | cons x V ih =>
    cases i with
    | zero => simp
    | succ i => rw [pcs_cons, List.drop_succ_cons, show (i + 1) * 3 = i * 3 + 1 + 1 + 1 by omega, List.drop_succ_cons, List.drop_succ_cons, List.drop_succ_cons, ih]

/-- The document's net at p has these packets, in blocks of O. -/
structure RS (w : World) (p : Nat) (v : Value) (V : PkV) (O : Nat → Prop) : Prop where
  box : w.heap[p]? = some (.cells #[v] 84 (0, 0))
  row : w.ownsRow 0 86 3 v V.length (pcs V)
  pk : ∀ x ∈ V, w.ownsRow 0 5 1 x.2.val x.2.l.length (bv x.2.l)
  op : O p
  ov : ∀ g, v.ownBlock = some g → O g
  ox : ∀ x ∈ V, ∀ g, x.2.val.ownBlock = some g → O g
  lt : ∀ g, O g → g < w.heap.size
  lens : ∀ x ∈ V, x.2.l.length ≤ 1048576
theorem RS.fr {M : Nat → Prop} {w w' : World} {p : Nat} {v : Value} {V : PkV} {O : Nat → Prop} (h : RS w p v V O) (f : Fr M w w') (hm : ∀ g, O g → ¬ M g) : RS w' p v V O :=
  ⟨f.at_ h.box (hm _ h.op), ownBlock_kept h.row f (fun g hg => hm g (h.ov g hg)), fun x hx => ownBlock_kept (h.pk x hx) f (fun g hg => hm g (h.ox x hx g hg)), h.op, h.ov, h.ox, fun g hg => Nat.lt_of_lt_of_le (h.lt g hg) f.size, h.lens⟩
theorem RS.cell {w : World} {p : Nat} {v : Value} {V : PkV} {O : Nat → Prop} (h : RS w p v V O) : w.cell? ⟨p, 0, none⟩ = some v := by
  rw [Lib.cell_of_heap h.box]; rfl
/-- What lies at a place. -/
theorem RS.at_ {w : World} {p g n c : Nat} {V : PkV} {O : Nat → Prop} (h : RS w p (.slice (some ⟨g, 0, none⟩) n c) V O) {i : Nat} {x : Lk × Pk} (hx : V[i]? = some x) :
    w.cell? ⟨g, i * 3, none⟩ = some (.int .i64 x.1.1) ∧ w.cell? ⟨g, i * 3 + 1, none⟩ = some (.int .i64 x.1.2) ∧ w.cell? ⟨g, i * 3 + 2, none⟩ = some x.2.val := by
  obtain ⟨h0, h1, h2⟩ := pcs_get V i x hx
  have k := h.row.cells (g := g) rfl
  have k0 := k _ _ h0
  have k1 := k _ _ h1
  have k2 := k _ _ h2
  rw [Lib.addr_add, Nat.zero_add] at k0 k1 k2
  exact ⟨k0, k1, k2⟩

set_option maxHeartbeats 3200000 in
theorem rcount_calls {w : World} {p : Nat} {v : Value} {V : PkV} {O : Nat → Prop} (h : RS w p v V O) (a b : Int) (hl : V.length ≤ 1000000000) :
    Calls Try.prog 22 #[.pointer (some ⟨p, 0, none⟩), .int .i64 a, .int .i64 b] w fun e w' => e = .returned (.int .i64 ((bag V (a, b)).length : Int)) ∧ w = w' := by
  obtain ⟨A, c, rfl, -, -⟩ := nown_form4 h.row
  have hc := h.cell
  have H := Lib.hid h
  clear h
  go_enter Try.func22, Try.ntmps22
  go_wp2
  go_loopw [7, 8] (fun s i W => ∃ j : Nat, j ≤ V.length ∧ i = .int .i64 (j : Int) ∧ s = .int .i64 ((bag (V.take j) (a, b)).length : Int) ∧ w = W) (fun _ i _ => V.length - (intOf i).toNat)
  case atStart => exact ⟨0, Nat.zero_le _, rfl, rfl, rfl⟩
  case round =>
    obtain ⟨j, hj, rfl, rfl, rfl⟩ := hrel
    by_cases hlt : j < V.length
    · have hji : (j : Int) < (V.length : Int) := by omega
      have hj0 : (0 : Int) ≤ (j : Int) := by omega
      obtain ⟨g, c', hv⟩ := own_some H.out.row (by omega)
      cases hv
      obtain ⟨⟨⟨x1, x2⟩, x⟩, hx⟩ : ∃ x, V[j] = x := ⟨_, rfl⟩
      have hgx : V[j]? = some ((x1, x2), x) := by rw [List.getElem?_eq_getElem hlt, hx]
      obtain ⟨k0, k1, -⟩ := H.out.at_ hgx
      have hst : V.take (j + 1) = V.take j ++ [((x1, x2), x)] := by rw [List.take_succ_eq_append_getElem hlt, hx]
      have hbl : (bag (V.take j) (a, b)).length ≤ j := Nat.le_trans (bag_len _ _) (by rw [List.length_take]; omega)
      simp only at k0 k1
      by_cases e1 : x1 = a
      · subst e1
        by_cases e2 : x2 = b
        · subst e2
          have hb : (bag (V.take (j + 1)) (x1, x2)).length = (bag (V.take j) (x1, x2)).length + 1 := by rw [hst, bag_snoc_same]; simp
          generalize (bag (V.take j) (x1, x2)).length = m at hb hbl ⊢
          go_wp2
          go_roundw
          case rel => exact ⟨j + 1, by omega, by go_num, by rw [hb]; go_num, trivial⟩
          case measure => simp [intOf]; omega
        · have hb : (bag (V.take (j + 1)) (x1, b)).length = (bag (V.take j) (x1, b)).length := by rw [hst, bag_snoc_other _ (fun e => e2 (Prod.mk.inj e).2)]
          have hq : (x2 == b) = false := by simpa using e2
          generalize (bag (V.take j) (x1, b)).length = m at hb hbl ⊢
          go_wp2
          go_roundw
          case rel => exact ⟨j + 1, by omega, by go_num, by rw [hb], trivial⟩
          case measure => simp [intOf]; omega
      · have hb : (bag (V.take (j + 1)) (a, b)).length = (bag (V.take j) (a, b)).length := by rw [hst, bag_snoc_other _ (fun e => e1 (Prod.mk.inj e).1)]
        have hq : (x1 == a) = false := by simpa using e1
        generalize (bag (V.take j) (a, b)).length = m at hb hbl ⊢
        go_wp2
        go_roundw
        case rel => exact ⟨j + 1, by omega, by go_num, by rw [hb], trivial⟩
        case measure => simp [intOf]; omega
    · obtain rfl : j = V.length := by omega
      rw [List.take_length]
      go_wp2
      go_ret
      exact ⟨rfl, rfl⟩
end Go.Proofs.Ytmgkenbfjlahpaa
