/-
  Eop: configs that came in: a version and members; and lists of numbers.
-/
import Derived.Test.YtbgpgaekckfjlaaDoorRows
import Derived.Test.YtbgpgaekckfjlaaDoorOpen
import Derived.Test.YtbgpgaekckfjlaaDoorMem
import Derived.Deep.Slices
import Derived.Deep.Strs
import Derived.Lib.SmallJoins
namespace Go.Proofs.YtbgpgaekckfjlaaDoor
open Go.ChangeShapes Go.WideShapes Go.ChangeAt Go.RowKit Go.Deep Go.Joins

theorem bulkE_mem {H : Type} {d : DataW H} {l : List (DataW H)} (h : d ∈ l) : Rows.uptoBulk d ≤ Rows.uptoBulkAll l := by
  induction l with
  | nil => cases h
  | cons x l ih =>
    rw [Rows.uptoBulkAll]
    rcases List.mem_cons.1 h with rfl | h
    · omega
    · have := ih h; omega
theorem bulkE_len {H : Type} (l : List (DataW H)) : l.length ≤ Rows.uptoBulkAll l := by
  induction l with
  | nil => simp
  | cons x l ih =>
    have : 1 ≤ Rows.uptoBulk x := by
      cases x with
      | lit z => cases z <;> simp [Rows.uptoBulk]
      | _ => simp [Rows.uptoBulk]
    rw [Rows.uptoBulkAll, List.length_cons]
    omega
theorem bulkE_slice {H : Type} (a b : List (DataW H)) : a.length + 1 ≤ Rows.uptoBulk (DataW.slice a b) := by
  have := bulkE_len a
  rw [Rows.uptoBulk]; omega
theorem bulkE_agg_mem {H : Type} {x : DataW H} {a : List (DataW H)} (h : x ∈ a) : Rows.uptoBulk x ≤ Rows.uptoBulk (DataW.agg a) := by
  have := bulkE_mem h
  rw [Rows.uptoBulk]; omega
theorem list_of_at {α : Type} (n : Nat) (P : Nat → α → Prop) (h : ∀ i, i < n → ∃ x, P i x) : ∃ l : List α, l.length = n ∧ ∀ i x, l[i]? = some x → P i x := by
  induction n with
  | zero => exact ⟨[], rfl, fun i x h => by simp at h⟩
  | succ n ih =>
    obtain ⟨l, hl, hp⟩ := ih fun i hi => h i (by omega)
    obtain ⟨x, hx⟩ := h n (by omega)
    refine ⟨l ++ [x], by simp [hl], fun i y hy => ?_⟩
    by_cases hi : i < l.length
    · rw [List.getElem?_append_left hi] at hy
      exact hp i y hy
    · rw [List.getElem?_append_right (by omega)] at hy
      have h1 : i - l.length = 0 := by
        have := (List.getElem?_eq_some_iff.1 hy).1
        simp at this; omega
      rw [h1] at hy
      simp at hy
      obtain rfl : i = n := by omega
      rw [← hy]; exact hx

/-- What the machine's kinds hold of a member. -/
def MemR (m : Mem) : Prop := (-9223372036854775808 ≤ m.1 ∧ m.1 ≤ 9223372036854775807) ∧ (0 ≤ m.2.1 ∧ m.2.1 ≤ 255) ∧ (-9223372036854775808 ≤ m.2.2.1 ∧ m.2.2.1 ≤ 9223372036854775807) ∧ (-9223372036854775808 ≤ m.2.2.2 ∧ m.2.2.2 ≤ 9223372036854775807)
theorem wf_i64 {z : Int} (h : (Lit.int .i64 z).wf = true) : -9223372036854775808 ≤ z ∧ z ≤ 9223372036854775807 := by
  have := bounds_i64 h
  omega
theorem wf_u8 {z : Int} (h : (Lit.int .u8 z).wf = true) : 0 ≤ z ∧ z ≤ 255 := by
  have := bounds_u8 h
  omega

theorem open_members {H : Type} {enc : TypeId × Value → H} {P : Program} {w : World} {base t e fuel : Nat} {spare : Nat → Bool} {held : Bool} {v : Value} {x : DataW H × List MemPlace} {g0 g1 g2 g3 : Field}
    (ht : P.underlying t = some (.slice e)) (he : P.underlying e = some (.struct #[g0, g1, g2, g3])) (hone : oneCellFields P #[g0, g1, g2, g3] = true) (hC : P.cellsOf e = 4)
    (k0 : P.underlying g0.type = some (.int .i64)) (k1 : P.underlying g1.type = some (.int .u8)) (k2 : P.underlying g2.type = some (.int .i64)) (k3 : P.underlying g3.type = some (.int .i64))
    (h : DataW.trod enc P w base spare held fuel t [v] = some x) : ∃ (A : Option Addr) (ms : List Mem) (c : Nat), v = .slice A ms.length c ∧ ms.length ≤ c ∧ c ≤ maxLen ∧ RdM w 0 w.heap.size A ms ∧ (∀ m ∈ ms, MemR m) ∧ ms.length ≤ Rows.uptoBulk x.1 ∧ ((x.1 = .nil ∧ ms = []) ∨ ∃ el sp, x.1 = .slice el sp ∧ el.length = ms.length) := by
  rcases Go.Deep.open_slice ht h with ⟨hcs, hxn⟩ | ⟨a, len, cap, m, n, Df, Pl, hcs, -, hl, hm, hmm, hx, hi⟩
  · simp at hcs
    exact ⟨none, [], 0, hcs, Nat.le_refl _, by unfold maxLen; omega, RdM.nil _ _ _ _, (fun m hm => by cases hm), Nat.zero_le _, .inl ⟨congrArg Prod.fst hxn, rfl⟩⟩
  · simp at hcs
    have hlm : len ≤ m := by rw [hmm]; split <;> omega
    obtain ⟨o0, z0⟩ := hone_of hone 0 g0 rfl
    obtain ⟨o1, z1⟩ := hone_of hone 1 g1 rfl
    obtain ⟨o2, z2⟩ := hone_of hone 2 g2 rfl
    obtain ⟨o3, z3⟩ := hone_of hone 3 g3 rfl
    obtain ⟨ms, hml, hmp⟩ := list_of_at (α := Mem) len (fun i q => MemR q ∧ w.cell? (a.add (i * 4)) = some (.int .i64 q.1) ∧ w.cell? (a.add (i * 4 + 1)) = some (.int .u8 q.2.1) ∧ w.cell? (a.add (i * 4 + 2)) = some (.int .i64 q.2.2.1) ∧ w.cell? (a.add (i * 4 + 3)) = some (.int .i64 q.2.2.2)) (fun i hil => by
      obtain ⟨cs', hc, htr⟩ := hi i (by omega)
      rw [hC] at hc
      obtain ⟨_, hcl, hat⟩ := World.cells?_some hc
      obtain ⟨y0, y1, y2, y3, n', -, -, h0, h1, h2, h3⟩ := trod_struct4 he htr
      rw [o0, z0] at h0
      rw [o1, z1] at h1
      rw [o2, z2] at h2
      rw [o3, z3] at h3
      match cs', hcl with
      | [x0, x1, x2, x3], _ =>
        obtain ⟨q0, e0, -, w0⟩ := DataW.trod_int k0 h0
        obtain ⟨q1, e1, -, w1⟩ := DataW.trod_int k1 h1
        obtain ⟨q2, e2, -, w2⟩ := DataW.trod_int k2 h2
        obtain ⟨q3, e3, -, w3⟩ := DataW.trod_int k3 h3
        have a0 := hat 0 (by omega)
        have a1 := hat 1 (by omega)
        have a2 := hat 2 (by omega)
        have a3 := hat 3 (by omega)
        rw [Go.Deep.add_add] at a0 a1 a2 a3
        simp at e0 e1 e2 e3 a0 a1 a2 a3
        exact ⟨(q0, q1, q2, q3), ⟨wf_i64 w0, wf_u8 w1, wf_i64 w2, wf_i64 w3⟩, by rw [a0, e0], by rw [a1, e1], by rw [a2, e2], by rw [a3, e3]⟩)
    refine ⟨some a, ms, cap, by rw [hml]; exact hcs, by omega, hm, fun h0 => ?_, fun q hq => ?_, ?_, .inr ⟨_, _, congrArg Prod.fst hx, by rw [hml]; simp⟩⟩
    · obtain ⟨-, hc0, -⟩ := hmp 0 ms[0] (List.getElem?_eq_getElem h0)
      rw [show a.add (0 * 4) = a by unfold Addr.add; simp] at hc0
      obtain ⟨b, o, rfl⟩ := spot_none hc0
      refine ⟨b, o, rfl, Nat.zero_le _, World.block_lt_of_cell? w _ hc0, fun i q hq => ?_⟩
      obtain ⟨-, c0, c1, c2, c3⟩ := hmp i q hq
      rw [Lib.addr_add] at c0 c1 c2 c3
      refine ⟨c0, ?_, ?_, ?_⟩
      · rw [Nat.add_assoc]; exact c1
      · rw [Nat.add_assoc]; exact c2
      · rw [Nat.add_assoc]; exact c3
    · obtain ⟨i, hi⟩ := List.mem_iff_getElem?.1 hq
      exact (hmp i q hi).1
    · have hd : x.1 = .slice ((List.range len).map Df) ((List.range (m - len)).map fun j => Df (len + j)) := congrArg Prod.fst hx
      rw [hd, hml]
      have := bulkE_slice ((List.range len).map Df) ((List.range (m - len)).map fun j => Df (len + j))
      simp at this
      omega

/-- A config that came in. -/
theorem open_config {H : Type} {enc : TypeId × Value → H} {P : Program} {w : World} {base t e : Nat} {r : Reach} {b0 : Nat} {spare : Nat → Bool} {held : Bool} {v : Value} {d : DataW H} {p : List MemPlace} {f0 f1 g0 g1 g2 g3 : Field}
    (hs : P.underlying t = some (.struct #[f0, f1])) (hone2 : oneCellFields P #[f0, f1] = true) (hC2 : P.cellsOf t = 2) (u0 : P.underlying f0.type = some (.int .i64))
    (ht : P.underlying f1.type = some (.slice e)) (he : P.underlying e = some (.struct #[g0, g1, g2, g3])) (hone : oneCellFields P #[g0, g1, g2, g3] = true) (hC : P.cellsOf e = 4)
    (k0 : P.underlying g0.type = some (.int .i64)) (k1 : P.underlying g1.type = some (.int .u8)) (k2 : P.underlying g2.type = some (.int .i64)) (k3 : P.underlying g3.type = some (.int .i64))
    (hv : Value.okWide P w r b0 t v) (h : DataW.Trod enc P w base spare held t v d p) :
    ∃ (ver : Int) (A : Option Addr) (ms : List Mem) (c : Nat), v = .agg #[.int .i64 ver, .slice A ms.length c] ∧ (-9223372036854775808 ≤ ver ∧ ver ≤ 9223372036854775807) ∧ ms.length ≤ c ∧ c ≤ maxLen ∧ RdM w 0 w.heap.size A ms ∧ (∀ m ∈ ms, MemR m) ∧ ms.length ≤ Rows.uptoBulk d ∧ ∃ x y, d = .agg [x, y] ∧ ((y = .nil ∧ ms = []) ∨ ∃ el sp, y = .slice el sp ∧ el.length = ms.length) := by
  obtain ⟨v0, v1, y0, y1, n, rfl, hd, -, h0, h1⟩ := open_agg2 hs hone2 hC2 hv h
  obtain ⟨ver, e0, -, w0⟩ := DataW.trod_int u0 h0
  obtain ⟨A, ms, c, rfl, hmc, hcm, hr, hm, hb, hform⟩ := open_members ht he hone hC k0 k1 k2 k3 h1
  simp at e0
  refine ⟨ver, A, ms, c, by rw [e0], wf_i64 w0, hmc, hcm, hr, hm, ?_, _, _, hd, hform⟩
  rw [hd]
  exact Nat.le_trans hb (bulkE_agg_mem (by simp))

/-- Numbers that came in. -/
theorem open_numbers {H : Type} {enc : TypeId × Value → H} {P : Program} {w : World} {base t e : Nat} {r : Reach} {b0 : Nat} {spare : Nat → Bool} {held : Bool} {v : Value} {d : DataW H} {p : List MemPlace}
    (ht : P.underlying t = some (.slice e)) (he : P.underlying e = some (.int .i64)) (hC : P.cellsOf e = 1) (hv : Value.okWide P w r b0 t v) (h : DataW.Trod enc P w base spare held t v d p) :
    ∃ (A : Option Addr) (l : List Int) (c : Nat), v = .slice A l.length c ∧ l.length ≤ c ∧ c ≤ maxLen ∧ RdI w 0 w.heap.size A l ∧ (∀ z ∈ l, -9223372036854775808 ≤ z ∧ z ≤ 9223372036854775807) ∧ l.length ≤ Rows.uptoBulk d ∧ ((d = .nil ∧ l = []) ∨ ∃ el sp, d = .slice el sp ∧ el.length = l.length) := by
  obtain ⟨a0, len, cap, rfl⟩ := okWide_slice ht hv
  obtain ⟨fuel, hf⟩ := h
  rcases open_ints ht he hC hf with ⟨hcs, hx⟩ | ⟨x, l, c, zs, hcs, _, hl, hm, hz, hx, hcell, hwz⟩
  · simp [Value.cells] at hcs
    obtain ⟨rfl, rfl, rfl⟩ := hcs
    exact ⟨none, [], 0, rfl, by simp, by unfold maxLen; omega, RdI.nil _ _ _ _, (fun z hz => by cases hz), Nat.zero_le _, .inl ⟨congrArg Prod.fst hx, rfl⟩⟩
  · simp [Value.cells] at hcs
    obtain ⟨rfl, rfl, rfl⟩ := hcs
    have hzl : len ≤ zs.length := by rw [hz]; split <;> omega
    have hlen : (zs.take len).length = len := by simp; omega
    refine ⟨some x, zs.take len, cap, by rw [hlen], by omega, hm, fun h0 => ?_, fun z hz => wf_i64 (hwz z (List.mem_of_mem_take hz)), ?_, .inr ⟨_, _, congrArg Prod.fst hx, by rw [hlen]; simp [lits]; omega⟩⟩
    · rw [hlen] at h0
      have hc0 := hcell 0 (by omega)
      rw [show x.add 0 = x by unfold Addr.add; simp] at hc0
      obtain ⟨b, o, rfl⟩ := spot_none hc0
      refine ⟨b, o, rfl, Nat.zero_le _, World.block_lt_of_cell? w _ hc0, fun i hi => ?_⟩
      rw [hlen] at hi
      have hci := hcell i (by omega)
      rw [Lib.addr_add] at hci
      rw [hci]
      simp [List.getD, hi]
    · have hd : d = .slice (lits .i64 (zs.take len)) (lits .i64 (zs.drop len)) := congrArg Prod.fst hx
      rw [hd, hlen]
      have := bulkE_slice (H := H) (lits .i64 (zs.take len)) (lits .i64 (zs.drop len))
      have e : (lits .i64 (zs.take len) : List (DataW H)).length = len := by simp [lits]; omega
      rw [e] at this
      omega

/-- How many members a config has that came in. -/
theorem sized_config {H : Type} {P : Program} {t e : TypeId} {ts : List TypeId} {ds : List (DataW H)} {f0 f1 : Field} {x y : DataW H} {el sp : List (DataW H)}
    (h : (DataW.weightsEach P (t :: ts) (.agg [x, y] :: ds)).all (· ≤ reachBytes) = true) (hs : P.underlying t = some (.struct #[f0, f1])) (ht : P.underlying f1.type = some (.slice e)) (hy : y = .slice el sp) : (el.length + sp.length) * P.bytesOf e ≤ reachBytes := by
  subst hy
  rw [DataW.weightsEach, List.all_append, Bool.and_eq_true] at h
  have h1 := h.1
  rw [DataW.weights, hs] at h1
  simp only [List.map_cons, List.map_nil, DataW.weightsEach, List.all_append, Bool.and_eq_true, List.append_nil] at h1
  have h2 := h1.2
  rw [DataW.weights, ht] at h2
  simp only [List.all_cons, Bool.and_eq_true, decide_eq_true_eq] at h2
  exact h2.1

end Go.Proofs.YtbgpgaekckfjlaaDoor
