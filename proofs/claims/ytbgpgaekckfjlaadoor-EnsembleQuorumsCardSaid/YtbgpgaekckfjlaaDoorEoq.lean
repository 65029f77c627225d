/-
  Eoq: lists of configs that came in.
-/
import Derived.Test.YtbgpgaekckfjlaaDoorEop
import Derived.Test.YtbgpgaekckfjlaaDoorLne
namespace Go.Proofs.YtbgpgaekckfjlaaDoor
open Go.ChangeShapes Go.WideShapes Go.ChangeAt Go.RowKit Go.Deep Go.Joins

theorem weights_mem {H : Type} {P : Program} {e : TypeId} {l : List (DataW H)} {x : DataW H} (hx : x ∈ l) (h : (DataW.weightsAll P e l).all (· ≤ reachBytes) = true) : (x.weights P e).all (· ≤ reachBytes) = true := by
  induction l with
  | nil => cases hx
  | cons y l ih =>
    rw [DataW.weightsAll, List.all_append, Bool.and_eq_true] at h
    rcases List.mem_cons.1 hx with rfl | hx
    · exact h.1
    · exact ih hx h.2
theorem weights_slice {H : Type} {P : Program} {t e : TypeId} {el sp : List (DataW H)} {x : DataW H} (ht : P.underlying t = some (.slice e)) (hx : x ∈ el) (h : ((DataW.slice el sp).weights P t).all (· ≤ reachBytes) = true) : (x.weights P e).all (· ≤ reachBytes) = true := by
  rw [DataW.weights, ht] at h
  simp only [List.all_cons, List.all_append, Bool.and_eq_true] at h
  exact weights_mem hx h.2.1
theorem weights_len {H : Type} {P : Program} {t e : TypeId} {el sp : List (DataW H)} (ht : P.underlying t = some (.slice e)) (h : ((DataW.slice el sp).weights P t).all (· ≤ reachBytes) = true) : el.length * P.bytesOf e ≤ reachBytes := by
  rw [DataW.weights, ht] at h
  simp only [List.all_cons, Bool.and_eq_true, decide_eq_true_eq] at h
  exact Nat.le_trans (Nat.mul_le_mul_right _ (Nat.le_add_right _ _)) h.1
theorem weights_agg2 {H : Type} {P : Program} {t : TypeId} {f0 f1 : Field} {x y : DataW H} (hs : P.underlying t = some (.struct #[f0, f1])) (h : ((DataW.agg [x, y]).weights P t).all (· ≤ reachBytes) = true) : (y.weights P f1.type).all (· ≤ reachBytes) = true := by
  rw [DataW.weights, hs] at h
  simp only [List.map_cons, List.map_nil, DataW.weightsEach, List.all_append, Bool.and_eq_true, List.append_nil] at h
  exact h.2
theorem weights_first {H : Type} {P : Program} {t : TypeId} {ts : List TypeId} {d : DataW H} {ds : List (DataW H)} (h : (DataW.weightsEach P (t :: ts) (d :: ds)).all (· ≤ reachBytes) = true) : (d.weights P t).all (· ≤ reachBytes) = true := by
  rw [DataW.weightsEach, List.all_append, Bool.and_eq_true] at h
  exact h.1

theorem open_configs {H : Type} {enc : TypeId × Value → H} {P : Program} {w : World} {base t e e1 : Nat} {r : Reach} {b0 : Nat} {spare : Nat → Bool} {held : Bool} {v : Value} {d : DataW H} {p : List MemPlace} {f0 f1 g0 g1 g2 g3 : Field}
    (ht : P.underlying t = some (.slice e)) (hs : P.underlying e = some (.struct #[f0, f1])) (hone2 : oneCellFields P #[f0, f1] = true) (hC2 : P.cellsOf e = 2) (u0 : P.underlying f0.type = some (.int .i64))
    (ht1 : P.underlying f1.type = some (.slice e1)) (he : P.underlying e1 = some (.struct #[g0, g1, g2, g3])) (hone : oneCellFields P #[g0, g1, g2, g3] = true) (hC : P.cellsOf e1 = 4)
    (k0 : P.underlying g0.type = some (.int .i64)) (k1 : P.underlying g1.type = some (.int .u8)) (k2 : P.underlying g2.type = some (.int .i64)) (k3 : P.underlying g3.type = some (.int .i64))
    (hv : Value.okWide P w r b0 t v) (h : DataW.Trod enc P w base spare held t v d p) (hw : (d.weights P t).all (· ≤ reachBytes) = true) :
    ∃ (A : Option Addr) (l : List Cfg) (c : Nat), v = .slice A l.length c ∧ RdE w 0 w.heap.size A l ∧ l.length * P.bytesOf e ≤ reachBytes ∧ ∀ x ∈ l, x.2.length * P.bytesOf e1 ≤ reachBytes := by
  obtain ⟨a0, len, cap, rfl⟩ := okWide_slice ht hv
  obtain ⟨fuel, hf⟩ := h
  rcases Go.Deep.open_slice ht hf with ⟨hcs, hxn⟩ | ⟨a, len', cap', m, n, Df, Pl, hcs, -, hl, hm, hmm, hx, hi⟩
  · simp [Value.cells] at hcs
    obtain ⟨rfl, rfl, rfl⟩ := hcs
    exact ⟨none, [], 0, rfl, fun h0 => absurd h0 (by simp), by simp, fun x hx => by cases hx⟩
  · simp [Value.cells] at hcs
    obtain ⟨rfl, rfl, rfl⟩ := hcs
    have hlm : len ≤ m := by rw [hmm]; split <;> omega
    have hd : d = .slice ((List.range len).map Df) ((List.range (m - len)).map fun j => Df (len + j)) := congrArg Prod.fst hx
    rw [hd] at hw
    obtain ⟨o0, z0⟩ := hone_of hone2 0 f0 rfl
    obtain ⟨o1, z1⟩ := hone_of hone2 1 f1 rfl
    obtain ⟨l, hll, hlp⟩ := list_of_at (α := Cfg) len (fun i q => q.2.length * P.bytesOf e1 ≤ reachBytes ∧ ∃ Ai ci, w.cell? (a.add (i * 2)) = some (.int .i64 q.1) ∧ w.cell? (a.add (i * 2 + 1)) = some (.slice Ai q.2.length ci) ∧ RdM w 0 w.heap.size Ai q.2) (fun i hil => by
      obtain ⟨cs', hc, htr⟩ := hi i (by omega)
      rw [hC2] at hc
      obtain ⟨_, hcl, hat⟩ := World.cells?_some hc
      obtain ⟨y0, y1, n', hxe, -, h0, h1⟩ := trod_struct2 hs htr
      rw [o0, z0] at h0
      rw [o1, z1] at h1
      have hwi := weights_slice (x := Df i) ht (List.mem_map.2 ⟨i, by simp; exact hil, rfl⟩) hw
      rw [show Df i = .agg [y0.1, y1.1] from congrArg Prod.fst hxe] at hwi
      have hwy := weights_agg2 hs hwi
      match cs', hcl with
      | [x0, x1], _ =>
        obtain ⟨q0, e0, -, w0⟩ := DataW.trod_int u0 h0
        obtain ⟨Ai, ms, ci, e1', hmc, hcm, hr, hmm', hb, hform⟩ := open_members ht1 he hone hC k0 k1 k2 k3 h1
        have a0 := hat 0 (by omega)
        have a1 := hat 1 (by omega)
        rw [Go.Deep.add_add] at a0 a1
        simp at e0 a0 a1
        refine ⟨(q0, ms), ?_, Ai, ci, by rw [a0, e0], by rw [a1, e1'], hr⟩
        rcases hform with ⟨_, rfl⟩ | ⟨el, sp, hy, hel⟩
        · simp
        · rw [hy] at hwy
          have := weights_len ht1 hwy
          rw [hel] at this
          exact this)
    refine ⟨some a, l, cap, by rw [hll], fun h0 => ?_, ?_, fun x hx => ?_⟩
    · obtain ⟨-, Ai, ci, hc0, -⟩ := hlp 0 l[0] (List.getElem?_eq_getElem h0)
      rw [show a.add (0 * 2) = a by unfold Addr.add; simp] at hc0
      obtain ⟨b, o, rfl⟩ := spot_none hc0
      refine ⟨b, o, rfl, Nat.zero_le _, World.block_lt_of_cell? w _ hc0, fun i q hq => ?_⟩
      obtain ⟨-, Ai, ci, c0, c1, hr⟩ := hlp i q hq
      rw [Lib.addr_add] at c0 c1
      exact ⟨Ai, ci, c0, by rw [Nat.add_assoc]; exact c1, hr⟩
    · have := weights_len ht hw
      simp at this
      rw [hll]
      exact this
    · obtain ⟨i, hi⟩ := List.mem_iff_getElem?.1 hx
      exact (hlp i x hi).1

end Go.Proofs.YtbgpgaekckfjlaaDoor
