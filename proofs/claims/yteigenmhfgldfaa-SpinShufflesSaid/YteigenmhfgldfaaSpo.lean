/-
  Spo: numbers that came in.
-/
import Derived.Test.YteigenmhfgldfaaOpen
namespace Go.Proofs.Yteigenmhfgldfaa
open Go.ChangeShapes Go.WideShapes Go.ChangeAt Go.RowKit

/-- Numbers as the cells hold them. -/
def iv (l : List Int) : List Value := l.map fun x => .int .i64 x
@[simp] theorem iv_length (l : List Int) : (iv l).length = l.length := by simp [iv]
@[simp] theorem iv_nil : iv [] = [] := rfl
@[simp] theorem iv_append (a b : List Int) : iv (a ++ b) = iv a ++ iv b := by simp [iv]
theorem iv_one (l : List Int) : ∀ v ∈ iv l, v.oneCell' = true := by
  intro v hv
  obtain ⟨x, _, rfl⟩ := List.mem_map.1 hv
  rfl
theorem iv_get (l : List Int) (i : Nat) (h : i < l.length) : (iv l)[i]? = some (.int .i64 (l.getD i 0)) := by
  simp [iv, List.getD, h]
/-- The slice address A reads, in w, as the numbers l; its block lies from lo on, below hi. -/
def RdI (w : World) (lo hi : Nat) (A : Option Addr) (l : List Int) : Prop :=
  0 < l.length → ∃ b o, A = some ⟨b, o, none⟩ ∧ lo ≤ b ∧ b < hi ∧ ∀ i, i < l.length → w.cell? ⟨b, o + i, none⟩ = some (.int .i64 (l.getD i 0))
section
variable {w w' : World} {lo hi : Nat} {A : Option Addr}
theorem RdI.nil (w : World) (lo hi : Nat) (A : Option Addr) : RdI w lo hi A [] := fun h => absurd h (by simp)
theorem RdI.keep {l : List Int} (h : RdI w lo hi A l) (hs : Same lo hi w w') : RdI w' lo hi A l := fun hl => by
  obtain ⟨b, o, e, h1, h2, hc⟩ := h hl
  exact ⟨b, o, e, h1, h2, fun i hi => (World.cell?_of_block (a := ⟨b, o + i, none⟩) (hs b h1 h2)).trans (hc i hi)⟩
theorem RdI.fr {M : Nat → Prop} {l : List Int} (h : RdI w lo hi A l) (hf : Fr M w w') (hh : hi ≤ w.heap.size) (hm : ∀ k, lo ≤ k → k < hi → ¬ M k) : RdI w' lo hi A l := h.keep (hf.same hh hm)
theorem RdI.wide {l : List Int} {lo' hi' : Nat} (h : RdI w lo hi A l) (h1 : lo' ≤ lo) (h2 : hi ≤ hi') : RdI w lo' hi' A l := fun hl => by
  obtain ⟨b, o, e, k1, k2, hc⟩ := h hl
  exact ⟨b, o, e, by omega, by omega, hc⟩
theorem RdI.srcs {l : List Int} (h : RdI w lo hi A l) : 0 < l.length → ∃ ad, A = some ad ∧ ∀ j u, (iv l)[j]? = some u → w.cell? (ad.add j) = some u := fun hl => by
  obtain ⟨b, o, rfl, _, _, hc⟩ := h hl
  refine ⟨_, rfl, fun j u hj => ?_⟩
  have hlt : j < l.length := by
    have := (List.getElem?_eq_some_iff.1 hj).1; simpa using this
  rw [Lib.addr_add, hc j hlt]
  rw [iv_get l j hlt] at hj
  exact hj
end
theorem own_rdi {w : World} {base e n c : Nat} {A : Option Addr} {l : List Int} (h : w.ownsRow base e 1 (.slice A n c) l.length (iv l)) : RdI w base w.heap.size A l := by
  intro hl
  rcases h.2 with ⟨_, h0⟩ | ⟨g, cap, cur, hv, hb, hh, h1, h2, h3, h4⟩
  · omega
  · cases hv
    refine ⟨g, 0, rfl, hb, Lib.lt_of_heap hh, fun i hi => ?_⟩
    have := h.cells (g := g) rfl i _ (iv_get l i hi)
    rwa [Lib.addr_add] at this
/-- Numbers that came in. -/
theorem open_numbers {H : Type} {enc : TypeId × Value → H} {P : Program} {w : World} {base t e : Nat} {r : Reach} {b0 : Nat} {spare : Nat → Bool} {held : Bool} {v : Value} {d : DataW H} {p : List MemPlace}
    (ht : P.underlying t = some (.slice e)) (he : P.underlying e = some (.int .i64)) (hC : P.cellsOf e = 1) (hv : Value.okWide P w r b0 t v) (h : DataW.Trod enc P w base spare held t v d p) :
    ∃ (A : Option Addr) (l : List Int) (c : Nat), v = .slice A l.length c ∧ l.length ≤ c ∧ c ≤ maxLen ∧ RdI w 0 w.heap.size A l ∧ (∀ z ∈ l, -9223372036854775808 ≤ z ∧ z ≤ 9223372036854775807) ∧ ((d = .nil ∧ l = []) ∨ ∃ el sp, d = .slice el sp ∧ el.length = l.length) := by
  obtain ⟨a0, len, cap, rfl⟩ := okWide_slice ht hv
  obtain ⟨fuel, hf⟩ := h
  rcases open_ints ht he hC hf with ⟨hcs, hx⟩ | ⟨x, l, c, zs, hcs, _, hl, hm, hz, hx, hcell, hwz⟩
  · simp [Value.cells] at hcs
    obtain ⟨rfl, rfl, rfl⟩ := hcs
    exact ⟨none, [], 0, rfl, by simp, by unfold maxLen; omega, RdI.nil _ _ _ _, (fun z hz => by cases hz), .inl ⟨congrArg Prod.fst hx, rfl⟩⟩
  · simp [Value.cells] at hcs
    obtain ⟨rfl, rfl, rfl⟩ := hcs
    have hzl : len ≤ zs.length := by rw [hz]; split <;> omega
    have hlen : (zs.take len).length = len := by simp; omega
    refine ⟨some x, zs.take len, cap, by rw [hlen], by omega, hm, fun h0 => ?_, fun z hz => bounds_i64 (hwz z (List.mem_of_mem_take hz)), .inr ⟨_, _, congrArg Prod.fst hx, by rw [hlen]; simp [lits]; omega⟩⟩
    rw [hlen] at h0
    have hc0 := hcell 0 (by omega)
    rw [show x.add 0 = x by unfold Addr.add; simp] at hc0
    obtain ⟨b, o, rfl⟩ := spot_none hc0
    refine ⟨b, o, rfl, Nat.zero_le _, World.block_lt_of_cell? w _ hc0, fun i hi => ?_⟩
    rw [hlen] at hi
    have hci := hcell i (by omega)
    rw [Lib.addr_add] at hci
    rw [hci]
    simp [List.getD, hi]
end Go.Proofs.Yteigenmhfgldfaa
