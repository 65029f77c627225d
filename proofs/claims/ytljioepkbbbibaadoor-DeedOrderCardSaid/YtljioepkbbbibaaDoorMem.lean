/-
  Mem: members and numbers as the cells hold them: rows of memory that read as lists.
-/
import Derived.Test.YtljioepkbbbibaaDoorQuo
namespace Go.Proofs.YtljioepkbbbibaaDoor
open Go.RowKit

/-- Numbers as the cells hold them. -/
def iv (l : List Int) : List Value := l.map fun x => .int .i64 x
@[simp] theorem iv_length (l : List Int) : (iv l).length = l.length := by simp [iv]
@[simp] theorem iv_nil : iv [] = [] := rfl
@[simp] theorem iv_append (a b : List Int) : iv (a ++ b) = iv a ++ iv b := by simp [iv]
theorem iv_one (l : List Int) : ∀ v ∈ iv l, v.oneCell' = true := by
  intro v hv
  obtain ⟨x, _, rfl⟩ := List.mem_map.1 hv
  rfl
theorem iv_get (l : List Int) (i : Nat) (h : i < l.length) : (iv l)[i]? = some (.int .i64 (l.getD i 0)) := by
  simp [iv, List.getD, h]

/-- The slice address A reads, in w, as the numbers l; its block lies from lo on, below hi. -/
def RdI (w : World) (lo hi : Nat) (A : Option Addr) (l : List Int) : Prop :=
  0 < l.length → ∃ b o, A = some ⟨b, o, none⟩ ∧ lo ≤ b ∧ b < hi ∧ ∀ i, i < l.length → w.cell? ⟨b, o + i, none⟩ = some (.int .i64 (l.getD i 0))
/-- The members ms lie from A on. -/
def RdM (w : World) (lo hi : Nat) (A : Option Addr) (ms : List Mem) : Prop :=
  0 < ms.length → ∃ b o, A = some ⟨b, o, none⟩ ∧ lo ≤ b ∧ b < hi ∧ ∀ i m, ms[i]? = some m →
    w.cell? ⟨b, o + i * 4, none⟩ = some (.int .i64 m.1) ∧ w.cell? ⟨b, o + i * 4 + 1, none⟩ = some (.int .u8 m.2.1) ∧ w.cell? ⟨b, o + i * 4 + 2, none⟩ = some (.int .i64 m.2.2.1) ∧ w.cell? ⟨b, o + i * 4 + 3, none⟩ = some (.int .i64 m.2.2.2)
section
variable {w w' : World} {lo hi : Nat} {A : Option Addr}
theorem RdI.nil (w : World) (lo hi : Nat) (A : Option Addr) : RdI w lo hi A [] := fun h => absurd h (by simp)
theorem RdM.nil (w : World) (lo hi : Nat) (A : Option Addr) : RdM w lo hi A [] := fun h => absurd h (by simp)
theorem RdI.keep {l : List Int} (h : RdI w lo hi A l) (hs : Same lo hi w w') : RdI w' lo hi A l := fun hl => by
  obtain ⟨b, o, e, h1, h2, hc⟩ := h hl
  exact ⟨b, o, e, h1, h2, fun i hi => (World.cell?_of_block (a := ⟨b, o + i, none⟩) (hs b h1 h2)).trans (hc i hi)⟩
theorem RdM.keep {l : List Mem} (h : RdM w lo hi A l) (hs : Same lo hi w w') : RdM w' lo hi A l := fun hl => by
  obtain ⟨b, o, e, h1, h2, hc⟩ := h hl
  refine ⟨b, o, e, h1, h2, fun i m hm => ?_⟩
  obtain ⟨k0, k1, k2, k3⟩ := hc i m hm
  exact ⟨(World.cell?_of_block (a := ⟨b, o + i * 4, none⟩) (hs b h1 h2)).trans k0, (World.cell?_of_block (a := ⟨b, o + i * 4 + 1, none⟩) (hs b h1 h2)).trans k1, (World.cell?_of_block (a := ⟨b, o + i * 4 + 2, none⟩) (hs b h1 h2)).trans k2, (World.cell?_of_block (a := ⟨b, o + i * 4 + 3, none⟩) (hs b h1 h2)).trans k3⟩
theorem RdI.fr {M : Nat → Prop} {l : List Int} (h : RdI w lo hi A l) (hf : Fr M w w') (hh : hi ≤ w.heap.size) (hm : ∀ k, lo ≤ k → k < hi → ¬ M k) : RdI w' lo hi A l := h.keep (hf.same hh hm)
theorem RdM.fr {M : Nat → Prop} {l : List Mem} (h : RdM w lo hi A l) (hf : Fr M w w') (hh : hi ≤ w.heap.size) (hm : ∀ k, lo ≤ k → k < hi → ¬ M k) : RdM w' lo hi A l := h.keep (hf.same hh hm)
theorem RdI.wide {l : List Int} {lo' hi' : Nat} (h : RdI w lo hi A l) (h1 : lo' ≤ lo) (h2 : hi ≤ hi') : RdI w lo' hi' A l := fun hl => by
  obtain ⟨b, o, e, k1, k2, hc⟩ := h hl
  exact ⟨b, o, e, by omega, by omega, hc⟩
theorem RdM.wide {l : List Mem} {lo' hi' : Nat} (h : RdM w lo hi A l) (h1 : lo' ≤ lo) (h2 : hi ≤ hi') : RdM w lo' hi' A l := fun hl => by
  obtain ⟨b, o, e, k1, k2, hc⟩ := h hl
  exact ⟨b, o, e, by omega, by omega, hc⟩
theorem RdI.srcs {l : List Int} (h : RdI w lo hi A l) : 0 < l.length → ∃ ad, A = some ad ∧ ∀ j u, (iv l)[j]? = some u → w.cell? (ad.add j) = some u := fun hl => by
  obtain ⟨b, o, rfl, _, _, hc⟩ := h hl
  refine ⟨_, rfl, fun j u hj => ?_⟩
  have hlt : j < l.length := by
    have := (List.getElem?_eq_some_iff.1 hj).1; simpa using this
  rw [Lib.addr_add, hc j hlt]
  rw [iv_get l j hlt] at hj
  exact hj
end
theorem own_rdi {w : World} {base e n c : Nat} {A : Option Addr} {l : List Int} (h : w.ownsRow base e 1 (.slice A n c) l.length (iv l)) : RdI w base w.heap.size A l := by
  intro hl
  rcases h.2 with ⟨_, h0⟩ | ⟨g, cap, cur, hv, hb, hh, h1, h2, h3, h4⟩
  · omega
  · cases hv
    refine ⟨g, 0, rfl, hb, Lib.lt_of_heap hh, fun i hi => ?_⟩
    have := h.cells (g := g) rfl i _ (iv_get l i hi)
    rwa [Lib.addr_add] at this
theorem rdi_block {w : World} {g : Nat} {cs : Array Value} {t : TypeId} {fr : Nat × Nat} {l : List Int} (h : w.heap[g]? = some (.cells cs t fr)) (hl : cs.toList.take l.length = iv l) : RdI w g (g + 1) (some ⟨g, 0, none⟩) l := fun _ =>
  ⟨g, 0, rfl, Nat.le_refl _, Nat.lt_succ_self _, fun i hi => by
    have := Lib.cells_of_row h l.length i _ (by rw [hl]; exact iv_get l i hi)
    rwa [Lib.addr_add] at this⟩
/-- Four cells for each member. -/
def mv : List Mem → List Value
  | [] => []
  | m :: l => .int .i64 m.1 :: .int .u8 m.2.1 :: .int .i64 m.2.2.1 :: .int .i64 m.2.2.2 :: mv l
theorem mv_length (l : List Mem) : (mv l).length = l.length * 4 := by
  induction l with
  | nil => rfl
  | cons m l ih => simp [mv, ih]; omega
theorem mv_append (a b : List Mem) : mv (a ++ b) = mv a ++ mv b := by
  induction a with
  | nil => rfl
  | cons m a ih => simp [mv, ih]
theorem mv_one (l : List Mem) : ∀ v ∈ mv l, v.oneCell' = true := by
  induction l with
  | nil => intro v hv; cases hv
  | cons m l ih =>
    intro v hv
    simp only [mv, List.mem_cons] at hv
    rcases hv with rfl | rfl | rfl | rfl | hv
    · rfl
    · rfl
    · rfl
    · rfl
    · exact ih v hv
theorem mv_get (l : List Mem) (i : Nat) (m : Mem) (h : l[i]? = some m) : (mv l)[i * 4]? = some (.int .i64 m.1) ∧ (mv l)[i * 4 + 1]? = some (.int .u8 m.2.1) ∧ (mv l)[i * 4 + 2]? = some (.int .i64 m.2.2.1) ∧ (mv l)[i * 4 + 3]? = some (.int .i64 m.2.2.2) := by
  induction l generalizing i with
  | nil => simp at h
  | cons x l ih =>
    cases i with
    | zero => simp at h; subst h; simp [mv]
    | succ i =>
      have := ih i (by simpa using h)
      simp only [mv, show (i + 1) * 4 = i * 4 + 1 + 1 + 1 + 1 by omega, show i * 4 + 1 + 1 + 1 + 1 + 1 = (i * 4 + 1) + 1 + 1 + 1 + 1 by omega, show i * 4 + 1 + 1 + 1 + 1 + 2 = (i * 4 + 2) + 1 + 1 + 1 + 1 by omega, show i * 4 + 1 + 1 + 1 + 1 + 3 = (i * 4 + 3) + 1 + 1 + 1 + 1 by omega, List.getElem?_cons_succ]
      exact this
theorem rdm_block {w : World} {g : Nat} {cs : Array Value} {t : TypeId} {fr : Nat × Nat} {l : List Mem} (h : w.heap[g]? = some (.cells cs t fr)) (hl : cs.toList.take (l.length * 4) = mv l) : RdM w g (g + 1) (some ⟨g, 0, none⟩) l := fun _ =>
  ⟨g, 0, rfl, Nat.le_refl _, Nat.lt_succ_self _, fun i m hm => by
    obtain ⟨k0, k1, k2, k3⟩ := mv_get l i m hm
    have c0 := Lib.cells_of_row h (l.length * 4) (i * 4) _ (by rw [hl]; exact k0)
    have c1 := Lib.cells_of_row h (l.length * 4) (i * 4 + 1) _ (by rw [hl]; exact k1)
    have c2 := Lib.cells_of_row h (l.length * 4) (i * 4 + 2) _ (by rw [hl]; exact k2)
    have c3 := Lib.cells_of_row h (l.length * 4) (i * 4 + 3) _ (by rw [hl]; exact k3)
    rw [Lib.addr_add] at c0 c1 c2 c3
    refine ⟨c0, ?_, ?_, ?_⟩
    · rw [Nat.add_assoc]; exact c1
    · rw [Nat.add_assoc]; exact c2
    · rw [Nat.add_assoc]; exact c3⟩
theorem own_rdm {w : World} {base e n c : Nat} {A : Option Addr} {l : List Mem} (h : w.ownsRow base e 4 (.slice A n c) l.length (mv l)) : RdM w base w.heap.size A l := by
  intro hl
  rcases h.2 with ⟨_, h0⟩ | ⟨g, cap, cur, hv, hb, hh, h1, h2, h3, h4⟩
  · omega
  · cases hv
    exact (rdm_block (l := l) hh h4).wide hb (Lib.lt_of_heap hh) hl

end Go.Proofs.YtljioepkbbbibaaDoor
