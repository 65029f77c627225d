/-
  Spk: spin's Copy and Shuffle.
-/
import Derived.Test.YteigenmhfgldfaaSpe
import Derived.Test.YteigenmhfgldfaaSpo
import Derived.Test.YteigenmhfgldfaaShelf
namespace Go.Proofs.Yteigenmhfgldfaa
open Go.RowKit Ieee

/-- A row of numbers in a block. -/
def NR (w : World) (g : Nat) (l : List Int) : Prop := ∃ cs, w.heap[g]? = some (.cells cs 3 (0, 0)) ∧ ∀ i, i < l.length → cs[i]? = some (.int .i64 (l.getD i 0))
theorem NR.cell {w : World} {g : Nat} {l : List Int} (h : NR w g l) {i : Nat} (hi : i < l.length) : w.cell? ⟨g, i, none⟩ = some (.int .i64 (l.getD i 0)) ∧ w.frozen? ⟨g, i, none⟩ = false := by
  obtain ⟨cs, h1, h2⟩ := h
  exact ⟨(Joins.cell_of_block h1 i).trans (h2 i hi), Joins.unfrozen_of_block h1 i⟩
theorem NR.set {w : World} {g : Nat} {l : List Int} (h : NR w g l) {i : Nat} (hi : i < l.length) (x : Int) : NR (w.setCell ⟨g, i, none⟩ (.int .i64 x)) g (l.set i x) := by
  obtain ⟨cs, h1, h2⟩ := h
  refine ⟨_, Joins.block_setCell h1 _, fun j hj => ?_⟩
  rw [List.length_set] at hj
  have h3 := h2 j hj
  have hcs : j < cs.size := (Array.getElem?_eq_some_iff.1 h3).1
  by_cases hij : i = j
  · subst hij
    rw [Array.getElem?_setIfInBounds_self_of_lt hcs]
    simp [List.getD, hj]
  · rw [Array.getElem?_setIfInBounds_ne hij, h3]
    simp [List.getD, List.getElem?_set_ne hij]
theorem NR.fr {M : Nat → Prop} {w w' : World} {g : Nat} {l : List Int} (h : NR w g l) (f : Fr M w w') (hm : ¬ M g) : NR w' g l := by
  obtain ⟨cs, h1, h2⟩ := h
  exact ⟨cs, f.at_ h1 hm, h2⟩
theorem NR.lt {w : World} {g : Nat} {l : List Int} (h : NR w g l) : g < w.heap.size := by
  obtain ⟨cs, h1, _⟩ := h
  exact Lib.lt_of_heap h1
theorem NR.rd {w : World} {g : Nat} {l : List Int} (h : NR w g l) : RdI w g (g + 1) (some ⟨g, 0, none⟩) l := fun _ => ⟨g, 0, rfl, Nat.le_refl _, Nat.lt_succ_self _, fun i hi => by rw [Nat.zero_add]; exact (h.cell hi).1⟩
/-- A row of one's own, as a block's. -/
theorem own_nr {w : World} {base n : Nat} {v : Value} {l : List Int} (h : w.ownsRow base 3 1 v n (iv l)) (hn : 0 < n) : ∃ g c, v = .slice (some ⟨g, 0, none⟩) n c ∧ n ≤ c ∧ base ≤ g ∧ l.length = n ∧ NR w g l := by
  have hN : n = l.length := by have := h.1; simpa using this.symm
  subst hN
  obtain ⟨g, cap, rfl⟩ := Joins.ownsRow_form h hn
  rcases h.2 with ⟨h0, _⟩ | ⟨g', cap', cur, hv, hb, hh, h1, h2, h3, h4⟩
  · cases h0
  · cases hv
    refine ⟨_, _, rfl, h1, hb, rfl, ⟨cur, hh, fun i hi => ?_⟩⟩
    have := h.cells (g := g) rfl i _ (iv_get l i hi)
    rw [Lib.addr_add, Nat.zero_add, Joins.cell_of_block hh] at this
    exact this

/-- Two places turned. -/
def swp (l : List Int) (i j : Nat) : List Int := (l.set i (l.getD j 0)).set j (l.getD i 0)
theorem swp_len (l : List Int) (i j : Nat) : (swp l i j).length = l.length := by simp [swp]
/-- A list shuffled, from a place down. -/
def shuf : Nat → G → List Int → G × List Int
  | 0, s, l => (s, l)
  | k + 1, s, l => shuf k (nx s.1 s.2) (swp l (k + 1) (tell (nx s.1 s.2) ((k : Int) + 2)).toNat)
theorem tell_lt (s : G) (k : Nat) : 0 ≤ tell s ((k : Int) + 2) ∧ tell s ((k : Int) + 2) < (k : Int) + 2 := by
  unfold tell
  rw [if_neg (by omega)]
  exact ⟨Int.emod_nonneg _ (by omega), Int.emod_lt_of_pos _ (by omega)⟩
theorem gok_nx (a b : Nat) : gok (nx a b) := by
  unfold gok
  simp only [nx]
  exact ⟨pm_lt _, pm_lt _⟩

set_option maxRecDepth 8000 in
theorem copy_calls (p a b : Nat) (w : World) (hs : SpinAt w p a b) :
    Calls Try.prog 24 #[.pointer (some ⟨p, 0, none⟩)] w fun e w' => ∃ q, e = .returned (.pointer (some ⟨q, 0, none⟩)) ∧ w.heap.size ≤ q ∧ SpinAt w' q a b ∧ Fr NoB w w' := by
  obtain ⟨g1, g2, g3, g4⟩ := hs.cells
  have hc := fun (W : World) (X Y : Nat) => heap_alloc_new W (.cells #[.complex .f64 X Y, .bool true] 47)
  go_enter Try.func24, Try.ntmps24
  go_wp2
  go_ret
  exact ⟨w.heap.size, rfl, Nat.le_refl _, hc _ _ _, (Fr.refl _ _).alloc _⟩

/-- slices.Clone of numbers. -/
theorem clone_calls (A : Option Addr) (l : List Int) (c lo hi : Nat) (w : World) (h : RdI w lo hi A l) (hl : l.length ≤ 300) :
    Calls Try.prog 29 #[.slice A l.length c] w fun e w' => ∃ v, e = .returned v ∧ w'.ownsRow w.heap.size 3 1 v l.length (iv l) ∧ Fr NoB w w' := by
  cases A with
  | none =>
    have hn : l = [] := by
      cases l with
      | nil => rfl
      | cons x l => obtain ⟨_, _, h, _⟩ := h (by simp); cases h
    subst hn
    refine (Try.slices_Clone_int_nil 0 c w).mono fun e w' h => ⟨_, h.1, ?_, by rw [h.2]; exact Fr.refl _ _⟩
    rw [h.2]
    exact ⟨rfl, .inl ⟨rfl, rfl⟩⟩
  | some a =>
    by_cases hn : l = []
    · subst hn
      refine (Try.slices_Clone_int_zero a c w).mono fun e w' ⟨v, e1, e2, e3, e4⟩ => ⟨v, e1, e2, Fr.ofBelow e4⟩
    · obtain ⟨b, o, e, _, _, hcell⟩ := h (List.length_pos_iff.2 hn)
      cases e
      refine (Try.slices_Clone_int b o l.length c l w (Nat.le_refl _) (by omega) hcell).mono fun e w' ⟨v, e1, e2, e3, e4⟩ => ⟨v, e1, ?_, Fr.ofBelow e4⟩
      rw [List.take_length] at e2
      exact e2
end Go.Proofs.Yteigenmhfgldfaa
