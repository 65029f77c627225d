/-
  Nta: packets in one row, each with its link: what a bag has, who is taken out. No program in sight.
-/
import Derived.Test.YtmgkenbfjlahpaaBase
namespace Go.Proofs.Ytmgkenbfjlahpaa
open Go.RowKit

/-- A link. -/
abbrev Lk := Int × Int
section
variable {α : Type}
/-- A link's bag. -/
def bag (L : List (Lk × α)) (k : Lk) : List α := (L.filter fun x => x.1 == k).map (·.2)
theorem bag_nil (k : Lk) : bag ([] : List (Lk × α)) k = [] := rfl
theorem bag_cons_same (k : Lk) (x : α) (L : List (Lk × α)) : bag ((k, x) :: L) k = x :: bag L k := by simp [bag]
theorem bag_cons_other {k k' : Lk} (h : k' ≠ k) (x : α) (L : List (Lk × α)) : bag ((k', x) :: L) k = bag L k := by simp [bag, h]
theorem bag_append (a b : List (Lk × α)) (k : Lk) : bag (a ++ b) k = bag a k ++ bag b k := by simp [bag]
theorem bag_snoc_same (L : List (Lk × α)) (k : Lk) (x : α) : bag (L ++ [(k, x)]) k = bag L k ++ [x] := by simp [bag]
theorem bag_snoc_other (L : List (Lk × α)) {k k' : Lk} (h : k' ≠ k) (x : α) : bag (L ++ [(k', x)]) k = bag L k := by simp [bag, h]
theorem bag_mem {L : List (Lk × α)} {k : Lk} {x : α} : x ∈ bag L k ↔ (k, x) ∈ L := by
  simp only [bag, List.mem_map, List.mem_filter, beq_iff_eq]
  constructor
  · rintro ⟨⟨k', y⟩, ⟨h1, rfl⟩, rfl⟩; exact h1
  · intro h; exact ⟨(k, x), ⟨h, rfl⟩, rfl⟩
theorem bag_len (L : List (Lk × α)) (k : Lk) : (bag L k).length ≤ L.length := by
  simp only [bag, List.length_map]; exact List.length_filter_le _ _
theorem bag_map {β : Type} (f : α → β) (L : List (Lk × α)) (k : Lk) : bag (L.map fun x => (x.1, f x.2)) k = (bag L k).map f := by
  induction L with
  | nil => rfl
  | cons x L ih =>
    obtain ⟨k', y⟩ := x
    rw [List.map_cons]
    by_cases h : k' = k
    · subst h; rw [bag_cons_same, bag_cons_same, List.map_cons, ih]
    · rw [bag_cons_other h, bag_cons_other h, ih]
/-- The row without the n-th packet of a link. -/
def dropL : List (Lk × α) → Lk → Nat → List (Lk × α)
  | [], _, _ => []
  | x :: L, k, n => if x.1 = k then (match n with | 0 => L | m + 1 => x :: dropL L k m) else x :: dropL L k n
theorem bag_drop_same : ∀ (L : List (Lk × α)) (k : Lk) (n : Nat), bag (dropL L k n) k = (bag L k).eraseIdx n
  | [], _, _ => rfl
  | (k', x) :: L, k, n => by
    by_cases h : k' = k
    · subst h
      rw [bag_cons_same]
      cases n with
      | zero => simp [dropL]
      | succ m => simp only [dropL, if_true, List.eraseIdx_cons_succ]; rw [bag_cons_same, bag_drop_same L k' m]
    · simp only [dropL, if_neg h]; rw [bag_cons_other h, bag_cons_other h, bag_drop_same L k n]
theorem bag_drop_other {k k' : Lk} (hk : k' ≠ k) : ∀ (L : List (Lk × α)) (n : Nat), bag (dropL L k n) k' = bag L k'
  | [], _ => rfl
  | (k2, x) :: L, n => by
    by_cases h : k2 = k
    · subst h
      rw [bag_cons_other (fun e => hk e.symm)]
      cases n with
      | zero => simp [dropL]
      | succ m => simp only [dropL, if_true]; rw [bag_cons_other (fun e => hk e.symm), bag_drop_other hk L m]
    · simp only [dropL, if_neg h]
      by_cases h2 : k2 = k'
      · subst h2; rw [bag_cons_same, bag_cons_same, bag_drop_other hk L n]
      · rw [bag_cons_other h2, bag_cons_other h2, bag_drop_other hk L n]
theorem drop_sub : ∀ (L : List (Lk × α)) (k : Lk) (n : Nat), (dropL L k n).Sublist L
  | [], _, _ => List.Sublist.refl _
  | (k', x) :: L, k, n => by
    by_cases h : k' = k
    · subst h
      cases n with
      | zero => simp [dropL]
      | succ m => simp only [dropL, if_true]; exact (drop_sub L k' m).cons_cons _
    · simp only [dropL, if_neg h]; exact (drop_sub L k n).cons_cons _
theorem drop_map {β : Type} (f : α → β) : ∀ (L : List (Lk × α)) (k : Lk) (n : Nat), dropL (L.map fun x => (x.1, f x.2)) k n = (dropL L k n).map fun x => (x.1, f x.2)
  | [], _, _ => rfl
  | (k', x) :: L, k, n => by
    by_cases h : k' = k
    · subst h
      cases n with
      | zero => simp [dropL]
      | succ m => simp only [dropL, List.map_cons, if_true]; rw [drop_map f L k' m]
    · simp only [dropL, List.map_cons, if_neg h]; rw [drop_map f L k n]
/-- Which place the n-th packet of a link has in the row. -/
def placeL : List (Lk × α) → Lk → Nat → Option Nat
  | [], _, _ => none
  | x :: L, k, n => if x.1 = k then (match n with | 0 => some 0 | m + 1 => (placeL L k m).map (· + 1)) else (placeL L k n).map (· + 1)
theorem place_none : ∀ (L : List (Lk × α)) (k : Lk) (n : Nat), placeL L k n = none ↔ (bag L k).length ≤ n
  | [], _, _ => by simp [placeL, bag]
  | (k', x) :: L, k, n => by
    by_cases h : k' = k
    · subst h
      rw [bag_cons_same]
      cases n with
      | zero => simp [placeL]
      | succ m => simp only [placeL, if_true, Option.map_eq_none_iff, List.length_cons]; rw [place_none L k' m]; omega
    · simp only [placeL, if_neg h, Option.map_eq_none_iff]; rw [bag_cons_other h, place_none L k n]
theorem place_some : ∀ (L : List (Lk × α)) (k : Lk) (n i : Nat), placeL L k n = some i → i < L.length ∧ dropL L k n = L.take i ++ L.drop (i + 1) ∧ ∃ x, L[i]? = some (k, x) ∧ (bag L k)[n]? = some x
  | [], _, _, _, h => by simp [placeL] at h
  | (k', x) :: L, k, n, i, h => by
    by_cases hk : k' = k
    · subst hk
      rw [bag_cons_same]
      cases n with
      | zero =>
        simp only [placeL, if_true, Option.some.injEq] at h
        subst h
        exact ⟨by simp, by simp [dropL], x, rfl, rfl⟩
      | succ m =>
        simp only [placeL, if_true, Option.map_eq_some_iff] at h
        obtain ⟨j, hj, rfl⟩ := h
        obtain ⟨h1, h2, y, h3, h4⟩ := place_some L k' m j hj
        exact ⟨by simp; omega, by simp [dropL, h2], y, by simpa using h3, by simpa using h4⟩
    · simp only [placeL, if_neg hk, Option.map_eq_some_iff] at h
      obtain ⟨j, hj, rfl⟩ := h
      obtain ⟨h1, h2, y, h3, h4⟩ := place_some L k n j hj
      rw [bag_cons_other hk]
      exact ⟨by simp; omega, by simp [dropL, hk, h2], y, by simpa using h3, h4⟩
/-- The row without two links. -/
def clearL (L : List (Lk × α)) (a b : Int) : List (Lk × α) := L.filter fun x => !(x.1 == (a, b) || x.1 == (b, a))
theorem bag_clear (L : List (Lk × α)) (a b : Int) (k : Lk) : bag (clearL L a b) k = if k = (a, b) ∨ k = (b, a) then [] else bag L k := by
  induction L with
  | nil => simp [clearL, bag]
  | cons x L ih =>
    obtain ⟨k', y⟩ := x
    unfold clearL at ih ⊢
    rw [List.filter_cons]
    by_cases h : k' = (a, b) ∨ k' = (b, a)
    · rw [if_neg (by rcases h with h | h <;> simp [h]), ih]
      by_cases h2 : k' = k
      · subst h2; rw [if_pos h, if_pos h]
      · rw [bag_cons_other h2]
    · rw [not_or] at h
      rw [if_pos (by simp [h.1, h.2])]
      by_cases h2 : k' = k
      · subst h2; rw [bag_cons_same, bag_cons_same, ih, if_neg (by simp [h.1, h.2]), if_neg (by simp [h.1, h.2])]
      · rw [bag_cons_other h2, bag_cons_other h2, ih]
theorem clear_map {β : Type} (f : α → β) (L : List (Lk × α)) (a b : Int) : clearL (L.map fun x => (x.1, f x.2)) a b = (clearL L a b).map fun x => (x.1, f x.2) := by
  simp [clearL, List.filter_map, Function.comp_def]
end

/-- The order of links. -/
def ltK (x y : Lk) : Bool := decide (x.1 < y.1) || (decide (x.1 = y.1) && decide (x.2 < y.2))
theorem ltK_iff {x y : Lk} : ltK x y = true ↔ x.1 < y.1 ∨ (x.1 = y.1 ∧ x.2 < y.2) := by simp [ltK]
theorem ltK_irr (x : Lk) : ltK x x = false := by simp [ltK]
theorem ltK_tri (x y : Lk) : ltK x y = true ∨ x = y ∨ ltK y x = true := by
  rw [ltK_iff, ltK_iff]
  obtain ⟨a, b⟩ := x
  obtain ⟨c, d⟩ := y
  simp only [Prod.mk.injEq]
  omega
theorem ltK_trans {x y z : Lk} (h : ltK x y = true) (h' : ltK y z = true) : ltK x z = true := by
  rw [ltK_iff] at *
  omega
theorem ltK_asym {x y : Lk} (h : ltK x y = true) : ltK y x = false := by
  cases h' : ltK y x
  · rfl
  · have := ltK_trans h h'; rw [ltK_irr] at this; cases this
/-- One link among rising ones. -/
def putK (x : Lk) : List Lk → List Lk
  | [] => [x]
  | y :: l => if ltK y x then y :: putK x l else if y = x then y :: l else x :: y :: l
theorem putK_mem {x y : Lk} {l : List Lk} : y ∈ putK x l ↔ y = x ∨ y ∈ l := by
  induction l with
  | nil => simp [putK]
  | cons z l ih =>
    unfold putK
    split
    · simp only [List.mem_cons, ih]; constructor
      · rintro (h | h | h) <;> simp [h]
      · rintro (h | h | h) <;> simp [h]
    · split
      · rename_i h; subst h; simp
      · simp
abbrev Up (l : List Lk) : Prop := l.Pairwise fun x y => ltK x y = true
theorem putK_up {x : Lk} {l : List Lk} (h : Up l) : Up (putK x l) := by
  induction l with
  | nil => simp [putK, Up]
  | cons z l ih =>
    have h1 := List.pairwise_cons.1 h
    unfold putK
    split
    · rename_i hz
      refine List.pairwise_cons.2 ⟨fun y hy => ?_, ih h1.2⟩
      rcases putK_mem.1 hy with rfl | hy
      · exact hz
      · exact h1.1 y hy
    · rename_i hz
      split
      · exact h
      · rename_i hne
        have hxz : ltK x z = true := by
          rcases ltK_tri x z with h | h | h
          · exact h
          · exact absurd h.symm hne
          · exact absurd h hz
        refine List.pairwise_cons.2 ⟨fun y hy => ?_, h⟩
        rcases List.mem_cons.1 hy with rfl | hy
        · exact hxz
        · exact ltK_trans hxz (h1.1 y hy)
/-- Rising links with the same members are the same. -/
theorem up_ext : ∀ {l m : List Lk}, Up l → Up m → (∀ x, x ∈ l ↔ x ∈ m) → l = m
  | [], [], _, _, _ => rfl
  | [], y :: m, _, _, h => by have := (h y).2 (by simp); cases this
  | x :: l, [], _, _, h => by have := (h x).1 (by simp); cases this
  | x :: l, y :: m, h1, h2, h => by
    have a1 := List.pairwise_cons.1 h1
    have a2 := List.pairwise_cons.1 h2
    have hxy : x = y := by
      rcases List.mem_cons.1 ((h x).1 (by simp)) with e | e
      · exact e
      · rcases List.mem_cons.1 ((h y).2 (by simp)) with e2 | e2
        · exact e2.symm
        · have := ltK_asym (a2.1 x e); rw [a1.1 y e2] at this; cases this
    subst hxy
    rw [up_ext a1.2 a2.2 fun z => ⟨fun hz => ?_, fun hz => ?_⟩]
    · rcases List.mem_cons.1 ((h z).1 (by simp [hz])) with e | e
      · subst e; have := a1.1 z hz; rw [ltK_irr] at this; cases this
      · exact e
    · rcases List.mem_cons.1 ((h z).2 (by simp [hz])) with e | e
      · subst e; have := a2.1 z hz; rw [ltK_irr] at this; cases this
      · exact e
/-- The links that have packets. -/
def linksL {α : Type} (L : List (Lk × α)) : List Lk := L.foldl (fun l x => putK x.1 l) []
theorem linksF {α : Type} (L : List (Lk × α)) : ∀ l : List Lk, Up l → Up (L.foldl (fun l x => putK x.1 l) l) ∧ ∀ k, k ∈ L.foldl (fun l x => putK x.1 l) l ↔ k ∈ l ∨ ∃ x, (k, x) ∈ L := by
  induction L with
  | nil => intro l h; exact ⟨h, fun k => by simp⟩
  | cons y L ih =>
    intro l h
    rw [List.foldl_cons]
    obtain ⟨i1, i2⟩ := ih (putK y.1 l) (putK_up h)
    refine ⟨i1, fun k => ?_⟩
    rw [i2, putK_mem]
    constructor
    · rintro ((h | h) | ⟨x, h⟩)
      · exact .inr ⟨y.2, by simp [h]⟩
      · exact .inl h
      · exact .inr ⟨x, by simp [h]⟩
    · rintro (h | ⟨x, h⟩)
      · exact .inl (.inr h)
      · rcases List.mem_cons.1 h with e | e
        · exact .inl (.inl (by rw [← e]))
        · exact .inr ⟨x, e⟩
theorem links_up {α : Type} (L : List (Lk × α)) : Up (linksL L) := (linksF L [] (by simp [Up])).1
theorem links_mem {α : Type} {L : List (Lk × α)} {k : Lk} : k ∈ linksL L ↔ bag L k ≠ [] := by
  have h := (linksF L [] (by simp [Up])).2 k
  unfold linksL
  rw [h]
  constructor
  · rintro (h | ⟨x, h⟩)
    · cases h
    · have := bag_mem.2 h; intro e; rw [e] at this; cases this
  · intro hne
    obtain ⟨x, hx⟩ := List.exists_mem_of_ne_nil _ hne
    exact .inr ⟨x, bag_mem.1 hx⟩
theorem links_map {α β : Type} (f : α → β) (L : List (Lk × α)) : linksL (L.map fun x => (x.1, f x.2)) = linksL L := by
  unfold linksL; rw [List.foldl_map]
end Go.Proofs.Ytmgkenbfjlahpaa
