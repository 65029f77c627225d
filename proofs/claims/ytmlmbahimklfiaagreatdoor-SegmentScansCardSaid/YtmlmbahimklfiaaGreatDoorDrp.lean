/-
  Drp: what the document calls right, in plain words: it is what the program calls so.
-/
import Derived.Test.YtmlmbahimklfiaaGreatDoorDeb
namespace Go.Proofs.YtmlmbahimklfiaaGreatDoor
open Go.RowKit

/-- All fields that a kind does not name are zero. -/
def BareD (f : Fd) (np : Nat) : Prop :=
  (¬ (f.k = 1 ∨ f.k = 2 ∨ f.k = 3) → f.path = []) ∧ (¬ (f.k = 1 ∨ f.k = 3) → f.data = []) ∧ (¬ (f.k = 1 ∨ f.k = 5) → f.ow = 0) ∧ (¬ (f.k = 5 ∨ f.k = 8) → np = 0) ∧ (f.k ≠ 3 → f.ve = 0) ∧ (¬ (f.k = 1 ∨ f.k = 2) → f.cv = 0) ∧ (f.k ≠ 4 → f.ti = 0) ∧ (f.k ≠ 9 → f.er = 0) ∧ (f.k ≠ 7 → f.cz)
instance (f : Fd) (np : Nat) : Decidable (BareD f np) := by unfold BareD; infer_instance
/-- A create, a delete, a set. -/
def NodeD (f : Fd) (np : Nat) : Prop := BareD f np ∧ pchk f.path = true ∧ f.data.length ≤ 1000 ∧ 0 ≤ f.ow ∧ 0 ≤ f.cv ∧ 0 ≤ f.ve ∧ (f.k = 3 ∨ ((f.k = 1 ∨ f.k = 2) ∧ f.path ≠ [47]))
instance (f : Fd) (np : Nat) : Decidable (NodeD f np) := by unfold NodeD; infer_instance
def PartR (all : Bool) (q : Fd × Nat) : Prop := q.1.z = 0 ∧ q.1.s = 0 ∧ q.1.t = 0 ∧ q.1.x = 0 ∧ q.1.m = 0 ∧ NodeD q.1 q.2 ∧ (all = true ∨ q.1.k = 2)
instance (all : Bool) (q : Fd × Nat) : Decidable (PartR all q) := by unfold PartR; infer_instance
def PartsR (l : List (Fd × Nat)) (least most : Nat) (all : Bool) : Prop := least ≤ l.length ∧ l.length ≤ most ∧ ∀ q ∈ l, PartR all q
instance (l : List (Fd × Nat)) (least most : Nat) (all : Bool) : Decidable (PartsR l least most all) := by unfold PartsR; infer_instance
/-- What a kind asks beyond. -/
def KindR (f : Fd) (l : List (Fd × Nat)) : Prop :=
  if f.k = 1 ∨ f.k = 2 ∨ f.k = 3 then NodeD f l.length
  else if f.k = 4 then 1 ≤ f.ti ∧ f.ti ≤ 1000
  else if f.k = 5 then 1 ≤ f.ow ∧ PartsR l 0 500 false
  else if f.k = 6 then True
  else if f.k = 7 then chk f.c.1 f.c.2 = 0 ∧ f.c.1 = f.z
  else if f.k = 8 then PartsR l 1 16 true
  else if f.k = 9 then 1 ≤ f.er
  else False
def RightR (f : Fd) (l : List (Fd × Nat)) : Prop := 1 ≤ f.z ∧ May f.z ∧ 0 ≤ f.s ∧ 0 ≤ f.t ∧ 0 ≤ f.x ∧ 0 ≤ f.m ∧ BareD f l.length ∧ KindR f l
theorem node_kind {f : Fd} {np : Nat} (h : NodeD f np) : f.k = 1 ∨ f.k = 2 ∨ f.k = 3 := by
  obtain ⟨_, _, _, _, _, _, h⟩ := h
  omega
theorem node_iff {f : Fd} {np : Nat} (hk : f.k = 1 ∨ f.k = 2 ∨ f.k = 3) : NodeD f np ↔ FitsD f np := by
  constructor
  · rintro ⟨⟨h1, h2, h3, h4, h5, h6, h7, h8, h9⟩, g1, g2, g3, g4, g5, g6⟩
    rcases hk with hk | hk | hk
    · exact .inl ⟨hk, h5 (by omega), h7 (by omega), h8 (by omega), h4 (by omega), h9 (by omega), g1, g2, g3, g4, g6.elim (fun h => absurd h (by omega)) (fun h => h.2)⟩
    · exact .inr (.inl ⟨hk, h2 (by omega), h3 (by omega), h5 (by omega), h7 (by omega), h8 (by omega), h4 (by omega), h9 (by omega), g1, g4, g6.elim (fun h => absurd h (by omega)) (fun h => h.2)⟩)
    · exact .inr (.inr (.inl ⟨hk, h3 (by omega), h6 (by omega), h7 (by omega), h8 (by omega), h4 (by omega), h9 (by omega), g1, g2, g5⟩))
  · intro h
    rcases h with h | h | h | h | h | h | h | h | h
    · obtain ⟨h0, h1, h2, h3, h4, h5, h6, h7, h8, h9, h10⟩ := h
      exact ⟨⟨fun x => absurd h0 (by omega), fun x => absurd h0 (by omega), fun x => absurd h0 (by omega), fun _ => h4, fun _ => h1, fun x => absurd h0 (by omega), fun _ => h2, fun _ => h3, fun _ => h5⟩, h6, h7, h8, h9, by omega, .inr ⟨.inl h0, h10⟩⟩
    · obtain ⟨h0, h1, h2, h3, h4, h5, h6, h7, h8, h9, h10⟩ := h
      exact ⟨⟨fun x => absurd h0 (by omega), fun _ => h1, fun _ => h2, fun _ => h6, fun _ => h3, fun x => absurd h0 (by omega), fun _ => h4, fun _ => h5, fun _ => h7⟩, h8, by rw [h1]; simp, by omega, h9, by omega, .inr ⟨.inr h0, h10⟩⟩
    · obtain ⟨h0, h1, h2, h3, h4, h5, h6, h7, h8, h9⟩ := h
      exact ⟨⟨fun x => absurd h0 (by omega), fun x => absurd h0 (by omega), fun _ => h1, fun _ => h5, fun x => absurd h0 (by omega), fun _ => h2, fun _ => h3, fun _ => h4, fun _ => h6⟩, h7, h8, by omega, by omega, h9, .inl h0⟩
    all_goals (have := h.1; omega)
theorem partR_three (q : Fd × Nat) : PartR true q ↔ IsPart 3 q := by
  constructor
  · rintro ⟨h1, h2, h3, h4, h5, h6, _⟩
    have := node_kind h6
    exact ⟨h1, h2, h3, h4, h5, (node_iff this).1 h6, by omega, fun h => by omega⟩
  · rintro ⟨h1, h2, h3, h4, h5, h6, h7, _⟩
    have hk : q.1.k = 1 ∨ q.1.k = 2 ∨ q.1.k = 3 := by
      rcases h6 with h | h | h | h | h | h | h | h | h <;> (have := h.1; omega)
    exact ⟨h1, h2, h3, h4, h5, (node_iff hk).2 h6, .inl rfl⟩
theorem partR_two (q : Fd × Nat) : PartR false q ↔ IsPart 2 q := by
  constructor
  · rintro ⟨h1, h2, h3, h4, h5, h6, h7⟩
    have hk : q.1.k = 2 := h7.resolve_left (by decide)
    exact ⟨h1, h2, h3, h4, h5, (node_iff (.inr (.inl hk))).1 h6, by omega, fun _ => hk⟩
  · rintro ⟨h1, h2, h3, h4, h5, h6, h7, h8⟩
    have hk := h8 rfl
    exact ⟨h1, h2, h3, h4, h5, (node_iff (.inr (.inl hk))).2 h6, .inr hk⟩
theorem partsR_three (l : List (Fd × Nat)) (a b : Nat) : PartsR l a b true ↔ PartsOk l a b 3 := by
  unfold PartsR PartsOk
  simp only [partR_three]
theorem partsR_two (l : List (Fd × Nat)) (a b : Nat) : PartsR l a b false ↔ PartsOk l a b 2 := by
  unfold PartsR PartsOk
  simp only [partR_two]
theorem fits_bare {f : Fd} {np : Nat} (h : FitsD f np) : BareD f np := by
  rcases h with h | h | h | h | h | h | h | h | h
  · exact ((node_iff (.inl h.1)).2 (.inl h)).1
  · exact ((node_iff (.inr (.inl h.1))).2 (.inr (.inl h))).1
  · exact ((node_iff (.inr (.inr h.1))).2 (.inr (.inr (.inl h)))).1
  · obtain ⟨h0, h1, h2, h3, h4, h5, h6, h7, h8, h9, h10⟩ := h
    exact ⟨fun _ => h1, fun _ => h2, fun _ => h3, fun _ => h7, fun _ => h4, fun _ => h5, fun x => absurd h0 x, fun _ => h6, fun _ => h8⟩
  · obtain ⟨h0, h1, h2, h4, h5, h6, h7, h8, h9⟩ := h
    exact ⟨fun _ => h1, fun _ => h2, fun x => absurd h0 (by omega), fun x => absurd h0 (by omega), fun _ => h4, fun _ => h5, fun _ => h6, fun _ => h7, fun _ => h8⟩
  · obtain ⟨h0, h1, h2, h3, h4, h5, h6, h7, h8, h9⟩ := h
    exact ⟨fun _ => h1, fun _ => h2, fun _ => h3, fun _ => h8, fun _ => h4, fun _ => h5, fun _ => h6, fun _ => h7, fun _ => h9⟩
  · obtain ⟨h0, h1, h2, h3, h4, h5, h6, h7, h8⟩ := h
    exact ⟨fun _ => h1, fun _ => h2, fun _ => h3, fun _ => h8, fun _ => h4, fun _ => h5, fun _ => h6, fun _ => h7, fun x => absurd h0 x⟩
  · obtain ⟨h0, h1, h2, h3, h4, h5, h6, h7, h8⟩ := h
    exact ⟨fun _ => h1, fun _ => h2, fun _ => h3, fun x => absurd h0 (by omega), fun _ => h4, fun _ => h5, fun _ => h6, fun _ => h7, fun _ => h8⟩
  · obtain ⟨h0, h1, h2, h3, h4, h5, h6, h7, h8, h9⟩ := h
    exact ⟨fun _ => h1, fun _ => h2, fun _ => h3, fun _ => h7, fun _ => h4, fun _ => h5, fun _ => h6, fun x => absurd h0 x, fun _ => h8⟩
/-- The document's right deeds are the program's. -/
theorem rightR_iff (f : Fd) (l : List (Fd × Nat)) : RightR f l ↔ Right f l := by
  unfold RightR Right
  constructor
  · rintro ⟨a1, a2, a3, a4, a5, a6, hb, hk⟩
    refine ⟨a1, a2, a3, a4, a5, a6, ?_⟩
    unfold KindR at hk
    obtain ⟨h1, h2, h3, h4, h5, h6, h7, h8, h9⟩ := hb
    by_cases k0 : f.k = 1 ∨ f.k = 2 ∨ f.k = 3
    · rw [if_pos k0] at hk
      exact ⟨(node_iff k0).1 hk, fun h => by omega, fun h => by omega, fun h => by omega⟩
    rw [if_neg k0] at hk
    by_cases k4 : f.k = 4
    · rw [if_pos k4] at hk
      exact ⟨.inr (.inr (.inr (.inl ⟨k4, h1 k0, h2 (by omega), h3 (by omega), h5 (by omega), h6 (by omega), h8 (by omega), h4 (by omega), h9 (by omega), hk.1, hk.2⟩))), fun h => by omega, fun h => by omega, fun h => by omega⟩
    rw [if_neg k4] at hk
    by_cases k5 : f.k = 5
    · rw [if_pos k5] at hk
      exact ⟨.inr (.inr (.inr (.inr (.inl ⟨k5, h1 k0, h2 (by omega), h5 (by omega), h6 (by omega), h7 (by omega), h8 (by omega), h9 (by omega), hk.1⟩)))), fun _ => (partsR_two l 0 500).1 hk.2, fun h => by omega, fun h => by omega⟩
    rw [if_neg k5] at hk
    by_cases k6 : f.k = 6
    · exact ⟨.inr (.inr (.inr (.inr (.inr (.inl ⟨k6, h1 k0, h2 (by omega), h3 (by omega), h5 (by omega), h6 (by omega), h7 (by omega), h8 (by omega), h4 (by omega), h9 (by omega)⟩))))), fun h => by omega, fun h => by omega, fun h => by omega⟩
    rw [if_neg k6] at hk
    by_cases k7 : f.k = 7
    · rw [if_pos k7] at hk
      exact ⟨.inr (.inr (.inr (.inr (.inr (.inr (.inl ⟨k7, h1 k0, h2 (by omega), h3 (by omega), h5 (by omega), h6 (by omega), h7 (by omega), h8 (by omega), h4 (by omega)⟩)))))), fun h => by omega, fun _ => hk, fun h => by omega⟩
    rw [if_neg k7] at hk
    by_cases k8 : f.k = 8
    · rw [if_pos k8] at hk
      exact ⟨.inr (.inr (.inr (.inr (.inr (.inr (.inr (.inl ⟨k8, h1 k0, h2 (by omega), h3 (by omega), h5 (by omega), h6 (by omega), h7 (by omega), h8 (by omega), h9 (by omega)⟩))))))), fun h => by omega, fun h => by omega, fun _ => (partsR_three l 1 16).1 hk⟩
    rw [if_neg k8] at hk
    by_cases k9 : f.k = 9
    · rw [if_pos k9] at hk
      exact ⟨.inr (.inr (.inr (.inr (.inr (.inr (.inr (.inr ⟨k9, h1 k0, h2 (by omega), h3 (by omega), h5 (by omega), h6 (by omega), h7 (by omega), h4 (by omega), h9 (by omega), hk⟩))))))), fun h => by omega, fun h => by omega, fun h => by omega⟩
    rw [if_neg k9] at hk
    exact hk.elim
  · rintro ⟨a1, a2, a3, a4, a5, a6, hf, g5, g7, g8⟩
    refine ⟨a1, a2, a3, a4, a5, a6, fits_bare hf, ?_⟩
    unfold KindR
    by_cases k0 : f.k = 1 ∨ f.k = 2 ∨ f.k = 3
    · rw [if_pos k0]
      exact (node_iff k0).2 hf
    rw [if_neg k0]
    rcases hf with h | h | h | h | h | h | h | h | h <;> have hk := h.1
    · exact absurd hk (by omega)
    · exact absurd hk (by omega)
    · exact absurd hk (by omega)
    · rw [if_pos hk]
      exact h.2.2.2.2.2.2.2.2.2
    · rw [if_neg (by omega), if_pos hk]
      exact ⟨h.2.2.2.2.2.2.2.2, (partsR_two l 0 500).2 (g5 hk)⟩
    · rw [if_neg (by omega), if_neg (by omega), if_pos hk]
      trivial
    · rw [if_neg (by omega), if_neg (by omega), if_neg (by omega), if_pos hk]
      exact g7 hk
    · rw [if_neg (by omega), if_neg (by omega), if_neg (by omega), if_neg (by omega), if_pos hk]
      exact (partsR_three l 1 16).2 (g8 hk)
    · rw [if_neg (by omega), if_neg (by omega), if_neg (by omega), if_neg (by omega), if_neg (by omega), if_pos hk]
      exact h.2.2.2.2.2.2.2.2.2
end Go.Proofs.YtmlmbahimklfiaaGreatDoor
