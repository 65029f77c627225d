/-
  Ntc: the net's memory: a box, a map, a row for each link that has packets, the packets' bytes.
-/
import Derived.Test.YtmgkenbfjlahpaaNtb
namespace Go.Proofs.Ytmgkenbfjlahpaa
open Go.RowKit Go.WideMaps

/-- A packet in memory. -/
structure Pk where
  A : Option Addr
  c : Nat
  l : List UInt8
def Pk.val (x : Pk) : Value := .slice x.A x.l.length x.c
abbrev PkV := List (Lk × Pk)
/-- The rows of all links. -/
def rowsF (rb : Lk → Value) (V : PkV) : Lk → Option Value := fun k => if bag V k = [] then none else some (rb k)
/-- The blocks of a net. -/
def NetO (p bm : Nat) (rb : Lk → Value) (V : PkV) (g : Nat) : Prop := g = p ∨ g = bm ∨ (∃ k, bag V k ≠ [] ∧ (rb k).ownBlock = some g) ∨ ∃ x ∈ V, x.2.val.ownBlock = some g

structure NetS (w : World) (p bm N : Nat) (rb : Lk → Value) (V : PkV) : Prop where
  box : w.heap[p]? = some (.cells #[.map (some bm)] 50 (0, 0))
  map : MapF w bm N (rowsF rb V)
  pbm : p ≠ bm
  inr : ∀ x ∈ V, InR x.1
  row : ∀ k, bag V k ≠ [] → w.ownsRow 0 22 1 (rb k) (bag V k).length ((bag V k).map Pk.val)
  rowd : ∀ k g, bag V k ≠ [] → (rb k).ownBlock = some g → g ≠ p ∧ g ≠ bm ∧ ∀ k', bag V k' ≠ [] → (rb k').ownBlock = some g → k' = k
  pk : ∀ x ∈ V, w.ownsRow 0 5 1 x.2.val x.2.l.length (bv x.2.l)
  pkd : ∀ x ∈ V, ∀ g, x.2.val.ownBlock = some g → g ≠ p ∧ g ≠ bm ∧ ∀ k, bag V k ≠ [] → (rb k).ownBlock ≠ some g
  apart : V.Pairwise fun x y => ∀ g, x.2.val.ownBlock = some g → y.2.val.ownBlock ≠ some g
  lens : ∀ x ∈ V, x.2.l.length ≤ 1048576
  most : ∀ k, (bag V k).length ≤ 32

theorem NetS.lt {w : World} {p bm N : Nat} {rb : Lk → Value} {V : PkV} (h : NetS w p bm N rb V) {g : Nat} (hg : NetO p bm rb V g) : g < w.heap.size := by
  rcases hg with rfl | rfl | ⟨k, hk, hg⟩ | ⟨x, hx, hg⟩
  · exact Lib.lt_of_heap h.box
  · exact h.map.lt
  · exact ((h.row k hk).lt g hg).2
  · exact ((h.pk x hx).lt g hg).2
theorem ownBlock_kept {w w' : World} {M : Nat → Prop} {e size n : Nat} {v : Value} {xs : List Value} (h : w.ownsRow 0 e size v n xs) (f : Fr M w w') (hm : ∀ g, v.ownBlock = some g → ¬ M g) : w'.ownsRow 0 e size v n xs :=
  own_keep h fun g hg => f.block g (h.lt g hg).2 (hm g hg)
theorem NetS.fr {M : Nat → Prop} {w w' : World} {p bm N : Nat} {rb : Lk → Value} {V : PkV} (h : NetS w p bm N rb V) (f : Fr M w w') (hm : ∀ g, NetO p bm rb V g → ¬ M g) : NetS w' p bm N rb V :=
  ⟨f.at_ h.box (hm _ (.inl rfl)), h.map.fr f (hm _ (.inr (.inl rfl))), h.pbm, h.inr,
    fun k hk => ownBlock_kept (h.row k hk) f fun g hg => hm _ (.inr (.inr (.inl ⟨k, hk, hg⟩))), h.rowd,
    fun x hx => ownBlock_kept (h.pk x hx) f fun g hg => hm _ (.inr (.inr (.inr ⟨x, hx, hg⟩))), h.pkd, h.apart, h.lens, h.most⟩

/-- A function of links with another value at one. -/
def updR (rb : Lk → Value) (k : Lk) (v : Value) : Lk → Value := fun x => if x = k then v else rb x
theorem updR_same (rb : Lk → Value) (k : Lk) (v : Value) : updR rb k v k = v := by simp [updR]
theorem updR_other (rb : Lk → Value) {k k' : Lk} (h : k' ≠ k) (v : Value) : updR rb k v k' = rb k' := by simp [updR, h]

/-- A new net. -/
theorem NetS.new {w : World} {p bm : Nat} (hb : w.heap[p]? = some (.cells #[.map (some bm)] 50 (0, 0))) (hm : MapF w bm 0 (fun _ => none)) (hne : p ≠ bm) : NetS w p bm 0 (fun _ => .slice none 0 0) [] :=
  ⟨hb, hm, hne, fun _ h => (by cases h), fun k h => absurd rfl h, fun k g h => absurd rfl h, fun _ h => (by cases h), fun _ h => (by cases h), List.Pairwise.nil, fun _ h => (by cases h), fun _ => Nat.zero_le _⟩

/-- One packet more. -/
theorem NetS.send {M : Nat → Prop} {w w' : World} {p bm N N' : Nat} {rb : Lk → Value} {V : PkV} (h : NetS w p bm N rb V) {k : Lk} (hk : InR k) (hmost : (bag V k).length < 32) {x : Pk} (hx32 : x.l.length ≤ 1048576)
    (f : Fr M w w') (hM : ∀ g, M g → g = bm ∨ (bag V k ≠ [] ∧ (rb k).ownBlock = some g)) {v : Value} (hmap : MapF w' bm N' (upd (rowsF rb V) k (some v)))
    (hown : w'.ownsRow 0 22 1 v ((bag V k).length + 1) ((bag V k).map Pk.val ++ [x.val]))
    (hat : (bag V k ≠ [] ∧ v.ownBlock = (rb k).ownBlock) ∨ ∃ g, v.ownBlock = some g ∧ w.heap.size ≤ g)
    (hpk : w'.ownsRow 0 5 1 x.val x.l.length (bv x.l)) (hnew : ∀ g, x.val.ownBlock = some g → w.heap.size ≤ g ∧ v.ownBlock ≠ some g) :
    NetS w' p bm N' (updR rb k v) (V ++ [(k, x)]) ∧ ∀ g, NetO p bm (updR rb k v) (V ++ [(k, x)]) g → NetO p bm rb V g ∨ w.heap.size ≤ g := by
  have hbs : bag (V ++ [(k, x)]) k = bag V k ++ [x] := bag_snoc_same V k x
  have hbo : ∀ {k' : Lk}, k' ≠ k → bag (V ++ [(k, x)]) k' = bag V k' := fun hne => bag_snoc_other V (fun e => hne e.symm) x
  have hpl : p < w.heap.size := Lib.lt_of_heap h.box
  have hbl : bm < w.heap.size := h.map.lt
  have hvo : ∀ g, v.ownBlock = some g → g ≠ p ∧ g ≠ bm ∧ (∀ k', k' ≠ k → bag V k' ≠ [] → (rb k').ownBlock ≠ some g) ∧ (∀ y ∈ V, y.2.val.ownBlock ≠ some g) := by
    intro g hg
    rcases hat with ⟨hne, he⟩ | ⟨g', he, hge⟩
    · rw [he] at hg
      obtain ⟨r1, r2, r3⟩ := h.rowd k g hne hg
      exact ⟨r1, r2, fun k' hk' hb e => hk' (r3 k' hb e), fun y hy e => (h.pkd y hy g e).2.2 k hne hg⟩
    · rw [he] at hg; cases hg
      exact ⟨by omega, by omega, fun k' _ hb e => by have := ((h.row k' hb).lt g e).2; omega, fun y hy e => by have := ((h.pk y hy).lt g e).2; omega⟩
  have hnM : ∀ g, g ≠ bm → (bag V k ≠ [] → (rb k).ownBlock ≠ some g) → ¬ M g := fun g h1 h2 hm => by
    rcases hM g hm with e | ⟨e1, e2⟩
    · exact h1 e
    · exact h2 e1 e2
  refine ⟨⟨f.at_ h.box (hnM p h.pbm fun hne e => (h.rowd k p hne e).1 rfl), ?_, h.pbm, ?_, ?_, ?_, ?_, ?_, ?_, ?_, ?_⟩, ?_⟩
  · have e : rowsF (updR rb k v) (V ++ [(k, x)]) = upd (rowsF rb V) k (some v) := by
      funext k'
      unfold rowsF upd
      by_cases hkk : k' = k
      · subst hkk; rw [hbs, if_pos rfl, if_neg (by simp), updR_same]
      · rw [hbo hkk, if_neg hkk, updR_other rb hkk]
    rw [e]; exact hmap
  · intro y hy
    rcases List.mem_append.1 hy with hy | hy
    · exact h.inr y hy
    · rw [List.mem_singleton.1 hy]; exact hk
  · intro k' hne
    by_cases hkk : k' = k
    · subst hkk; rw [hbs, updR_same]; simpa using hown
    · rw [hbo hkk] at hne ⊢
      rw [updR_other rb hkk]
      exact ownBlock_kept (h.row k' hne) f fun g hg => hnM g (h.rowd k' g hne hg).2.1 fun hb e => hkk ((h.rowd k g hb e).2.2 k' hne hg)
  · intro k' g hne hg
    by_cases hkk : k' = k
    · subst hkk
      rw [updR_same] at hg
      obtain ⟨r1, r2, r3, -⟩ := hvo g hg
      refine ⟨r1, r2, fun k2 hb2 hg2 => ?_⟩
      by_cases h2 : k2 = k'
      · exact h2
      · rw [hbo h2] at hb2; rw [updR_other rb h2] at hg2
        exact absurd hg2 (r3 k2 h2 hb2)
    · rw [hbo hkk] at hne; rw [updR_other rb hkk] at hg
      obtain ⟨r1, r2, r3⟩ := h.rowd k' g hne hg
      refine ⟨r1, r2, fun k2 hb2 hg2 => ?_⟩
      by_cases h2 : k2 = k
      · subst h2; rw [updR_same] at hg2
        exact absurd hg ((hvo g hg2).2.2.1 k' hkk hne)
      · rw [hbo h2] at hb2; rw [updR_other rb h2] at hg2
        exact r3 k2 hb2 hg2
  · intro y hy
    rcases List.mem_append.1 hy with hy | hy
    · exact ownBlock_kept (h.pk y hy) f fun g hg => hnM g (h.pkd y hy g hg).2.1 fun hb => (h.pkd y hy g hg).2.2 k hb
    · rw [List.mem_singleton.1 hy]; exact hpk
  · intro y hy g hg
    rcases List.mem_append.1 hy with hy1 | hy
    · obtain ⟨r1, r2, r3⟩ := h.pkd y hy1 g hg
      refine ⟨r1, r2, fun k2 hb2 hg2 => ?_⟩
      by_cases h2 : k2 = k
      · subst h2; rw [updR_same] at hg2
        exact (hvo g hg2).2.2.2 y hy1 hg
      · rw [hbo h2] at hb2; rw [updR_other rb h2] at hg2
        exact r3 k2 hb2 hg2
    · rw [List.mem_singleton.1 hy] at hg
      obtain ⟨r1, r2⟩ := hnew g hg
      refine ⟨by omega, by omega, fun k2 hb2 hg2 => ?_⟩
      by_cases h2 : k2 = k
      · subst h2; rw [updR_same] at hg2; exact r2 hg2
      · rw [hbo h2] at hb2; rw [updR_other rb h2] at hg2
        have := ((h.row k2 hb2).lt g hg2).2; omega
  · rw [List.pairwise_append]
    refine ⟨h.apart, List.pairwise_singleton _ _, fun y hy z hz g hg => ?_⟩
    rw [List.mem_singleton.1 hz]
    intro e
    have := (hnew g e).1
    have := ((h.pk y hy).lt g hg).2
    omega
  · intro y hy
    rcases List.mem_append.1 hy with hy | hy
    · exact h.lens y hy
    · rw [List.mem_singleton.1 hy]; exact hx32
  · intro k'
    by_cases hkk : k' = k
    · subst hkk; rw [hbs]; simp; omega
    · rw [hbo hkk]; exact h.most k'
  · rintro g (rfl | rfl | ⟨k', hb', hg⟩ | ⟨y, hy, hg⟩)
    · exact .inl (.inl rfl)
    · exact .inl (.inr (.inl rfl))
    · by_cases hkk : k' = k
      · subst hkk
        rw [updR_same] at hg
        rcases hat with ⟨hne, he⟩ | ⟨g', he, hge⟩
        · rw [he] at hg; exact .inl (.inr (.inr (.inl ⟨k', hne, hg⟩)))
        · rw [he] at hg; cases hg; exact .inr hge
      · rw [hbo hkk] at hb'; rw [updR_other rb hkk] at hg
        exact .inl (.inr (.inr (.inl ⟨k', hb', hg⟩)))
    · rcases List.mem_append.1 hy with hy | hy
      · exact .inl (.inr (.inr (.inr ⟨y, hy, hg⟩)))
      · rw [List.mem_singleton.1 hy] at hg
        exact .inr (hnew g hg).1

/-- Packets taken away: the others stay as they were. -/
theorem NetS.less {M : Nat → Prop} {w w' : World} {p bm N N' : Nat} {rb : Lk → Value} {V V' : PkV} (h : NetS w p bm N rb V) (hsub : V'.Sublist V) (K : Lk → Prop) (hK : ∀ k, ¬ K k → bag V' k = bag V k)
    (f : Fr M w w') (hM : ∀ g, M g → g = bm ∨ ∃ k, K k ∧ bag V k ≠ [] ∧ (rb k).ownBlock = some g) {rb' : Lk → Value} (hrb : ∀ k, ¬ K k → rb' k = rb k) (hmap : MapF w' bm N' (rowsF rb' V'))
    (hrow : ∀ k, K k → bag V' k ≠ [] → w'.ownsRow 0 22 1 (rb' k) (bag V' k).length ((bag V' k).map Pk.val) ∧ (rb' k).ownBlock = (rb k).ownBlock) :
    NetS w' p bm N' rb' V' ∧ ∀ g, NetO p bm rb' V' g → NetO p bm rb V g := by
  have hne : ∀ {k : Lk}, bag V' k ≠ [] → bag V k ≠ [] := fun {k} h1 h2 => by
    obtain ⟨y, hy⟩ := List.exists_mem_of_ne_nil _ h1
    have := bag_mem.2 (hsub.subset (bag_mem.1 hy))
    rw [h2] at this; cases this
  have hblk : ∀ k, bag V' k ≠ [] → (rb' k).ownBlock = (rb k).ownBlock := fun k hk => by
    by_cases c : K k
    · exact (hrow k c hk).2
    · rw [hrb k c]
  have hnM : ∀ g, g ≠ bm → (∀ k, K k → bag V k ≠ [] → (rb k).ownBlock ≠ some g) → ¬ M g := fun g h1 h2 hm => by
    rcases hM g hm with e | ⟨k, e0, e1, e2⟩
    · exact h1 e
    · exact h2 k e0 e1 e2
  refine ⟨⟨f.at_ h.box (hnM p h.pbm fun k _ hb e => (h.rowd k p hb e).1 rfl), hmap, h.pbm, fun y hy => h.inr y (hsub.subset hy), ?_, ?_, ?_, ?_, h.apart.sublist hsub, fun y hy => h.lens y (hsub.subset hy), ?_⟩, ?_⟩
  · intro k hk
    by_cases c : K k
    · exact (hrow k c hk).1
    · rw [hrb k c, hK k c]
      have hk2 := hne hk
      exact ownBlock_kept (h.row k hk2) f fun g hg => hnM g (h.rowd k g hk2 hg).2.1 fun k2 hc2 hb2 e2 => c ((h.rowd k g hk2 hg).2.2 k2 hb2 e2 ▸ hc2)
  · intro k g hk hg
    rw [hblk k hk] at hg
    obtain ⟨r1, r2, r3⟩ := h.rowd k g (hne hk) hg
    exact ⟨r1, r2, fun k2 hb2 hg2 => r3 k2 (hne hb2) (by rw [← hblk k2 hb2]; exact hg2)⟩
  · intro y hy
    have hy2 := hsub.subset hy
    exact ownBlock_kept (h.pk y hy2) f fun g hg => hnM g (h.pkd y hy2 g hg).2.1 fun k _ hb => (h.pkd y hy2 g hg).2.2 k hb
  · intro y hy g hg
    obtain ⟨r1, r2, r3⟩ := h.pkd y (hsub.subset hy) g hg
    exact ⟨r1, r2, fun k hb e => r3 k (hne hb) (by rw [← hblk k hb]; exact e)⟩
  · intro k
    have : (bag V' k).length ≤ (bag V k).length := ((hsub.filter _).map _).length_le
    have := h.most k
    omega
  · rintro g (rfl | rfl | ⟨k, hb, hg⟩ | ⟨y, hy, hg⟩)
    · exact .inl rfl
    · exact .inr (.inl rfl)
    · exact .inr (.inr (.inl ⟨k, hne hb, by rw [← hblk k hb]; exact hg⟩))
    · exact .inr (.inr (.inr ⟨y, hsub.subset hy, hg⟩))

/-- The bytes of all packets. -/
def bytesV (V : PkV) : List (Lk × List UInt8) := V.map fun x => (x.1, x.2.l)
/-- The pointer p is a net that has these packets, in blocks of O alone. -/
def NetV (w : World) (p B : Nat) (L : List (Lk × List UInt8)) (O : Nat → Prop) : Prop := ∃ bm N rb V, NetS w p bm N rb V ∧ N ≤ B ∧ bytesV V = L ∧ (∀ g, NetO p bm rb V g → O g) ∧ ∀ g, O g → g < w.heap.size
theorem NetV.fr {M : Nat → Prop} {w w' : World} {p B : Nat} {L : List (Lk × List UInt8)} {O : Nat → Prop} (h : NetV w p B L O) (f : Fr M w w') (hm : ∀ g, O g → ¬ M g) : NetV w' p B L O := by
  obtain ⟨bm, N, rb, V, h1, h2, h3, h4, h5⟩ := h
  exact ⟨bm, N, rb, V, h1.fr f fun g hg => hm g (h4 g hg), h2, h3, h4, fun g hg => Nat.lt_of_lt_of_le (h5 g hg) f.size⟩
theorem NetV.le {w : World} {p B B' : Nat} {L : List (Lk × List UInt8)} {O : Nat → Prop} (h : NetV w p B L O) (hB : B ≤ B') : NetV w p B' L O := by
  obtain ⟨bm, N, rb, V, h1, h2, h3⟩ := h
  exact ⟨bm, N, rb, V, h1, by omega, h3⟩
/-- Blocks new in w'. -/
def New (w w' : World) (g : Nat) : Prop := w.heap.size ≤ g ∧ g < w'.heap.size
theorem bag_bytes (V : PkV) (k : Lk) : bag (bytesV V) k = (bag V k).map Pk.l := bag_map Pk.l V k
theorem drop_bytes (V : PkV) (k : Lk) (n : Nat) : dropL (bytesV V) k n = bytesV (dropL V k n) := drop_map Pk.l V k n
theorem clear_bytes (V : PkV) (a b : Int) : clearL (bytesV V) a b = bytesV (clearL V a b) := clear_map Pk.l V a b
theorem links_bytes (V : PkV) : linksL (bytesV V) = linksL V := links_map Pk.l V
end Go.Proofs.Ytmgkenbfjlahpaa
