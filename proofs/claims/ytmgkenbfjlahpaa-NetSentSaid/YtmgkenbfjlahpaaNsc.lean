/-
  Nsc: sixteen rows of packets in one box, beside a net.
-/
import Derived.Test.YtmgkenbfjlahpaaNsb
namespace Go.Proofs.Ytmgkenbfjlahpaa
open Go.RowKit Go.WideMaps Go.Sort

theorem own_not {w : World} {b e e' s n T : Nat} {v : Value} {xs : List Value} {cs : Array Value} {z : Nat × Nat} (h : w.ownsRow b e s v n xs) (hb : w.heap[T]? = some (.cells cs e' z)) (hne : e ≠ e') {g : Nat} (hg : v.ownBlock = some g) : g ≠ T := fun hx => by
  subst hx
  rcases h.2 with ⟨r, _⟩ | ⟨g1, c1, u1, r, _, hh, _⟩
  · rw [r] at hg; cases hg
  rw [r] at hg
  obtain rfl : g1 = g := by simpa [Value.ownBlock] using hg
  rw [hh] at hb
  simp only [Option.some.injEq, Obj.cells.injEq] at hb
  exact hne hb.2.1
theorem OR.keep {W : World} {X : Nat → Prop} {v : Value} {V : List Pk} (h : OR W X v V) {M : Nat → Prop} {W' : World} (f : Fr M W W') (h1 : ∀ g, v.ownBlock = Option.some g → ¬ M g) (h2 : ∀ x ∈ V, ∀ g, x.val.ownBlock = Option.some g → ¬ M g) : OR W' X v V :=
  ⟨ownBlock_kept h.row f h1, fun x hx => ownBlock_kept (h.pk x hx) f (h2 x hx), h.ov, h.ox, h.lens⟩
def updN {α : Type} (f : Nat → α) (k : Nat) (v : α) (k' : Nat) : α := if k' = k then v else f k'
theorem updN_same {α : Type} (f : Nat → α) (k : Nat) (v : α) : updN f k v k = v := if_pos rfl
theorem updN_other {α : Type} (f : Nat → α) {k k' : Nat} (h : k' ≠ k) (v : α) : updN f k v k' = f k' := if_neg h

/-- Sixteen rows of packets in the box T. -/
structure TS (W : World) (X : Nat → Prop) (T : Nat) (s : Nat → Value) (V : Nat → List Pk) : Prop where
  box : ∃ cs, W.heap[T]? = some (.cells cs 54 (0, 0)) ∧ ∀ k, k < 16 → cs[k]? = some (s k)
  rows : ∀ k, k < 16 → OR W X (s k) (V k)
  ap : ∀ k k' g, k < 16 → k' < 16 → (s k).ownBlock = some g → (s k').ownBlock = some g → k = k'
  tx : X T
section
variable {W : World} {X : Nat → Prop} {T : Nat} {s : Nat → Value} {V : Nat → List Pk}
theorem TS.fr (h : TS W X T s V) {M : Nat → Prop} {W' : World} (f : Fr M W W') (hm : ∀ g, X g → ¬ M g) : TS W' X T s V := by
  obtain ⟨cs, h1, h2⟩ := h.box
  exact ⟨⟨cs, f.at_ h1 (hm _ h.tx), h2⟩, fun k hk => (h.rows k hk).fr f hm, h.ap, h.tx⟩
theorem TS.mono (h : TS W X T s V) {Y : Nat → Prop} (hX : ∀ g, X g → Y g) : TS W Y T s V := ⟨h.box, fun k hk => (h.rows k hk).mono hX, h.ap, hX _ h.tx⟩
theorem TS.cell (h : TS W X T s V) {k : Nat} (hk : k < 16) : W.cell? ⟨T, k, none⟩ = some (s k) := by
  obtain ⟨cs, h1, h2⟩ := h.box
  rw [Lib.cell_of_heap h1]; exact h2 k hk
theorem TS.frozen (h : TS W X T s V) (k : Nat) : W.frozen? ⟨T, k, none⟩ = false := by
  obtain ⟨cs, h1, h2⟩ := h.box
  exact Lib.frozen_of_heap h1 k
theorem TS.thaw (h : TS W X T s V) {k : Nat} (hk : k < 16) {W' : World} (f : Fr (fun g => (s k).ownBlock = some g) W W') : W'.cell? ⟨T, k, none⟩ = some (s k) ∧ W'.frozen? ⟨T, k, none⟩ = false := by
  obtain ⟨cs, h1, h2⟩ := h.box
  have e1 : 22 ≠ 54 := by decide
  have h3 := f.at_ h1 (fun hm => own_not (h.rows k hk).row h1 e1 hm rfl)
  exact ⟨by rw [Lib.cell_of_heap h3]; exact h2 k hk, Lib.frozen_of_heap h3 k⟩
/-- One of the rows anew. -/
theorem TS.put (h : TS W X T s V) {k : Nat} (hk : k < 16) {M : Nat → Prop} {W' : World} (f : Fr M W W') (hM : ∀ g, M g → (s k).ownBlock = some g) {X' : Nat → Prop} (hX : ∀ g, X g → X' g) {v' : Value} {R : List Pk} (hv : OR W' X' v' R) (hn : ∀ g, v'.ownBlock = some g → (s k).ownBlock = some g ∨ W.heap.size ≤ g) :
    TS (W'.setCell ⟨T, k, none⟩ v') X' T (updN s k v') (updN V k R) := by
  obtain ⟨cs, h1, h2⟩ := h.box
  have e1 : 22 ≠ 54 := by decide
  have e2 : 5 ≠ 54 := by decide
  have e3 : 5 ≠ 22 := by decide
  have hT : ¬ M T := fun hm => own_not (h.rows k hk).row h1 e1 (hM T hm) rfl
  have h3 := f.at_ h1 hT
  have hf2 : Fr (fun g => g = T) W' (W'.setCell ⟨T, k, none⟩ v') := (Fr.refl (fun g => g = T) W').setCell (p := ⟨T, k, none⟩) (fun _ => rfl) v'
  have hset : ∀ (X2 : Nat → Prop) (u : Value) (R2 : List Pk), OR W' X2 u R2 → OR (W'.setCell ⟨T, k, none⟩ v') X2 u R2 := fun X2 u R2 ho => ho.keep hf2 (fun g hg e => own_not ho.row h3 e1 hg e) (fun x hx g hg e => own_not (ho.pk x hx) h3 e2 hg e)
  refine ⟨⟨cs.setIfInBounds k v', by simp [World.setCell, Array.getElem?_modify, h3], fun k' hk' => ?_⟩, fun k' hk' => ?_, fun i j g hi hj hgi hgj => ?_, hX _ h.tx⟩
  · by_cases e : k' = k
    · subst e
      rw [updN_same, Array.getElem?_setIfInBounds_self_of_lt]
      have := h2 k' hk
      exact (Array.getElem?_eq_some_iff.1 this).1
    · rw [updN_other _ e, Array.getElem?_setIfInBounds_ne (Ne.symm e)]
      exact h2 k' hk'
  · by_cases e : k' = k
    · subst e
      rw [updN_same, updN_same]
      exact hset _ _ _ hv
    · rw [updN_other _ e, updN_other _ e]
      refine hset _ _ _ (((h.rows k' hk').keep f (fun g hg hm => e (h.ap k' k g hk' hk hg (hM g hm))) (fun x hx g hg hm => ?_)).mono hX)
      exact own_apart ((h.rows k' hk').pk x hx) (h.rows k hk).row e3 hg (hM g hm)
  · have hlow : ∀ i, i < 16 → i ≠ k → ∀ g, (s i).ownBlock = some g → v'.ownBlock ≠ some g := fun i hi hik g hg hv2 => by
      rcases hn g hv2 with e | e
      · exact hik (h.ap i k g hi hk hg e)
      · have := ((h.rows i hi).row.lt g hg).2
        omega
    by_cases ei : i = k
    · by_cases ej : j = k
      · omega
      · rw [ei, updN_same] at hgi
        rw [updN_other _ ej] at hgj
        exact absurd hgi (hlow j hj ej g hgj)
    · rw [updN_other _ ei] at hgi
      by_cases ej : j = k
      · rw [ej, updN_same] at hgj
        exact absurd hgj (hlow i hi ei g hgi)
      · rw [updN_other _ ej] at hgj
        exact h.ap i j g hi hj hgi hgj
end
def keyN (k : Nat) : Lk := (((k / 4 : Nat) : Int), ((k % 4 : Nat) : Int))
theorem keyN_inj {j k : Nat} (h : keyN j = keyN k) : j = k := by
  simp only [keyN, Prod.mk.injEq] at h
  omega
/-- The net and the sixteen rows: the same packets, in whichever order. -/
structure NS (w W : World) (X : Nat → Prop) (p B : Nat) (L : List (Lk × List UInt8)) (T : Nat) (s : Nat → Value) (V : Nat → List Pk) : Prop where
  net : BN w W X p B L
  there : TS W X T s V
  low : ∀ g, X g → w.heap.size ≤ g
  perm : ∀ k, k < 16 → ((V k).map Pk.l).Perm (bag L (keyN k))
  few : ∀ k, k < 16 → (bag L (keyN k)).length ≤ 32
section
variable {w W : World} {X : Nat → Prop} {p B T : Nat} {L : List (Lk × List UInt8)} {s : Nat → Value} {V : Nat → List Pk}
theorem NS.step (h : NS w W X p B L T s V) {W' : World} (f : Fr NoB W W') : NS w W' X p B L T s V := ⟨h.net.step f, h.there.fr f (fun _ _ x => x), h.low, h.perm, h.few⟩
theorem NS.le (h : NS w W X p B L T s V) {B' : Nat} (hB : B ≤ B') : NS w W X p B' L T s V := ⟨h.net.le hB, h.there, h.low, h.perm, h.few⟩
theorem NS.box (h : NS w W X p B L T s V) (o : Obj) : NS w (W.alloc o) (fun g => X g ∨ g = W.heap.size) p B L T s V :=
  ⟨h.net.add ((Fr.refl NoB W).alloc o) (fun g hg => hg.imp id fun e => ⟨by omega, by rw [World.size_alloc]; omega⟩), (h.there.fr ((Fr.refl NoB W).alloc o) (fun _ _ x => x)).mono (fun g hg => .inl hg), fun g hg => hg.elim (h.low g) fun e => by rw [e]; exact h.net.fr.size, h.perm, h.few⟩
theorem NS.len (h : NS w W X p B L T s V) {k : Nat} (hk : k < 16) : (V k).length = (bag L (keyN k)).length := by
  have := (h.perm k hk).length_eq
  rwa [List.length_map] at this
theorem NS.lens (h : NS w W X p B L T s V) {k : Nat} (hk : k < 16) : ∀ l ∈ bag L (keyN k), l.length ≤ 1048576 := fun l hl => by
  have := (h.perm k hk).mem_iff.2 hl
  obtain ⟨x, hx, rfl⟩ := List.mem_map.1 this
  exact (h.there.rows k hk).lens x hx
/-- The net went on beside the rows. -/
theorem NS.went (h : NS w W X p B L T s V) {W' : World} {Y : Nat → Prop} {B' : Nat} {L' : List (Lk × List UInt8)} (n : BN w W' Y p B' L') (f : Fr (fun g => ¬ X g) W W') : TS W' X T s V := h.there.fr f (fun g hg hx => hx hg)
/-- The net alone went on, its bags as before. -/
theorem NS.alone (h : NS w W X p B L T s V) {W' : World} {B' : Nat} {L' : List (Lk × List UInt8)} (n : BN w W' X p B' L') (f : Fr (fun g => ¬ X g) W W') (hb : ∀ q, bag L' q = bag L q) : NS w W' X p B' L' T s V :=
  ⟨n, h.there.fr f (fun g hg hx => hx hg), h.low, fun k hk => by rw [hb]; exact h.perm k hk, fun k hk => by rw [hb]; exact h.few k hk⟩
/-- Both went on: the row of k anew. -/
theorem NS.both (h : NS w W X p B L T s V) {k : Nat} (hk : k < 16) {W' : World} {X' : Nat → Prop} {B' : Nat} {L' : List (Lk × List UInt8)} {v' : Value} {R : List Pk} (n : BN w W' X' p B' L') (t : TS W' X' T (updN s k v') (updN V k R)) (hl : ∀ g, X' g → w.heap.size ≤ g)
    (hp : (R.map Pk.l).Perm (bag L' (keyN k))) (hf : (bag L' (keyN k)).length ≤ 32) (ho : ∀ q, q ≠ keyN k → bag L' q = bag L q) : NS w W' X' p B' L' T (updN s k v') (updN V k R) := by
  refine ⟨n, t, hl, fun j hj => ?_, fun j hj => ?_⟩
  · by_cases e : j = k
    · subst e; rw [updN_same]; exact hp
    · rw [updN_other _ e, ho _ (fun he => e (keyN_inj he))]; exact h.perm j hj
  · by_cases e : j = k
    · subst e; exact hf
    · rw [ho _ (fun he => e (keyN_inj he))]; exact h.few j hj
/-- One packet more on a link, and in its row. -/
theorem NS.more (h : NS w W X p B L T s V) {k : Nat} (hk : k < 16) {W1 W2 W4 : World} {B' : Nat} {L' : List (Lk × List UInt8)} {x : Pk} {o : Obj} {v' : Value} (n : BN w W1 X p B' L') (f1 : Fr (fun g => ¬ X g) W W1) (f2 : Fr NoB W1 W2) (hx : W2.ownsRow 0 5 1 x.val x.l.length (bv x.l)) (hxn : ∀ g, x.val.ownBlock = some g → X g ∨ New W1 W2 g) (hl : x.l.length ≤ 1048576)
    (a : App 0 22 1 (s k) ((V k).length + 1) ((V k).map Pk.val ++ [x.val]) (W2.alloc o) v' W4) (hb : bag L' (keyN k) = bag L (keyN k) ++ [x.l]) (ho : ∀ q, q ≠ keyN k → bag L' q = bag L q) (h32 : (bag L (keyN k)).length < 32) :
    ∃ X', NS w (W4.setCell ⟨T, k, none⟩ v') X' p B' L' T (updN s k v') (updN V k (V k ++ [x])) := by
  have n2 : BN w W2 (fun g => X g ∨ x.val.ownBlock = some g) p B' L' := n.add f2 (fun g hg => hg.elim .inl (hxn g))
  have n3 := n2.step ((Fr.refl NoB W2).alloc o)
  have t2 : TS W2 (fun g => X g ∨ x.val.ownBlock = some g) T s V := (((h.there.fr f1 (fun g hg hx => hx hg)).fr f2 (fun _ _ x => x))).mono (fun g hg => .inl hg)
  have t3 := t2.fr ((Fr.refl NoB W2).alloc o) (fun _ _ x => x)
  have hx3 := own_step hx ((Fr.refl NoB W2).alloc o)
  have hor := (t3.rows k hk).push hx3 (fun g hg => .inr hg) hl a
  have hnew : ∀ g, v'.ownBlock = some g → (s k).ownBlock = some g ∨ (W2.alloc o).heap.size ≤ g := fun g hg => by
    rcases a.at_ with e | e
    · rw [e] at hg; exact .inl hg
    · rw [e] at hg; cases hg; exact .inr (Nat.le_refl _)
  have t4 := t3.put hk a.fr (fun g hg => hg) (fun g hg => .inl hg) hor hnew
  have hsz : w.heap.size ≤ (W2.alloc o).heap.size := n3.fr.size
  have hlow : ∀ g, X g ∨ x.val.ownBlock = some g → w.heap.size ≤ g := fun g hg => by
    rcases hg with hg | hg
    · exact h.low g hg
    · rcases hxn g hg with hg | hg
      · exact h.low g hg
      · exact Nat.le_trans n.fr.size hg.1
  have f4 : Fr (fun g => g = T ∨ (s k).ownBlock = some g) (W2.alloc o) (W4.setCell ⟨T, k, none⟩ v') := (a.fr.mono fun g _ hg => .inr hg).setCell (p := ⟨T, k, none⟩) (fun _ => .inl rfl) v'
  have n4 : BN w (W4.setCell ⟨T, k, none⟩ v') (fun g => (X g ∨ x.val.ownBlock = some g) ∨ v'.ownBlock = some g) p B' L' := by
    refine n3.join f4 (fun g hg => ?_) (fun g hg => ?_)
    · rcases hg with hg | hg
      · rw [hg]; exact ⟨.inl h.there.tx, h.low _ h.there.tx⟩
      · exact ⟨.inl ((h.there.rows k hk).ov g hg), h.low _ ((h.there.rows k hk).ov g hg)⟩
    · rcases hg with hg | hg
      · exact .inl hg
      · rcases hnew g hg with e | e
        · exact .inl (.inl ((h.there.rows k hk).ov g e))
        · exact .inr ⟨e, by have := (a.own.lt g hg).2; simpa using this⟩
  refine ⟨_, h.both hk n4 t4 (fun g hg => ?_) ?_ (by rw [hb, List.length_append]; simp; omega) ho⟩
  · rcases hg with hg | hg
    · exact hlow g hg
    · rcases hnew g hg with e | e
      · exact h.low g ((h.there.rows k hk).ov g e)
      · exact Nat.le_trans hsz e
  · rw [hb, List.map_append]
    exact (h.perm k hk).append_right _
/-- A link is cleared, and its two rows. -/
theorem NS.cleared (h : NS w W X p B L T s V) {k k' : Nat} (hk : k < 16) (hk' : k' < 16) {a b : Int} (e : keyN k = (a, b)) (e' : keyN k' = (b, a)) {W1 : World} (n : BN w W1 X p B (clearL L a b)) (f : Fr (fun g => ¬ X g) W W1) :
    NS w ((W1.setCell ⟨T, k, none⟩ (.slice none 0 0)).setCell ⟨T, k', none⟩ (.slice none 0 0)) X p B (clearL L a b) T (updN (updN s k (.slice none 0 0)) k' (.slice none 0 0)) (updN (updN V k []) k' []) := by
  have t1 := h.there.fr f (fun g hg hx => hx hg)
  have t2 := t1.put hk (Fr.refl NoB W1) (fun _ x => x.elim) (fun _ x => x) (OR.nil W1 X) (fun g hg => by simp [Value.ownBlock] at hg)
  have t3 := t2.put hk' (Fr.refl NoB _) (fun _ x => x.elim) (fun _ x => x) (OR.nil _ X) (fun g hg => by simp [Value.ownBlock] at hg)
  have f2 : Fr (fun g => g = T) W1 ((W1.setCell ⟨T, k, none⟩ (.slice none 0 0)).setCell ⟨T, k', none⟩ (.slice none 0 0)) := ((Fr.refl (fun g => g = T) W1).setCell (p := ⟨T, k, none⟩) (fun _ => rfl) _).setCell (p := ⟨T, k', none⟩) (fun _ => rfl) _
  refine ⟨n.join f2 (fun g hg => by rw [hg]; exact ⟨h.there.tx, h.low _ h.there.tx⟩) (fun g hg => .inl hg), t3, h.low, fun j hj => ?_, fun j hj => ?_⟩
  · rw [bag_clear]
    by_cases c2 : j = k'
    · subst c2; rw [updN_same, if_pos (.inr e')]; exact List.Perm.refl _
    · rw [updN_other _ c2]
      by_cases c1 : j = k
      · subst c1; rw [updN_same, if_pos (.inl e)]; exact List.Perm.refl _
      · rw [updN_other _ c1, if_neg (fun c => c.elim (fun c => c1 (keyN_inj (c.trans e.symm))) (fun c => c2 (keyN_inj (c.trans e'.symm))))]
        exact h.perm j hj
  · rw [bag_clear]
    split
    · exact Nat.zero_le _
    · exact h.few j hj
theorem perm_less {α : Type} {a g : List α} {i n : Nat} {x : α} (h : a.Perm g) (hi : a[i]? = some x) (hn : g[n]? = some x) : (a.take i ++ a.drop (i + 1)).Perm (g.eraseIdx n) := by
  have key : ∀ (l : List α) (j : Nat), l[j]? = some x → l.Perm (x :: (l.take j ++ l.drop (j + 1))) := fun l j hj => by
    obtain ⟨hl, he⟩ := List.getElem?_eq_some_iff.1 hj
    have e : l = l.take j ++ x :: l.drop (j + 1) := by rw [← he, ← List.drop_eq_getElem_cons hl, List.take_append_drop]
    exact (List.Perm.of_eq e).trans List.perm_middle
  rw [List.eraseIdx_eq_take_drop_succ]
  exact (((key a i hi).symm.trans h).trans (key g n hn)).cons_inv
/-- The row of k anew, of packets that it had. -/
theorem NS.less (h : NS w W X p B L T s V) {k : Nat} (hk : k < 16) {W1 W5 : World} {B' : Nat} {L' : List (Lk × List UInt8)} {v5 : Value} {R : List Pk} (n : BN w W1 X p B' L') (f1 : Fr (fun g => ¬ X g) W W1) (f2 : Fr NoB W1 W5) (ho : W5.ownsRow W1.heap.size 22 1 v5 R.length (R.map Pk.val)) (hR : ∀ x ∈ R, x ∈ V k)
    (hp : (R.map Pk.l).Perm (bag L' (keyN k))) (hf : (bag L' (keyN k)).length ≤ 32) (hq : ∀ q, q ≠ keyN k → bag L' q = bag L q) : ∃ X', NS w (W5.setCell ⟨T, k, none⟩ v5) X' p B' L' T (updN s k v5) (updN V k R) := by
  have t1 := h.there.fr f1 (fun g hg hx => hx hg)
  have t2 := t1.fr f2 (fun _ _ x => x)
  have hor : OR W5 (fun g => X g ∨ v5.ownBlock = some g) v5 R := ⟨nown_base ho (Nat.zero_le _), fun x hx => (t2.rows k hk).pk x (hR x hx), fun g hg => .inr hg, fun x hx g hg => .inl ((t2.rows k hk).ox x (hR x hx) g hg), fun x hx => (t2.rows k hk).lens x (hR x hx)⟩
  have t3 := t1.put hk f2 (fun _ x => x.elim) (fun g hg => .inl hg) hor (fun g hg => .inr (ho.lt g hg).1)
  have f4 : Fr (fun g => g = T) W1 (W5.setCell ⟨T, k, none⟩ v5) := (f2.no (M := fun g => g = T)).setCell (p := ⟨T, k, none⟩) (fun _ => rfl) v5
  have n4 : BN w (W5.setCell ⟨T, k, none⟩ v5) (fun g => X g ∨ v5.ownBlock = some g) p B' L' := n.join f4 (fun g hg => by rw [hg]; exact ⟨h.there.tx, h.low _ h.there.tx⟩) (fun g hg => hg.imp id fun e => ⟨(ho.lt g e).1, by have := (ho.lt g e).2; simpa using this⟩)
  exact ⟨_, h.both hk n4 t3 (fun g hg => hg.elim (h.low g) fun e => Nat.le_trans n.fr.size (ho.lt g e).1) hp hf hq⟩
end
end Go.Proofs.Ytmgkenbfjlahpaa
