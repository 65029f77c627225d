/-
  Det: a row of parts that are read: its laws.
-/
import Derived.Test.YtljioepkbbbibaaDoorDes
import Derived.Deep.RegionHeld3
import Derived.Deep.AppendLies
namespace Go.Proofs.YtljioepkbbbibaaDoor
open Go.RowKit

/-- The cells of parts, side by side. -/
def pv (l : List (Fd × Pl)) : List Value := l.flatMap fun x => (dcells x.1 x.2 0).toList
@[simp] theorem pv_nil : pv [] = [] := rfl
theorem pv_cons (x : Fd × Pl) (l : List (Fd × Pl)) : pv (x :: l) = (dcells x.1 x.2 0).toList ++ pv l := rfl
theorem pv_append (a b : List (Fd × Pl)) : pv (a ++ b) = pv a ++ pv b := by simp [pv]
theorem pv_one (x : Fd × Pl) : pv [x] = (dcells x.1 x.2 0).toList := by simp [pv]
theorem dcells_one (f : Fd) (p : Pl) (n : Nat) : ∀ v ∈ (dcells f p n).toList, v.oneCell' = true := by
  intro v hv
  simp only [dcells, List.mem_cons, List.not_mem_nil, or_false] at hv
  rcases hv with h | h | h | h | h | h | h | h | h | h | h | h | h | h | h | h <;> subst h <;> rfl
theorem pv_oneCell (l : List (Fd × Pl)) : ∀ v ∈ pv l, v.oneCell' = true := by
  intro v hv
  obtain ⟨x, _, hx⟩ := List.mem_flatMap.1 hv
  exact dcells_one _ _ _ v hx
@[simp] theorem pv_length (l : List (Fd × Pl)) : (pv l).length = l.length * 16 := by
  induction l with
  | nil => rfl
  | cons x l ih => rw [pv_cons, List.length_append, ih]; simp [dcells]; omega
theorem pv_get {l : List (Fd × Pl)} {i : Nat} {x : Fd × Pl} (h : l[i]? = some x) (j : Nat) (v : Value) (hv : (dcells x.1 x.2 0)[j]? = some v) : (pv l)[i * 16 + j]? = some v := by
  induction l generalizing i with
  | nil => simp at h
  | cons y l ih =>
    have hj : j < 16 := by
      have := (Array.getElem?_eq_some_iff.1 hv).1
      simpa [dcells] using this
    rw [pv_cons]
    cases i with
    | zero =>
      simp only [List.getElem?_cons_zero, Option.some.injEq] at h
      subst h
      rw [Nat.zero_mul, Nat.zero_add, List.getElem?_append_left (by simp [dcells]; omega)]
      simpa using hv
    | succ i =>
      rw [List.getElem?_cons_succ] at h
      have h16 : (dcells y.1 y.2 0).toList.length = 16 := by simp [dcells]
      rw [List.getElem?_append_right (by rw [h16]; omega), h16, show (i + 1) * 16 + j - 16 = i * 16 + j by omega]
      exact ih h
/-- A part that was read: where its lists lie, off the row V. -/
structure PartAt (w0 w : World) (V : Value) (x : Fd × Pl) : Prop where
  e : ∃ lo hi, w0.heap.size ≤ lo ∧ hi ≤ w.heap.size ∧ (∀ g, V.ownBlock = some g → ¬ (lo ≤ g ∧ g < hi)) ∧ w.ownsRow lo 5 1 (.slice x.2.A x.1.data.length x.2.c) x.1.data.length (bv x.1.data) ∧ (∀ g, (Value.slice x.2.A x.1.data.length x.2.c).ownBlock = some g → g < hi) ∧ RdM w lo hi x.2.B x.1.c.2 ∧ x.2.P = none ∧ x.2.e = 0
theorem PartAt.keep {w0 w w1 : World} {V V1 : Value} {x : Fd × Pl} {M : Nat → Prop} (h : PartAt w0 w V x) (f : Fr M w w1) (hm : ∀ k, M k → k < w0.heap.size ∨ w.heap.size ≤ k ∨ V.ownBlock = some k) (hv : ∀ g, V1.ownBlock = some g → V.ownBlock = some g ∨ w.heap.size ≤ g) : PartAt w0 w1 V1 x := by
  obtain ⟨lo, hi, h1, h2, h3, h4, h5, h6, h7⟩ := h.e
  have hfar : ∀ k, lo ≤ k → k < hi → ¬ M k := fun k a b c => by
    rcases hm k c with h | h | h
    · omega
    · omega
    · exact h3 k h ⟨a, b⟩
  refine ⟨lo, hi, h1, Nat.le_trans h2 f.size, fun g hg => ?_, own_by h4 f fun g hg => hfar g (h4.lt g hg).1 (h5 g hg), h5, h6.fr f h2 hfar, h7⟩
  rcases hv g hg with h | h
  · exact h3 g h
  · omega
/-- Parts under way: the deed's box, the row of its parts. -/
structure DP (w0 w : World) (lo pr b : Nat) (st : RSt) (f : Fd) (V : Value) (L : List (Fd × Pl)) : Prop where
  r : DR w0 w lo pr b st ((dcells f pl0 0).setIfInBounds 15 V)
  own : w.ownsRow w0.heap.size 31 16 V L.length (pv L)
  parts : ∀ x ∈ L, PartAt w0 w V x
  hb : b < w0.heap.size
theorem DP.read {w0 w w1 : World} {lo pr b : Nat} {st st1 : RSt} {f : Fd} {V : Value} {L : List (Fd × Pl)} (h : DP w0 w lo pr b st f V L) (a : Rdr w1 lo pr st1) (fr : Fr (OneB pr) w w1) : DP w0 w1 lo pr b st1 f V L := by
  have h2 := h.r.lo2
  have hb := h.hb
  exact ⟨h.r.read a fr, own_by h.own fr (fun g hg => by have := (h.own.lt g hg).1; simp only [OneB]; omega), fun x hx => (h.parts x hx).keep fr (fun k hk => by simp only [OneB] at hk; omega) (fun g hg => .inl hg), hb⟩
theorem DP.keep {w0 w w1 : World} {lo pr b : Nat} {st : RSt} {f : Fd} {V : Value} {L : List (Fd × Pl)} (h : DP w0 w lo pr b st f V L) (fr : Fr NoB w w1) : DP w0 w1 lo pr b st f V L :=
  ⟨h.r.keep fr, own_by h.own fr (fun _ _ x => x), fun x hx => (h.parts x hx).keep fr (fun _ hk => hk.elim) (fun _g hg => .inl hg), h.hb⟩
/-- One part more. -/
theorem DP.push {w0 w w' : World} {lo pr b : Nat} {st : RSt} {f : Fd} {V V' : Value} {L : List (Fd × Pl)} {x : Fd × Pl} (h : DP w0 w lo pr b st f V L) (hx : PartAt w0 w V x) (fa : Fr (fun k => V.ownBlock = some k ∨ k = b) w w') (hV : ∀ g, V'.ownBlock = some g → V.ownBlock = some g ∨ w.heap.size ≤ g) (hbx : w'.heap[b]? = some (.cells ((dcells f pl0 0).setIfInBounds 15 V') 31 (0, 0))) (ho : w'.ownsRow w0.heap.size 31 16 V' (L.length + 1) (pv L ++ pv [x])) : DP w0 w' lo pr b st f V' (L ++ [x]) := by
  have h1 := h.r.lo1
  have h2 := h.r.lo2
  have hb := h.hb
  have hV0 : ∀ k, V.ownBlock = some k → w0.heap.size ≤ k := fun k hk => (h.own.lt k hk).1
  have hM : ∀ k, (V.ownBlock = some k ∨ k = b) → k < w0.heap.size ∨ w.heap.size ≤ k ∨ V.ownBlock = some k := fun k hk => by
    rcases hk with hk | hk
    · exact .inr (.inr hk)
    · omega
  refine ⟨⟨h.r.a.fr fa (fun k _ hk hx => ?_) h1, h.r.fr.trans fa (fun k hk hx => ?_), hbx, h1, h2⟩, by rw [List.length_append, pv_append]; exact ho, fun y hy => ?_, hb⟩
  · rcases hx with hx | hx
    · have := hV0 k hx; omega
    · omega
  · rcases hx with hx | hx
    · have := hV0 k hx; omega
    · exact .inr hx
  · rcases List.mem_append.1 hy with hy | hy
    · exact (h.parts y hy).keep fa hM hV
    · simp only [List.mem_singleton] at hy
      subst hy
      exact hx.keep fa hM hV
def setL (xs : List Value) (o : Nat) : List Value → List Value
  | [] => xs
  | v :: r => setL (xs.set o v) (o + 1) r
theorem setL_tail (a z vs : List Value) (h : z.length = vs.length) : setL (a ++ z) a.length vs = a ++ vs := by
  induction vs generalizing a z with
  | nil => simp at h; subst h; rfl
  | cons v r ih =>
    cases z with
    | nil => simp at h
    | cons y z =>
      have e : (a ++ y :: z).set a.length v = (a ++ [v]) ++ z := by simp
      have := ih (a ++ [v]) z (by simpa using h)
      rw [List.length_append, List.length_singleton] at this
      rw [setL, e, this]
      simp
theorem own_setCells {base : Nat} {e : TypeId} {size g n cap : Nat} (vs : List Value) : ∀ {w : World} {xs : List Value} (o : Nat), w.ownsRow base e size (.slice (some ⟨g, 0, none⟩) n cap) n xs → (w.setCells g o vs).ownsRow base e size (.slice (some ⟨g, 0, none⟩) n cap) n (setL xs o vs) := by
  induction vs with
  | nil => intro w xs o h; exact h
  | cons v r ih => intro w xs o h; exact ih (o + 1) (h.stored o v).1
theorem fr_setCells {M : Nat → Prop} {a : World} {g : Nat} (hg : g < a.heap.size → M g) (vs : List Value) : ∀ {w : World} (o : Nat), Fr M a w → Fr M a (w.setCells g o vs) := by
  induction vs with
  | nil => intro w o h; exact h
  | cons v r ih => intro w o h; exact ih (o + 1) (h.setCell (p := ⟨g, o, none⟩) hg v)
theorem size_setCells {g : Nat} (vs : List Value) : ∀ {w : World} (o : Nat), (w.setCells g o vs).heap.size = w.heap.size := by
  induction vs with
  | nil => intro w o; rfl
  | cons v r ih => intro w o; rw [World.setCells, ih]; simp [World.setCell]
theorem set15 (f : Fd) (p : Pl) (V V' : Value) : ((dcells f p 0).setIfInBounds 15 V).setIfInBounds 15 V' = (dcells f p 0).setIfInBounds 15 V' := by simp [dcells]
/-- The element is appended whole, and the new row stored. -/
theorem DP.pushB {w0 w w' : World} {lo pr b : Nat} {st : RSt} {f : Fd} {V : Value} {L : List (Fd × Pl)} {x : Fd × Pl} {o : Obj} {g cap n : Nat} (hn : L.length = n) (h : DP w0 w lo pr b st f V L) (hx : PartAt w0 w V x) (ho : w'.ownsRow w0.heap.size 31 16 (.slice (some ⟨g, 0, none⟩) (n + 1) cap) (n + 1) (pv L ++ pv [x])) (hg : (w.alloc o).grownBy w' V.ownBlock) (hat : V.ownBlock = some g ∨ g = w.heap.size + 1) :
    DP w0 (w'.setCell ⟨b, 15, none⟩ (.slice (some ⟨g, 0, none⟩) (n + 1) cap)) lo pr b st f (.slice (some ⟨g, 0, none⟩) (n + 1) cap) (L ++ [x]) := by
  subst hn
  have fa : Fr (fun k => V.ownBlock = some k ∨ k = b) w w' := ((Fr.refl _ w).alloc o).trans (Fr.ofGrown (M := fun k => V.ownBlock = some k) hg (fun k _ h => h)) (fun k _ hk => .inl hk)
  have hb := h.hb
  have hgb : w0.heap.size ≤ g := (ho.lt g rfl).1
  refine h.push hx (fa.setCell (p := ⟨b, 15, none⟩) (fun _ => .inr rfl) _) (fun k hk => ?_) ?_ (own_by ho ((Fr.refl (OneB b) w').setCell (p := ⟨b, 15, none⟩) (fun _ => rfl) _) (fun k hk => ?_))
  · have hk : g = k := by simpa [Value.ownBlock] using hk
    subst hk
    rcases hat with h | h
    · exact .inl h
    · right; omega
  · have hbx := (hg.block b (by have := Lib.lt_of_heap h.r.bx; simp; omega) (fun e => by have := (h.own.lt b e.symm).1; omega)).trans ((Below.heap_alloc w o b (Lib.lt_of_heap h.r.bx)).trans h.r.bx)
    rw [heap_set hbx, set15]
  · have hk : g = k := by simpa [Value.ownBlock] using hk
    simp only [OneB]; omega
/-- A zero is appended, the new row stored, and the element stored into it. -/
theorem DP.pushA {w0 w w' : World} {lo pr b : Nat} {st : RSt} {f : Fd} {V : Value} {L : List (Fd × Pl)} {x : Fd × Pl} {o : Obj} {g cap n : Nat} {zs : List Value} (hz : zs.length = 16) (hn : L.length = n) (h : DP w0 w lo pr b st f V L) (hx : PartAt w0 w V x) (ho : w'.ownsRow w0.heap.size 31 16 (.slice (some ⟨g, 0, none⟩) (n + 1) cap) (n + 1) (pv L ++ zs)) (hg : (w.alloc o).grownBy w' V.ownBlock) (hat : V.ownBlock = some g ∨ g = w.heap.size + 1) :
    DP w0 ((w'.setCell ⟨b, 15, none⟩ (.slice (some ⟨g, 0, none⟩) (n + 1) cap)).setCells g (n * 16) (dcells x.1 x.2 0).toList) lo pr b st f (.slice (some ⟨g, 0, none⟩) (n + 1) cap) (L ++ [x]) := by
  subst hn
  have fa : Fr (fun k => V.ownBlock = some k ∨ k = b) w w' := ((Fr.refl _ w).alloc o).trans (Fr.ofGrown (M := fun k => V.ownBlock = some k) hg (fun k _ h => h)) (fun k _ hk => .inl hk)
  have hb := h.hb
  have hgb : w0.heap.size ≤ g := (ho.lt g rfl).1
  have fb := fa.setCell (p := ⟨b, 15, none⟩) (fun _ => .inr rfl) (.slice (some ⟨g, 0, none⟩) (L.length + 1) cap)
  have ho2 := own_by ho ((Fr.refl (OneB b) w').setCell (p := ⟨b, 15, none⟩) (fun _ => rfl) (.slice (some ⟨g, 0, none⟩) (L.length + 1) cap)) (fun k hk => by
    have hk : g = k := by simpa [Value.ownBlock] using hk
    simp only [OneB]; omega)
  have ho3 := own_setCells (dcells x.1 x.2 0).toList (L.length * 16) ho2
  have hpl : (pv L).length = L.length * 16 := pv_length L
  rw [← hpl, setL_tail (pv L) zs _ (by rw [hz]; simp [dcells]), hpl] at ho3
  refine h.push hx (fr_setCells (fun hlt => ?_) _ _ fb) (fun k hk => ?_) ?_ (by rw [pv_one]; exact ho3)
  · rcases hat with h | h
    · exact .inl h
    · omega
  · have hk : g = k := by simpa [Value.ownBlock] using hk
    subst hk
    rcases hat with h | h
    · exact .inl h
    · right; omega
  · have hbx := (hg.block b (by have := Lib.lt_of_heap h.r.bx; simp; omega) (fun e => by have := (h.own.lt b e.symm).1; omega)).trans ((Below.heap_alloc w o b (Lib.lt_of_heap h.r.bx)).trans h.r.bx)
    have hs : (w'.setCell ⟨b, 15, none⟩ (.slice (some ⟨g, 0, none⟩) (L.length + 1) cap)).heap[b]? = some (.cells ((dcells f pl0 0).setIfInBounds 15 (.slice (some ⟨g, 0, none⟩) (L.length + 1) cap)) 31 (0, 0)) := by rw [heap_set hbx, set15]
    exact ((fr_setCells (M := OneB g) (fun _ => rfl) (dcells x.1 x.2 0).toList (L.length * 16) (Fr.refl (OneB g) (w'.setCell ⟨b, 15, none⟩ (.slice (some ⟨g, 0, none⟩) (L.length + 1) cap)))).block b (Lib.lt_of_heap hs) (by simp only [OneB]; omega)).trans hs
end Go.Proofs.YtljioepkbbbibaaDoor
