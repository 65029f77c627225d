/-
  Ltw: what the texts on lent bytes and on rows that lie apart lean on, where there are no members.
-/
import Derived.Test.YtmgkenbfjlahpaaKit
import Derived.Laws.MakeOwn
import Derived.Deep.RegionHeld3
namespace Go.Proofs.Ytmgkenbfjlahpaa
open Go.RowKit

theorem cells_of {w : World} {p : Nat} {cs : Array Value} {t : TypeId} (h : w.heap[p]? = some (.cells cs t (0, 0))) (i : Nat) : w.cell? ⟨p, i, none⟩ = cs[i]? ∧ w.frozen? ⟨p, i, none⟩ = false :=
  ⟨Lib.cell_of_heap h i, Lib.frozen_of_heap h i⟩
theorem heap_set {w : World} {p i : Nat} {cs : Array Value} {t : TypeId} {fr : Nat × Nat} (h : w.heap[p]? = some (.cells cs t fr)) (u : Value) : (w.setCell ⟨p, i, none⟩ u).heap[p]? = some (.cells (cs.setIfInBounds i u) t fr) := by
  simp [World.setCell, Array.getElem?_modify, h]
theorem heap_far {w : World} {p k : Nat} (h : k ≠ p) (i : Nat) (u : Value) : (w.setCell ⟨p, i, none⟩ u).heap[k]? = w.heap[k]? := Below.heap_setCell w ⟨p, i, none⟩ u k h

theorem Fr.upE {M : Nat → Prop} {w w1 w2 : World} (h : Fr NoB w w1) (h2 : Fr M w1 w2) (hm : ∀ k, M k → w.heap.size ≤ k) : Fr NoB w w2 :=
  h.trans h2 fun k hk hx => absurd (hm k hx) (by omega)
theorem own_form4 {w : World} {base e n size : Nat} {v : Value} {xs : List Value} (h : w.ownsRow base e size v n xs) : ∃ A c, v = .slice A n c ∧ n ≤ c ∧ c ≤ maxLen := by
  rcases h.2 with ⟨rfl, rfl⟩ | ⟨g, cap, cur, rfl, _, _, h1, h2, _⟩
  · exact ⟨none, 0, rfl, Nat.le_refl _, Nat.zero_le _⟩
  · exact ⟨_, cap, rfl, h1, h2⟩
theorem src_block (w : World) (cs : Array Value) (t : TypeId) (ys : List Value) (h : cs.toList = ys) : ∃ ad, some (⟨w.heap.size, 0, none⟩ : Addr) = some ad ∧ ∀ (j : Nat) (u : Value), ys[j]? = some u → (w.alloc (.cells cs t)).cell? (ad.add j) = some u := by
  subst h
  refine ⟨_, rfl, fun j u hj => ?_⟩
  rw [Lib.addr_add, Lib.cell_of_heap (heap_alloc_new w _)]
  simpa using hj
/-- The mark of place i behind a list that is lent. -/
def mkN (i : Nat) : Int := 8000024 + (i : Int)
/-- A row of the call's own, and the frame. -/
structure Ow (wx w : World) (e : TypeId) (size : Nat) (V : Value) (n : Nat) (xs : List Value) : Prop where
  fr : Fr NoB wx w
  own : w.ownsRow wx.heap.size e size V n xs
section
variable {wx w w' : World} {e : TypeId} {size n N : Nat} {V V' : Value} {xs ys : List Value}
theorem Ow.keep (h : Ow wx w e size V n xs) (f : Fr NoB w w') : Ow wx w' e size V n xs :=
  ⟨h.fr.then f, own_keep h.own fun g hg => f.block g (h.own.lt g hg).2 (fun x => x)⟩
theorem Ow.push {o : Obj} (h : Ow wx w e size V n xs) (hA : App wx.heap.size e size V N ys (w.alloc o) V' w') : Ow wx w' e size V' N ys :=
  ⟨(h.fr.alloc o).upE hA.fr (fun k hk => (h.own.lt k hk).1), hA.own⟩
theorem Ow.push0 (h : Ow wx w e size V n xs) (hA : App wx.heap.size e size V N ys w V' w') : Ow wx w' e size V' N ys :=
  ⟨h.fr.upE hA.fr (fun k hk => (h.own.lt k hk).1), hA.own⟩
end

set_option maxHeartbeats 800000 in
theorem mark_calls (i : Nat) (hi : i ≤ 12) (w : World) :
    Calls Try.prog 46 #[.int .i64 1, .int .i64 (i : Int)] w fun e w' => e = .returned (.int .i64 (mkN i)) ∧ Fr NoB w w' := by
  have hii : (i : Int) ≤ 12 := by omega
  go_enter Try.func46, Try.ntmps46
  go_wp2
  go_ret
  exact ⟨rfl, Fr.refl NoB w⟩

end Go.Proofs.Ytmgkenbfjlahpaa
