/-
  Eng: Enc, Eng.
-/
import Derived.Test.YtlckgkpgllhpbaaDoorEnb
import Derived.Deep.RegionHeld3
import Derived.StillTailTactics
import Derived.Test.YtlckgkpgllhpbaaDoorEnf
/- Enc -/
namespace Go.Proofs.YtlckgkpgllhpbaaDoor
open Go.RowKit

def arrI (f : Nat → Int) : Array Value := #[.int .i64 (f 0), .int .i64 (f 1), .int .i64 (f 2), .int .i64 (f 3), .int .i64 (f 4), .int .i64 (f 5), .int .i64 (f 6)]
theorem arrI_get (f : Nat → Int) (g : Nat) (h : g < 7) : (arrI f)[g]? = some (.int .i64 (f g)) := by
  match g, h with
  | 0, _ => rfl
  | 1, _ => rfl
  | 2, _ => rfl
  | 3, _ => rfl
  | 4, _ => rfl
  | 5, _ => rfl
  | 6, _ => rfl
  | g + 7, h => omega
theorem arrI_set (f f' : Nat → Int) (g : Nat) (h : g < 7) (x : Int) (hx : f' g = x) (hf : ∀ j, j ≠ g → f' j = f j) : (arrI f).setIfInBounds g (.int .i64 x) = arrI f' := by
  subst hx
  match g, h with
  | 0, _ => simp [arrI, hf]
  | 1, _ => simp [arrI, hf]
  | 2, _ => simp [arrI, hf]
  | 3, _ => simp [arrI, hf]
  | 4, _ => simp [arrI, hf]
  | 5, _ => simp [arrI, hf]
  | 6, _ => simp [arrI, hf]
  | g + 7, h => omega
theorem wSum_snoc (p : Mem → Bool) (l : List Mem) (m : Mem) : wSum p (l ++ [m]) = wSum p l + (if p m then m.2.2.1 else 0) := by
  induction l with
  | nil => simp [wSum]
  | cons x l ih => simp only [List.cons_append, wSum, ih]; omega
theorem wSum_bound {ms : List Mem} (h : ∀ m ∈ ms, GoodM m) (p : Mem → Bool) : wSum p ms ≤ 1000 * (ms.length : Int) := by
  induction ms with
  | nil => simp [wSum]
  | cons m l ih =>
    have := ih fun x hx => h x (by simp [hx])
    have hm := h m (by simp)
    unfold GoodM at hm
    unfold wSum
    rw [List.length_cons]
    split <;> omega
theorem take_snoc {ms : List Mem} {k : Nat} {m : Mem} (h : ms[k]? = some m) : ms.take (k + 1) = ms.take k ++ [m] := by
  rw [List.take_add_one, h]; rfl
theorem cnt_bound (p : Nat → Bool) (n : Nat) : 0 ≤ cnt p n ∧ cnt p n ≤ n := by
  induction n with
  | zero => simp [cnt]
  | succ n ih => unfold cnt; split <;> omega

theorem allG_snoc (l : List Mem) (m0 m1 m2 : Int) (h g : Nat) : allG (l ++ [(m0, m1, m2, (h : Int))]) g = allG l g + (if h = g then m2 else 0) := by
  have e := wSum_snoc (fun m => m.2.2.2 == (g : Int)) l (m0, m1, m2, (h : Int))
  have e2 : ((h : Int) == (g : Int)) = decide (h = g) := by rw [Bool.eq_iff_iff]; simp; omega
  simp only [e2, decide_eq_true_eq] at e
  exact e
theorem someG_snoc (ids : List Int) (l : List Mem) (m0 m1 m2 : Int) (h g : Nat) : someG ids (l ++ [(m0, m1, m2, (h : Int))]) g = someG ids l g + (if h = g ∧ ids.contains m0 = true then m2 else 0) := by
  have e := wSum_snoc (fun m => m.2.2.2 == (g : Int) && ids.contains m.1) l (m0, m1, m2, (h : Int))
  have e2 : ((h : Int) == (g : Int)) = decide (h = g) := by rw [Bool.eq_iff_iff]; simp; omega
  simp only [e2, Bool.and_eq_true, decide_eq_true_eq] at e
  exact e
theorem set_far {w : World} {B g p i : Nat} {u v : Value} (h : w.cell? ⟨p, i, none⟩ = some v) (hne : p ≠ B) : (w.setCell ⟨B, g, none⟩ u).cell? ⟨p, i, none⟩ = some v :=
  (World.cell?_of_block (a := ⟨p, i, none⟩) (Below.heap_setCell w ⟨B, g, none⟩ u p hne)).trans h

end Go.Proofs.YtlckgkpgllhpbaaDoor

/- Eng -/
namespace Go.Proofs.YtlckgkpgllhpbaaDoor
open Go.RowKit

set_option maxHeartbeats 1600000 in
theorem sameE_calls (v : Int) (A A' : Option Addr) (l : List Mem) (c c' lo hi lo' hi' : Nat) (w : World) (h : RdM w lo hi A l) (hh : hi ≤ w.heap.size) (h' : RdM w lo' hi' A' l) (hh' : hi' ≤ w.heap.size) (hl : l.length ≤ 140737488355328) :
    Calls Tryd.prog 56 #[.agg #[.int .i64 v, .slice A l.length c], .agg #[.int .i64 v, .slice A' l.length c']] w fun e w' => e = .returned (.bool true) ∧ Fr NoB w w' := by
  have hs := fun W (f : Fr NoB w W) => samem_calls A A' l l c c' lo hi lo' hi' W (h.fr f hh (fun _ _ _ x => x)) (h'.fr f hh' (fun _ _ _ x => x)) hl hl
  rw [show (l == l) = true by simp] at hs
  have HS := Lib.hid hs
  clear hs h h'
  go_enter Tryd.func56, Tryd.ntmps56
  go_wp2_with (go_at_call 52; refine (HS.out _ (((Fr.refl NoB w).alloc _).alloc _)).mono ?_; rintro e w1 ⟨rfl, n, rfl⟩)
  go_ret
  exact ⟨rfl, (((Fr.refl NoB w).alloc _).alloc _).drewN n⟩

end Go.Proofs.YtlckgkpgllhpbaaDoor
