/-
  Eng: the statements' own 'three', 'has' and 'awake'; SameEnsemble.
-/
import Derived.Test.YtljioepkbbbibaaDoorEnc
import Derived.Test.YtljioepkbbbibaaDoorEnf
namespace Go.Proofs.YtljioepkbbbibaaDoor
open Go.RowKit

set_option maxHeartbeats 1600000 in
theorem sameE_calls (v : Int) (A A' : Option Addr) (l : List Mem) (c c' lo hi lo' hi' : Nat) (w : World) (h : RdM w lo hi A l) (hh : hi ≤ w.heap.size) (h' : RdM w lo' hi' A' l) (hh' : hi' ≤ w.heap.size) (hl : l.length ≤ 140737488355328) :
    Calls Tryd.prog 41 #[.agg #[.int .i64 v, .slice A l.length c], .agg #[.int .i64 v, .slice A' l.length c']] w fun e w' => e = .returned (.bool true) ∧ Fr NoB w w' := by
  have hs := fun W (f : Fr NoB w W) => samem_calls A A' l l c c' lo hi lo' hi' W (h.fr f hh (fun _ _ _ x => x)) (h'.fr f hh' (fun _ _ _ x => x)) hl hl
  rw [show (l == l) = true by simp] at hs
  have HS := Lib.hid hs
  clear hs h h'
  go_enter Tryd.func41, Tryd.ntmps41
  go_wp2_with (go_at_call 73; refine (HS.out _ (((Fr.refl NoB w).alloc _).alloc _)).mono ?_; rintro e w1 ⟨rfl, n, rfl⟩)
  go_ret
  exact ⟨rfl, (((Fr.refl NoB w).alloc _).alloc _).drewN n⟩

end Go.Proofs.YtljioepkbbbibaaDoor
