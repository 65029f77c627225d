/-
  Pth: the laws' own fixed question: it is answered with true.
-/
import Derived.Test.YtbfcggcfabkbjaaDoorPtg
namespace Go.Proofs.YtbfcggcfabkbjaaDoor
open Go.RowKit Go.Shelf

def ab : List UInt8 := [47, 97, 47, 98]
set_option maxRecDepth 8000 in
set_option maxHeartbeats 1600000 in
theorem awake_calls (w : World) :
    Calls Tryd.prog 6 #[] w fun e w' => e = .returned (.bool true) ∧ Fr NoB w w' := by
  have c1 := fun W => number_calls [47, 97, 45] 7 W (by decide)
  have c2 := fun W => check_calls [47, 97, 47, 98] W (by decide)
  have c3 := fun W => check_calls [47, 97, 47] W (by decide)
  have c4 := fun W => parent_calls [47, 97, 47, 98] W (by decide)
  have c5 := fun W => base_calls [47, 97, 47, 98] W (by decide)
  have c6 := fun W => join_calls [47, 97] [98] W (by decide) (by decide)
  have c7 := fun W => under_calls [47, 97] [47, 97, 47, 98] W (by decide) (by decide)
  have c8 := fun W => under_calls [47, 97] [47, 97, 98] W (by decide) (by decide)
  rw [show num [47, 97, 45] 7 = ([47, 97, 45, 48, 48, 48, 48, 48, 48, 48, 48, 48, 55], true) by decide +kernel] at c1
  rw [show chk [47, 97, 47, 98] = true by decide +kernel] at c2
  rw [show chk [47, 97, 47] = false by decide +kernel] at c3
  rw [show par [47, 97, 47, 98] = [47, 97] by decide +kernel] at c4
  rw [show bas [47, 97, 47, 98] = [98] by decide +kernel] at c5
  rw [show joi [47, 97] [98] = [47, 97, 47, 98] by decide +kernel] at c6
  rw [show und [47, 97] [47, 97, 47, 98] = true by decide +kernel] at c7
  rw [show und [47, 97] [47, 97, 98] = false by decide +kernel] at c8
  go_enter Tryd.func6, Tryd.ntmps6
  go_wp2_with (first | (refine (c1 _).mono ?_; rintro e w1 ⟨rfl, f1⟩; clear c1) | (refine (c2 _).mono ?_; rintro e w2 ⟨rfl, f2⟩; clear c2) | (refine (c3 _).mono ?_; rintro e w3 ⟨rfl, f3⟩; clear c3) | (refine (c4 _).mono ?_; rintro e w4 ⟨rfl, f4⟩; clear c4) | (refine (c5 _).mono ?_; rintro e w5 ⟨rfl, f5⟩; clear c5) | (refine (c6 _).mono ?_; rintro e w6 ⟨rfl, f6⟩; clear c6) | (refine (c7 _).mono ?_; rintro e w7 ⟨rfl, f7⟩; clear c7) | (refine (c8 _).mono ?_; rintro e w8 ⟨rfl, f8⟩; clear c8))
  go_ret
  exact ⟨rfl, f1.then (f2.then (f3.then (f4.then (f5.then (f6.then (f7.then f8))))))⟩
end Go.Proofs.YtbfcggcfabkbjaaDoor
