/-
  Spn: the document's answer: Plus, New, Next.
-/
import Derived.Test.YteigenmhfgldfaaSpl
import Derived.Test.YteigenmhfgldfaaSpk
import Derived.Test.YteigenmhfgldfaaFlf
namespace Go.Proofs.Yteigenmhfgldfaa
open Go.RowKit Ieee

set_option maxRecDepth 8000 in
theorem refplus_calls (x y : G) (hx : gok x) (hy : gok y) (w : World) :
    Calls Try.prog 34 #[gv x, gv y] w fun e w' => e = .returned (.tuple #[gv (gadd x y), .bool true]) ∧ w' = w := by
  have c1 := fun W => refpair_calls x hx W
  have c2 := fun W => refpair_calls y hy W
  have c3 := fun W => refnum_calls ((x.1 : Int) + y.1) ((x.2 : Int) + y.2) W
  have hg : gv (pm ((x.1 : Int) + y.1), pm ((x.2 : Int) + y.2)) = gv (gadd x y) := rfl
  rw [hg] at c3
  have a1 := hx.1
  have a2 := hx.2
  have a3 := hy.1
  have a4 := hy.2
  have b1 : (x.1 : Int) < 524287 := by omega
  have b2 : (x.2 : Int) < 524287 := by omega
  have b3 : (y.1 : Int) < 524287 := by omega
  have b4 : (y.2 : Int) < 524287 := by omega
  clear hg
  generalize gv (gadd x y) = R at *
  go_enter Try.func34, Try.ntmps34
  go_wp2_with (first | ((with_reducible refine (c1 _).mono ?_); rintro e w' ⟨rfl, rfl⟩) | ((with_reducible refine (c2 _).mono ?_); rintro e w' ⟨rfl, rfl⟩) | ((with_reducible refine (c3 _).mono ?_); rintro e w' ⟨rfl, rfl⟩))
  go_ret2
  exact ⟨rfl, rfl⟩

/-- The document's spin at a block. -/
def RefAt (w : World) (p : Nat) (x : G) : Prop := w.heap[p]? = some (.cells #[.complex .f64 (fw false x.1) (fw false x.2)] 76 (0, 0))
theorem RefAt.fr {M : Nat → Prop} {w w' : World} {p : Nat} {x : G} (h : RefAt w p x) (f : Fr M w w') (hm : ¬ M p) : RefAt w' p x := f.at_ h hm
theorem RefAt.cells {w : World} {p : Nat} {x : G} (h : RefAt w p x) : w.cell? ⟨p, 0, none⟩ = some (.complex .f64 (fw false x.1) (fw false x.2)) ∧ w.frozen? ⟨p, 0, none⟩ = false ∧ p < w.heap.size := by
  refine ⟨?_, Joins.unfrozen_of_block h 0, Lib.lt_of_heap h⟩
  rw [Joins.cell_of_block h 0]; rfl
theorem RefAt.set {w : World} {p : Nat} {x : G} (h : RefAt w p x) (y : G) : RefAt (w.setCell ⟨p, 0, none⟩ (.complex .f64 (fw false y.1) (fw false y.2))) p y := Joins.block_setCell h _
set_option maxRecDepth 8000 in
theorem refnew_calls (z : Int) (w : World) :
    Calls Try.prog 20 #[.int .i64 z] w fun e w' => ∃ p, e = .returned (.pointer (some ⟨p, 0, none⟩)) ∧ w.heap.size ≤ p ∧ RefAt w' p (pm z, 1) ∧ Fr NoB w w' := by
  have c1 := fun W => refnum_calls z 1 W
  rw [show gv (pm z, pm 1) = .complex .f64 (fw false (pm z)) (fw false 1) by rw [show pm 1 = 1 by decide +kernel]] at c1
  have hc := fun (W : World) (X Y : Nat) => heap_alloc_new W (.cells #[.complex .f64 X Y] 76)
  go_enter Try.func20, Try.ntmps20
  go_wp2_with ((with_reducible refine (c1 _).mono ?_); rintro e w' ⟨rfl, rfl⟩)
  go_ret
  exact ⟨_, rfl, Nat.le_refl _, hc _ _ _, (Fr.refl _ _).alloc _⟩

set_option maxRecDepth 8000 in
theorem refnext_calls (p : Nat) (x : G) (n : Int) (w : World) (hs : RefAt w p x) (hx : gok x) :
    Calls Try.prog 22 #[.pointer (some ⟨p, 0, none⟩), .int .i64 n] w fun e w' => e = .returned (.int .i64 (tell (nx x.1 x.2) n)) ∧ RefAt w' p (nx x.1 x.2) ∧ Fr (OneB p) w w' := by
  have t1 := fun W => reftimes_calls x (3, 2) hx ⟨by decide, by decide⟩ W
  rw [show gv ((3, 2) : G) = .complex .f64 4613937818241073152 4611686018427387904 by unfold gv; rw [fw2, fw3]] at t1
  have t2 := fun W => refplus_calls (gmul x (3, 2)) (1, 0) (gok_mul _ _) ⟨by decide, by decide⟩ W
  rw [show gv ((1, 0) : G) = .complex .f64 4607182418800017408 0 by unfold gv; rw [fw1, fw00]] at t2
  have hnx : gadd (gmul x (3, 2)) (1, 0) = nx x.1 x.2 := rfl
  rw [hnx] at t2
  have hok := gok_nx x.1 x.2
  have q1 := fun W => run_convert_float_int (P := Try.prog) W 29 3 .f64 .i64 _ _ (by kernel_rfl) (by kernel_rfl) (fl_int (nx x.1 x.2).1 hok.1 .i64 rfl)
  have q2 := fun W => run_convert_float_int (P := Try.prog) W 29 3 .f64 .i64 _ _ (by kernel_rfl) (by kernel_rfl) (fl_int (nx x.1 x.2).2 hok.2 .i64 rfl)
  have he := fun W (h : RefAt W p x) => h.set (nx x.1 x.2)
  obtain ⟨g1, g2, g3⟩ := hs.cells
  have l1 : ((nx x.1 x.2).1 : Int) < 524287 := by have := hok.1; omega
  have l2 : ((nx x.1 x.2).2 : Int) < 524287 := by have := hok.2; omega
  have hgv : gv (nx x.1 x.2) = .complex .f64 (fw false (nx x.1 x.2).1) (fw false (nx x.1 x.2).2) := rfl
  unfold tell
  rw [hgv] at t2
  clear hnx hgv
  by_cases hn : n < 1
  · rw [if_pos hn]
    go_enter Try.func22, Try.ntmps22
    go_wp2_with (first | ((with_reducible refine (t1 _).mono ?_); rintro e w1 ⟨rfl, rfl⟩; clear t1) | ((with_reducible refine (t2 _).mono ?_); rintro e w2 ⟨rfl, rfl⟩; clear t2))
    go_ret
    exact ⟨rfl, he _ hs, (Fr.refl (OneB p) _).setCell (p := ⟨p, 0, none⟩) (fun _ => rfl) _⟩
  · rw [if_neg hn]
    rw [Int.natCast_add]
    have hnn : (0 : Int) ≤ ((nx x.1 x.2).1 : Int) + ((nx x.1 x.2).2 : Int) := by omega
    have hfin : ∀ W, RefAt W p x → RefAt (W.setCell ⟨p, 0, none⟩ (.complex .f64 (fw false (nx x.1 x.2).1) (fw false (nx x.1 x.2).2))) p (nx x.1 x.2) := he
    clear he
    generalize fw false (nx x.1 x.2).1 = N1 at *
    generalize fw false (nx x.1 x.2).2 = N2 at *
    generalize ((nx x.1 x.2).1 : Int) = A at *
    generalize ((nx x.1 x.2).2 : Int) = B at *
    have htm : (A + B).tmod n = (A + B) % n := Int.tmod_eq_emod_of_nonneg hnn
    have hn0 : ¬ n = 0 := by omega
    go_enter Try.func22, Try.ntmps22
    go_wp2_with (first | ((with_reducible refine (t1 _).mono ?_); rintro e w1 ⟨rfl, rfl⟩; clear t1) | ((with_reducible refine (t2 _).mono ?_); rintro e w2 ⟨rfl, rfl⟩; clear t2))
    go_ret
    exact ⟨rfl, hfin _ hs, (Fr.refl (OneB p) _).setCell (p := ⟨p, 0, none⟩) (fun _ => rfl) _⟩
end Go.Proofs.Yteigenmhfgldfaa
