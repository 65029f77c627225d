/-
  Spe: a spin: New, Next; the laws' own fixed question.
-/
import Derived.Test.YteigenmhfgldfaaSpd
import Derived.Lib.SmallJoins
namespace Go.Proofs.Yteigenmhfgldfaa
open Go.RowKit Ieee

@[go_sem] theorem run_store_complex {P : Program} {w : World} {a : Addr} {m : Mode} (k : FloatKind) (x y : Nat) : (store a (.complex k x y) m).run P w = stored P w a (.complex k x y) m := run_store P w a (.complex k x y) m rfl
/-- A spin at a block. -/
def SpinAt (w : World) (p a b : Nat) : Prop := w.heap[p]? = some (.cells #[.complex .f64 (fw false a) (fw false b), .bool true] 47 (0, 0))
theorem SpinAt.fr {M : Nat → Prop} {w w' : World} {p a b : Nat} (h : SpinAt w p a b) (f : Fr M w w') (hm : ¬ M p) : SpinAt w' p a b := f.at_ h hm
theorem SpinAt.cells {w : World} {p a b : Nat} (h : SpinAt w p a b) : w.cell? ⟨p, 0, none⟩ = some (.complex .f64 (fw false a) (fw false b)) ∧ w.cell? ⟨p, 1, none⟩ = some (.bool true) ∧ w.frozen? ⟨p, 0, none⟩ = false ∧ p < w.heap.size := by
  refine ⟨?_, ?_, ?_, Lib.lt_of_heap h⟩
  · rw [Joins.cell_of_block h 0]; rfl
  · rw [Joins.cell_of_block h 1]; rfl
  · exact Joins.unfrozen_of_block h 0
theorem SpinAt.set {w : World} {p a b : Nat} (h : SpinAt w p a b) (a' b' : Nat) : SpinAt (w.setCell ⟨p, 0, none⟩ (.complex .f64 (fw false a') (fw false b'))) p a' b' :=
  Joins.block_setCell h _

/-- The next state. -/
def nx (a b : Nat) : Nat × Nat := (pm ((pm ((a * 3 : Nat) - (b * 2 : Nat)) : Int) + 1), pm ((pm ((a * 2 : Nat) + (b * 3 : Nat)) : Int) + 0))
/-- What is told of a state. -/
def tell (s : Nat × Nat) (n : Int) : Int := if n < 1 then 0 else ((s.1 + s.2 : Nat) : Int) % n

theorem fw1 : fw false 1 = 4607182418800017408 := by decide +kernel
theorem fw2 : fw false 2 = 4611686018427387904 := by decide +kernel
theorem fw3 : fw false 3 = 4613937818241073152 := by decide +kernel

set_option maxRecDepth 8000 in
theorem next_calls (p a b : Nat) (n : Int) (w : World) (hs : SpinAt w p a b) (ha : a < 524287) (hb : b < 524287) :
    Calls Try.prog 21 #[.pointer (some ⟨p, 0, none⟩), .int .i64 n] w fun e w' => e = .returned (.int .i64 (tell (nx a b) n)) ∧ SpinAt w' p (nx a b).1 (nx a b).2 ∧ Fr (OneB p) w w' := by
  have t1 := fun W => times_calls a b 3 2 W ha hb (by decide) (by decide)
  rw [fw2, fw3] at t1
  have hx := pm_lt ((a * 3 : Nat) - (b * 2 : Nat))
  have hy := pm_lt ((a * 2 : Nat) + (b * 3 : Nat))
  have t2 := fun W => plus_calls (pm ((a * 3 : Nat) - (b * 2 : Nat))) (pm ((a * 2 : Nat) + (b * 3 : Nat))) 1 0 W hx hy (by decide) (by decide)
  rw [fw1, fw00] at t2
  have l1 : (nx a b).1 < 524287 := by simp only [nx]; exact pm_lt _
  have l2 : (nx a b).2 < 524287 := by simp only [nx]; exact pm_lt _
  have hsum := addn (nx a b).1 (nx a b).2 (Nat.lt_trans (show (nx a b).1 + (nx a b).2 < 1048576 by omega) (by decide))
  have q1 := fun W => run_float_arith (P := Try.prog) W .add 29 .f64 _ _ _ hsum
  have hint : floatToIntVal .f64 (fw false ((nx a b).1 + (nx a b).2)) .i64 = some (((nx a b).1 + (nx a b).2 : Nat) : Int) := by
    unfold floatToIntVal
    rw [show (FloatKind.f64.decode (fw false ((nx a b).1 + (nx a b).2))).toInt .zero = some (sg false ((nx a b).1 + (nx a b).2)) from (num_read false _ (Nat.lt_trans (show (nx a b).1 + (nx a b).2 < 1048576 by omega) (by decide))).toInt .zero]
    rw [sg_pos]
    simp only
    rw [if_pos]
    have e1 : IntKind.i64.min = -9223372036854775808 := by decide
    have e2 : IntKind.i64.max = 9223372036854775807 := by decide
    rw [e1, e2]; omega
  have q2 := fun W => run_convert_float_int (P := Try.prog) W 29 3 .f64 .i64 _ _ (by kernel_rfl) (by kernel_rfl) hint
  have hst := hs.cells
  have he : ∀ W, SpinAt W p a b → SpinAt (W.setCell ⟨p, 0, none⟩ (.complex .f64 (fw false (nx a b).1) (fw false (nx a b).2))) p (nx a b).1 (nx a b).2 := fun W h => h.set _ _
  rw [show pm ((pm ((a * 3 : Nat) - (b * 2 : Nat)) : Int) + (1 : Nat)) = (nx a b).1 from rfl, show pm ((pm ((a * 2 : Nat) + (b * 3 : Nat)) : Int) + (0 : Nat)) = (nx a b).2 from rfl] at t2
  obtain ⟨g1, g2, g3, g4⟩ := hst
  have hc2 := fun W (h : SpinAt W p (nx a b).1 (nx a b).2) => h.cells
  unfold tell
  generalize fw false (pm ((a * 3 : Nat) - (b * 2 : Nat))) = X1 at t1 t2
  generalize fw false (pm ((a * 2 : Nat) + (b * 3 : Nat))) = X2 at t1 t2
  generalize fw false ((nx a b).1 + (nx a b).2) = S1 at q1 q2
  generalize (nx a b).1 + (nx a b).2 = S at q2 ⊢
  generalize fw false (nx a b).1 = N1 at *
  generalize fw false (nx a b).2 = N2 at *
  clear hsum hint hx hy l1 l2
  by_cases hn : n < 1
  · rw [if_pos hn]
    go_enter Try.func21, Try.ntmps21
    go_wp2_with (first | ((with_reducible refine (t1 _).mono ?_); rintro e w1 ⟨rfl, f1⟩; clear t1) | ((with_reducible refine (t2 _).mono ?_); rintro e w2 ⟨rfl, f2⟩; have s2 := hs.fr (f1.then f2) id; obtain ⟨k1, k2, k3, k4⟩ := s2.cells; have s3 := he _ s2; obtain ⟨j1, j2, j3, j4⟩ := hc2 _ s3; clear t2))
    go_ret
    have ff : Fr (OneB p) w w2 := (f1.then f2).no
    exact ⟨rfl, s3, ff.setCell (p := ⟨p, 0, none⟩) (fun _ => rfl) _⟩
  · rw [if_neg hn]
    have htm : (S : Int).tmod n = (S : Int) % n := Int.tmod_eq_emod_of_nonneg (by omega)
    have hn0 : ¬ n = 0 := by omega
    go_enter Try.func21, Try.ntmps21
    go_wp2_with (first | ((with_reducible refine (t1 _).mono ?_); rintro e w1 ⟨rfl, f1⟩; clear t1) | ((with_reducible refine (t2 _).mono ?_); rintro e w2 ⟨rfl, f2⟩; have s2 := hs.fr (f1.then f2) id; obtain ⟨k1, k2, k3, k4⟩ := s2.cells; have s3 := he _ s2; obtain ⟨j1, j2, j3, j4⟩ := hc2 _ s3; clear t2))
    go_quiet (fail)
    go_wp2
    go_ret
    have ff : Fr (OneB p) w w2 := (f1.then f2).no
    refine ⟨by simp only [htm]; rfl, ?_, ?_⟩
    · exact s3
    · first | exact (ff.setCell (p := ⟨p, 0, none⟩) (fun _ => rfl) _).drewN _ | exact (ff.setCell (p := ⟨p, 0, none⟩) (fun _ => rfl) _)

theorem tmod_pr (z : Int) : (z.tmod 524287 < 0 → z.tmod 524287 + 524287 = (pm z : Int)) ∧ (¬ z.tmod 524287 < 0 → z.tmod 524287 = (pm z : Int)) ∧ -524287 < z.tmod 524287 ∧ z.tmod 524287 < 524287 := by
  have h1 := Int.mul_tdiv_add_tmod z 524287
  have h2 := Int.tmod_lt_of_pos z (show (0 : Int) < 524287 by decide)
  have h3 := Int.lt_tmod_of_pos z (show (0 : Int) < 524287 by decide)
  generalize z.tmod 524287 = t at *
  generalize z.tdiv 524287 = q at *
  unfold pm
  refine ⟨fun h => ?_, fun h => ?_, h3, h2⟩ <;> omega
set_option maxRecDepth 8000 in
theorem new_calls (z : Int) (w : World) :
    Calls Try.prog 16 #[.int .i64 z] w fun e w' => ∃ p, e = .returned (.pointer (some ⟨p, 0, none⟩)) ∧ w.heap.size ≤ p ∧ SpinAt w' p (pm z) 1 ∧ Fr NoB w w' := by
  obtain ⟨t1, t2, t3, t4⟩ := tmod_pr z
  have hfl : ∀ n : Nat, floatOfInt .f64 (n : Int) = fw false n := fun n => by
    rw [int_fw, decide_eq_false (by omega), Int.natAbs_natCast]
  have hc := fun (W : World) (X : Nat) => heap_alloc_new W (.cells #[.complex .f64 X 4607182418800017408, .bool true] 47)
  have hg := hfl (pm z)
  by_cases h : z.tmod 524287 < 0
  · have ht := t1 h
    clear t1 t2
    go_enter Try.func16, Try.ntmps16
    go_wp2
    go_ret
    refine ⟨w.heap.size, rfl, Nat.le_refl _, ?_, (Fr.refl _ _).alloc _⟩
    unfold SpinAt
    rw [fw1]
    exact hc _ _
  · have ht := t2 h
    clear t1 t2
    go_enter Try.func16, Try.ntmps16
    go_wp2
    go_ret
    refine ⟨w.heap.size, rfl, Nat.le_refl _, ?_, (Fr.refl _ _).alloc _⟩
    unfold SpinAt
    rw [fw1]
    exact hc _ _

theorem awake_calls (w : World) :
    Calls Try.prog 8 #[] w fun e w' => e = .returned (.bool true) ∧ Fr NoB w w' := by
  have t1 := fun W => times_calls 1 2 3 4 W (by decide) (by decide) (by decide) (by decide)
  rw [fw1, fw2, fw3, show fw false 4 = 4616189618054758400 by decide +kernel, show pm ((1 * 3 : Nat) - (2 * 4 : Nat)) = 524282 by decide +kernel, show pm ((1 * 4 : Nat) + (2 * 3 : Nat)) = 10 by decide +kernel] at t1
  have t2 := fun W => new_calls 0 W
  rw [show pm 0 = 0 by decide +kernel] at t2
  have o1 : FloatKind.f64.format.order (fw false 524282) (fw false 524282) = some .eq := ord_self (by decide) false
  have o2 : FloatKind.f64.format.order (fw false 10) (fw false 10) = some .eq := ord_self (by decide) false
  have t3 := fun p W h => next_calls p 0 1 10 W h (by decide) (by decide)
  rw [show tell (nx 0 1) 10 = 9 by decide +kernel] at t3
  rw [show fw false 524282 = 4692750708640841728 by decide +kernel, show fw false 10 = 4621819117588971520 by decide +kernel] at t1
  rw [show fw false 524282 = 4692750708640841728 by decide +kernel] at o1
  rw [show fw false 10 = 4621819117588971520 by decide +kernel] at o2
  go_enter Try.func8, Try.ntmps8
  go_wp2_with (first | ((with_reducible refine (t1 _).mono ?_); rintro e w1 ⟨rfl, f1⟩) | ((with_reducible refine (t2 _).mono ?_); rintro e w2 ⟨p, rfl, hp, hs, f2⟩) | ((with_reducible refine (t3 p _ hs).mono ?_); rintro e w3 ⟨rfl, hs3, f3⟩))
  go_ret
  refine ⟨rfl, (f1.then f2).trans f3 fun k hk hx => ?_⟩
  have h1 := f1.size
  have hx' : k = p := hx
  exact absurd hk (by omega)
end Go.Proofs.Yteigenmhfgldfaa
