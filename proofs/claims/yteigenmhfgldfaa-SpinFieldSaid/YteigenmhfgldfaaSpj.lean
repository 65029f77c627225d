/-
  Spj: SpinField answers true.
-/
import Derived.Test.YteigenmhfgldfaaSpi
import Derived.Test.YteigenmhfgldfaaFlh
namespace Go.Proofs.Yteigenmhfgldfaa
open Go.RowKit Ieee

theorem plus_g (x y : G) (hx : gok x) (hy : gok y) (w : World) :
    Calls Try.prog 11 #[gv x, gv y] w fun e w' => e = .returned (.tuple #[gv (gadd x y), .bool true]) ∧ Fr NoB w w' :=
  plus_calls x.1 x.2 y.1 y.2 w hx.1 hx.2 hy.1 hy.2
theorem right_g (x : G) (hx : gok x) (w : World) :
    Calls Try.prog 12 #[gv x] w fun e w' => e = .returned (.bool true) ∧ w' = w := right_calls x.1 x.2 w hx.1 hx.2
theorem zero_mul_g (y : G) : gmul (0, 0) y = (0, 0) := by
  unfold gmul
  simp only [Nat.zero_mul]
  rfl
theorem ord0 (n : Nat) (h : n < 524287) : FloatKind.f64.format.order (fw false n) 0 = if n = 0 then some .eq else some .gt := by
  by_cases h0 : n = 0
  · subst h0; decide +kernel
  · rw [if_neg h0]; exact ord_zero h0 (lt53 h)

set_option maxRecDepth 8000 in
set_option maxHeartbeats 3200000 in
theorem field_walk (a b c d e f : Int) (w : World) :
    Calls Try.prog 3 #[.int .i64 a, .int .i64 b, .int .i64 c, .int .i64 d, .int .i64 e, .int .i64 f] w fun e w' => e = .returned (.bool true) ∧ Fr NoB w w' := by
  have hf : Fr NoB w w := Fr.refl _ _
  obtain ⟨x, hxe, hx⟩ : ∃ x : G, x = (pm a, pm b) ∧ gok x := ⟨_, rfl, gok_pm a b⟩
  obtain ⟨y, hye, hy⟩ : ∃ y : G, y = (pm c, pm d) ∧ gok y := ⟨_, rfl, gok_pm c d⟩
  obtain ⟨z, hze, hz⟩ : ∃ z : G, z = (pm e, pm f) ∧ gok z := ⟨_, rfl, gok_pm e f⟩
  have m1 := fun W => made_calls a b W
  have m2 := fun W => made_calls c d W
  have m3 := fun W => made_calls e f W
  rw [← hxe] at m1
  rw [← hye] at m2
  rw [← hze] at m3
  have t1 := fun W => times_g x y hx hy W
  have t2 := fun W => times_g y x hy hx W
  rw [gmul_comm y x] at t2
  have t3 := fun W => times_g (gmul x y) z (gok_mul _ _) hz W
  have t4 := fun W => times_g y z hy hz W
  have t5 := fun W => times_g x (gmul y z) hx (gok_mul _ _) W
  rw [← gmul_assoc] at t5
  have s1 := fun W => plus_g y z hy hz W
  have s2 := fun W => plus_g z y hz hy W
  rw [gadd_comm z y] at s2
  have t6 := fun W => times_g x (gadd y z) hx (gok_add _ _) W
  rw [gmul_add] at t6
  have t7 := fun W => times_g x z hx hz W
  have s3 := fun W => plus_g (gmul x y) (gmul x z) (gok_mul _ _) (gok_mul _ _) W
  have r1 := fun W => right_g (gmul (gmul x y) z) (gok_mul _ _) W
  have r2 := fun W => right_g (gadd (gmul x y) (gmul x z)) (gok_add _ _) W
  have p1 := fun W => power_calls x hx 274876858367 (by decide) W
  have t8 := fun W => times_g x (gpow x 274876858367) hx (gok_pow _ _) W
  have p2 := fun W => power_calls x hx 524287 (by decide) W
  rw [gpow_prime hx] at p2
  obtain ⟨e1, e2⟩ := gv_eq (gok_mul x y)
  obtain ⟨e3, e4⟩ := gv_eq (gok_mul (gmul x y) z)
  obtain ⟨e5, e6⟩ := gv_eq (gok_add y z)
  obtain ⟨e7, e8⟩ := gv_eq (gok_add (gmul x y) (gmul x z))
  have hx1 := ord_self (lt53 hx.1) false
  have o1 := ord0 x.1 hx.1
  have o2 := ord0 x.2 hx.2
  have hone : gmul x (gpow x 274876858367) = if x = (0, 0) then (0, 0) else gone := by
    by_cases h : x = (0, 0)
    · rw [if_pos h, h, zero_mul_g]
    · rw [if_neg h]; exact gpow_inv hx h
  rw [hone] at t8
  have hxx : x = (x.1, x.2) := rfl
  have hsub := subn 524287 x.2 (by decide) (lt53 hx.2)
  have hl2 := hx.2
  rw [show decide (((524287 : Nat) : Int) - (x.2 : Int) < 0) = false from decide_eq_false (by omega), show (((524287 : Nat) : Int) - (x.2 : Int)).natAbs = 524287 - x.2 by omega, pr_word] at hsub
  have q1 := fun W => run_float_arith (P := Try.prog) W .sub 29 .f64 _ _ _ hsub
  have hcj : gconj x = (x.1, if x.2 = 0 then 0 else 524287 - x.2) := by
    unfold gconj
    congr 1
    unfold pm
    split <;> omega
  rw [hcj] at p2
  have k1 : FloatKind.f64.format.order 4607182418800017408 4607182418800017408 = some .eq := by decide +kernel
  have k2 : FloatKind.f64.format.order 0 0 = some .eq := by decide +kernel
  have k3 : FloatKind.f64.format.order 0 4607182418800017408 = some .lt := by decide +kernel
  have hg0 : gv ((0, 0) : G) = .complex .f64 0 0 := by unfold gv; rw [fw00]
  have hg1 : gv gone = .complex .f64 4607182418800017408 0 := by unfold gv gone; rw [fw1, fw00]
  have hz0 : gv ((x.1, 0) : G) = .complex .f64 (fw false x.1) 0 := by unfold gv; rw [fw00]
  rw [show ((274876858367 : Nat) : Int) = 274876858367 by omega] at p1
  rw [show ((524287 : Nat) : Int) = 524287 by omega] at p2
  clear hsub hcj hone hxe hye hze hxx
  by_cases h1 : x.1 = 0 <;> by_cases h2 : x.2 = 0
  · rw [if_pos h1] at o1
    rw [if_pos h2] at o2
    rw [if_pos h2, hz0] at p2
    rw [if_pos (show x = (0, 0) from Prod.ext h1 h2), hg0] at t8
    clear q1 h1 h2 hl2
    go_enter Try.func3, Try.ntmps3
    go_wp2_with (first | ((with_reducible refine (awake_calls _).mono ?_); rintro e w1 ⟨rfl, f⟩; replace hf := hf.then f; clear f) | ((with_reducible refine (m1 _).mono ?_); rintro e w1 ⟨rfl, rfl⟩) | ((with_reducible refine (m2 _).mono ?_); rintro e w1 ⟨rfl, rfl⟩) | ((with_reducible refine (m3 _).mono ?_); rintro e w1 ⟨rfl, rfl⟩) | ((with_reducible refine (t1 _).mono ?_); rintro e w1 ⟨rfl, f⟩; replace hf := hf.then f; clear f) | ((with_reducible refine (t2 _).mono ?_); rintro e w1 ⟨rfl, f⟩; replace hf := hf.then f; clear f) | ((with_reducible refine (t3 _).mono ?_); rintro e w1 ⟨rfl, f⟩; replace hf := hf.then f; clear f) | ((with_reducible refine (t4 _).mono ?_); rintro e w1 ⟨rfl, f⟩; replace hf := hf.then f; clear f) | ((with_reducible refine (t5 _).mono ?_); rintro e w1 ⟨rfl, f⟩; replace hf := hf.then f; clear f) | ((with_reducible refine (s1 _).mono ?_); rintro e w1 ⟨rfl, f⟩; replace hf := hf.then f; clear f) | ((with_reducible refine (s2 _).mono ?_); rintro e w1 ⟨rfl, f⟩; replace hf := hf.then f; clear f) | ((with_reducible refine (t6 _).mono ?_); rintro e w1 ⟨rfl, f⟩; replace hf := hf.then f; clear f) | ((with_reducible refine (t7 _).mono ?_); rintro e w1 ⟨rfl, f⟩; replace hf := hf.then f; clear f) | ((with_reducible refine (s3 _).mono ?_); rintro e w1 ⟨rfl, f⟩; replace hf := hf.then f; clear f) | ((with_reducible refine (r1 _).mono ?_); rintro e w1 ⟨rfl, rfl⟩) | ((with_reducible refine (r2 _).mono ?_); rintro e w1 ⟨rfl, rfl⟩) | ((with_reducible refine (p1 _).mono ?_); rintro e w1 ⟨rfl, f⟩; replace hf := hf.then f; clear f) | ((with_reducible refine (t8 _).mono ?_); rintro e w1 ⟨rfl, f⟩; replace hf := hf.then f; clear f) | ((with_reducible refine (p2 _).mono ?_); rintro e w1 ⟨rfl, f⟩; replace hf := hf.then f; clear f))
    all_goals go_ret
    all_goals exact ⟨rfl, hf⟩
  · rw [if_pos h1] at o1
    rw [if_neg h2] at o2
    rw [if_neg h2] at p2
    have e9 := ord_self (lt53 (show 524287 - x.2 < 524287 by omega)) false
    rw [if_neg (show x ≠ (0, 0) from fun h => h2 (by rw [h])), hg1] at t8
    clear h1 h2 hl2
    go_enter Try.func3, Try.ntmps3
    go_wp2_with (first | ((with_reducible refine (awake_calls _).mono ?_); rintro e w1 ⟨rfl, f⟩; replace hf := hf.then f; clear f) | ((with_reducible refine (m1 _).mono ?_); rintro e w1 ⟨rfl, rfl⟩) | ((with_reducible refine (m2 _).mono ?_); rintro e w1 ⟨rfl, rfl⟩) | ((with_reducible refine (m3 _).mono ?_); rintro e w1 ⟨rfl, rfl⟩) | ((with_reducible refine (t1 _).mono ?_); rintro e w1 ⟨rfl, f⟩; replace hf := hf.then f; clear f) | ((with_reducible refine (t2 _).mono ?_); rintro e w1 ⟨rfl, f⟩; replace hf := hf.then f; clear f) | ((with_reducible refine (t3 _).mono ?_); rintro e w1 ⟨rfl, f⟩; replace hf := hf.then f; clear f) | ((with_reducible refine (t4 _).mono ?_); rintro e w1 ⟨rfl, f⟩; replace hf := hf.then f; clear f) | ((with_reducible refine (t5 _).mono ?_); rintro e w1 ⟨rfl, f⟩; replace hf := hf.then f; clear f) | ((with_reducible refine (s1 _).mono ?_); rintro e w1 ⟨rfl, f⟩; replace hf := hf.then f; clear f) | ((with_reducible refine (s2 _).mono ?_); rintro e w1 ⟨rfl, f⟩; replace hf := hf.then f; clear f) | ((with_reducible refine (t6 _).mono ?_); rintro e w1 ⟨rfl, f⟩; replace hf := hf.then f; clear f) | ((with_reducible refine (t7 _).mono ?_); rintro e w1 ⟨rfl, f⟩; replace hf := hf.then f; clear f) | ((with_reducible refine (s3 _).mono ?_); rintro e w1 ⟨rfl, f⟩; replace hf := hf.then f; clear f) | ((with_reducible refine (r1 _).mono ?_); rintro e w1 ⟨rfl, rfl⟩) | ((with_reducible refine (r2 _).mono ?_); rintro e w1 ⟨rfl, rfl⟩) | ((with_reducible refine (p1 _).mono ?_); rintro e w1 ⟨rfl, f⟩; replace hf := hf.then f; clear f) | ((with_reducible refine (t8 _).mono ?_); rintro e w1 ⟨rfl, f⟩; replace hf := hf.then f; clear f) | ((with_reducible refine (p2 _).mono ?_); rintro e w1 ⟨rfl, f⟩; replace hf := hf.then f; clear f))
    all_goals go_ret
    all_goals exact ⟨rfl, hf⟩
  · rw [if_neg h1] at o1
    rw [if_pos h2] at o2
    rw [if_pos h2, hz0] at p2
    rw [if_neg (show x ≠ (0, 0) from fun h => h1 (by rw [h])), hg1] at t8
    clear q1 h1 h2 hl2
    go_enter Try.func3, Try.ntmps3
    go_wp2_with (first | ((with_reducible refine (awake_calls _).mono ?_); rintro e w1 ⟨rfl, f⟩; replace hf := hf.then f; clear f) | ((with_reducible refine (m1 _).mono ?_); rintro e w1 ⟨rfl, rfl⟩) | ((with_reducible refine (m2 _).mono ?_); rintro e w1 ⟨rfl, rfl⟩) | ((with_reducible refine (m3 _).mono ?_); rintro e w1 ⟨rfl, rfl⟩) | ((with_reducible refine (t1 _).mono ?_); rintro e w1 ⟨rfl, f⟩; replace hf := hf.then f; clear f) | ((with_reducible refine (t2 _).mono ?_); rintro e w1 ⟨rfl, f⟩; replace hf := hf.then f; clear f) | ((with_reducible refine (t3 _).mono ?_); rintro e w1 ⟨rfl, f⟩; replace hf := hf.then f; clear f) | ((with_reducible refine (t4 _).mono ?_); rintro e w1 ⟨rfl, f⟩; replace hf := hf.then f; clear f) | ((with_reducible refine (t5 _).mono ?_); rintro e w1 ⟨rfl, f⟩; replace hf := hf.then f; clear f) | ((with_reducible refine (s1 _).mono ?_); rintro e w1 ⟨rfl, f⟩; replace hf := hf.then f; clear f) | ((with_reducible refine (s2 _).mono ?_); rintro e w1 ⟨rfl, f⟩; replace hf := hf.then f; clear f) | ((with_reducible refine (t6 _).mono ?_); rintro e w1 ⟨rfl, f⟩; replace hf := hf.then f; clear f) | ((with_reducible refine (t7 _).mono ?_); rintro e w1 ⟨rfl, f⟩; replace hf := hf.then f; clear f) | ((with_reducible refine (s3 _).mono ?_); rintro e w1 ⟨rfl, f⟩; replace hf := hf.then f; clear f) | ((with_reducible refine (r1 _).mono ?_); rintro e w1 ⟨rfl, rfl⟩) | ((with_reducible refine (r2 _).mono ?_); rintro e w1 ⟨rfl, rfl⟩) | ((with_reducible refine (p1 _).mono ?_); rintro e w1 ⟨rfl, f⟩; replace hf := hf.then f; clear f) | ((with_reducible refine (t8 _).mono ?_); rintro e w1 ⟨rfl, f⟩; replace hf := hf.then f; clear f) | ((with_reducible refine (p2 _).mono ?_); rintro e w1 ⟨rfl, f⟩; replace hf := hf.then f; clear f))
    all_goals go_ret
    all_goals exact ⟨rfl, hf⟩
  · rw [if_neg h1] at o1
    rw [if_neg h2] at o2
    rw [if_neg h2] at p2
    have e9 := ord_self (lt53 (show 524287 - x.2 < 524287 by omega)) false
    rw [if_neg (show x ≠ (0, 0) from fun h => h1 (by rw [h])), hg1] at t8
    clear h1 h2 hl2
    go_enter Try.func3, Try.ntmps3
    go_wp2_with (first | ((with_reducible refine (awake_calls _).mono ?_); rintro e w1 ⟨rfl, f⟩; replace hf := hf.then f; clear f) | ((with_reducible refine (m1 _).mono ?_); rintro e w1 ⟨rfl, rfl⟩) | ((with_reducible refine (m2 _).mono ?_); rintro e w1 ⟨rfl, rfl⟩) | ((with_reducible refine (m3 _).mono ?_); rintro e w1 ⟨rfl, rfl⟩) | ((with_reducible refine (t1 _).mono ?_); rintro e w1 ⟨rfl, f⟩; replace hf := hf.then f; clear f) | ((with_reducible refine (t2 _).mono ?_); rintro e w1 ⟨rfl, f⟩; replace hf := hf.then f; clear f) | ((with_reducible refine (t3 _).mono ?_); rintro e w1 ⟨rfl, f⟩; replace hf := hf.then f; clear f) | ((with_reducible refine (t4 _).mono ?_); rintro e w1 ⟨rfl, f⟩; replace hf := hf.then f; clear f) | ((with_reducible refine (t5 _).mono ?_); rintro e w1 ⟨rfl, f⟩; replace hf := hf.then f; clear f) | ((with_reducible refine (s1 _).mono ?_); rintro e w1 ⟨rfl, f⟩; replace hf := hf.then f; clear f) | ((with_reducible refine (s2 _).mono ?_); rintro e w1 ⟨rfl, f⟩; replace hf := hf.then f; clear f) | ((with_reducible refine (t6 _).mono ?_); rintro e w1 ⟨rfl, f⟩; replace hf := hf.then f; clear f) | ((with_reducible refine (t7 _).mono ?_); rintro e w1 ⟨rfl, f⟩; replace hf := hf.then f; clear f) | ((with_reducible refine (s3 _).mono ?_); rintro e w1 ⟨rfl, f⟩; replace hf := hf.then f; clear f) | ((with_reducible refine (r1 _).mono ?_); rintro e w1 ⟨rfl, rfl⟩) | ((with_reducible refine (r2 _).mono ?_); rintro e w1 ⟨rfl, rfl⟩) | ((with_reducible refine (p1 _).mono ?_); rintro e w1 ⟨rfl, f⟩; replace hf := hf.then f; clear f) | ((with_reducible refine (t8 _).mono ?_); rintro e w1 ⟨rfl, f⟩; replace hf := hf.then f; clear f) | ((with_reducible refine (p2 _).mono ?_); rintro e w1 ⟨rfl, f⟩; replace hf := hf.then f; clear f))
    all_goals go_ret
    all_goals exact ⟨rfl, hf⟩
end Go.Proofs.Yteigenmhfgldfaa
