/-
  Spl: the document's answer: numbers, products, sums, New, Next.
-/
import Derived.Test.YteigenmhfgldfaaSpi
namespace Go.Proofs.Yteigenmhfgldfaa
open Go.RowKit Ieee

theorem fl_int (n : Nat) (h : n < 524287) (k : IntKind) (hk : k = .i64) : floatToIntVal .f64 (fw false n) k = some (n : Int) := by
  subst hk
  unfold floatToIntVal
  rw [show (FloatKind.f64.decode (fw false n)).toInt .zero = some (sg false n) from (num_read false _ (lt53 h)).toInt .zero]
  rw [sg_pos]
  simp only
  rw [if_pos]
  have e1 : IntKind.i64.min = -9223372036854775808 := by decide
  have e2 : IntKind.i64.max = 9223372036854775807 := by decide
  rw [e1, e2]; omega
theorem fl_of (n : Nat) : floatOfInt .f64 (n : Int) = fw false n := by
  rw [int_fw, decide_eq_false (by omega), Int.natAbs_natCast]
set_option maxRecDepth 8000 in
theorem refwhole_calls (n : Nat) (w : World) (h : n < 524287) :
    Calls Try.prog 90 #[.float .f64 (fw false n)] w fun e w' => e = .returned (.tuple #[.int .i64 (n : Int), .bool true]) ∧ w' = w := by
  have hl := lt53 h
  have o1 : FloatKind.f64.format.order (fw false n) 0 = some .gt ∨ FloatKind.f64.format.order (fw false n) 0 = some .eq := by
    by_cases h0 : n = 0
    · subst h0; right; decide +kernel
    · exact .inl (ord_zero h0 hl)
  have o2 : FloatKind.f64.format.order (fw false n) 4692750794540187648 = some .lt := by
    have := order_fw false false n 524287 hl (by decide)
    rw [pr_word] at this
    refine this.trans (congrArg some (Int.compare_eq_lt.2 ?_))
    unfold sg; simp only [Bool.false_eq_true, if_false]; omega
  have o3 := ord_self hl false
  have q1 := fun W => run_convert_float_int (P := Try.prog) W 29 2 .f64 .i64 _ _ (by kernel_rfl) (by kernel_rfl) (fl_int n h .i64 rfl)
  have q2 := fl_of n
  generalize fw false n = X at *
  rcases o1 with o1 | o1
  all_goals go_enter Try.func90, Try.ntmps90
  all_goals go_wp2
  all_goals go_ret2
  all_goals exact ⟨rfl, rfl⟩
set_option maxRecDepth 8000 in
theorem refpair_calls (x : G) (hx : gok x) (w : World) :
    Calls Try.prog 58 #[gv x] w fun e w' => e = .returned (.tuple #[.int .i64 (x.1 : Int), .int .i64 (x.2 : Int), .bool true]) ∧ w' = w := by
  have c1 := fun W => refwhole_calls x.1 W hx.1
  have c2 := fun W => refwhole_calls x.2 W hx.2
  show Calls Try.prog 58 #[.complex .f64 (fw false x.1) (fw false x.2)] w _
  generalize fw false x.1 = A at *
  generalize fw false x.2 = B at *
  go_enter Try.func58, Try.ntmps58
  go_wp2_with (first | ((with_reducible refine (c1 _).mono ?_); rintro e w' ⟨rfl, rfl⟩) | ((with_reducible refine (c2 _).mono ?_); rintro e w' ⟨rfl, rfl⟩))
  go_ret3
  exact ⟨rfl, rfl⟩
set_option maxRecDepth 8000 in
theorem refnum_calls (a b : Int) (w : World) :
    Calls Try.prog 32 #[.int .i64 a, .int .i64 b] w fun e w' => e = .returned (gv (pm a, pm b)) ∧ w' = w := by
  obtain ⟨t1, t2, t3, t4⟩ := tmod_pr a
  obtain ⟨u1, u2, u3, u4⟩ := tmod_pr b
  have q1 := fl_of (pm a)
  have q2 := fl_of (pm b)
  by_cases h : a.tmod 524287 < 0 <;> by_cases k : b.tmod 524287 < 0
  · have ht := t1 h
    have hu := u1 k
    clear t1 t2 u1 u2
    go_enter Try.func32, Try.ntmps32
    go_wp2
    go_ret
    exact ⟨rfl, rfl⟩
  · have ht := t1 h
    have hu := u2 k
    clear t1 t2 u1 u2
    go_enter Try.func32, Try.ntmps32
    go_wp2
    go_ret
    exact ⟨rfl, rfl⟩
  · have ht := t2 h
    have hu := u1 k
    clear t1 t2 u1 u2
    go_enter Try.func32, Try.ntmps32
    go_wp2
    go_ret
    exact ⟨rfl, rfl⟩
  · have ht := t2 h
    have hu := u2 k
    clear t1 t2 u1 u2
    go_enter Try.func32, Try.ntmps32
    go_wp2
    go_ret
    exact ⟨rfl, rfl⟩
theorem gv_pair {x : G} {a b : Nat} (h1 : a = x.1) (h2 : b = x.2) : gv (a, b) = gv x := by subst h1 h2; rfl
set_option maxRecDepth 8000 in
theorem reftimes_calls (x y : G) (hx : gok x) (hy : gok y) (w : World) :
    Calls Try.prog 33 #[gv x, gv y] w fun e w' => e = .returned (.tuple #[gv (gmul x y), .bool true]) ∧ w' = w := by
  have c1 := fun W => refpair_calls x hx W
  have c2 := fun W => refpair_calls y hy W
  have hm : ∀ a b : Nat, a < 524287 → b < 524287 → ∃ p : Int, (a : Int) * (b : Int) = p ∧ wrap64 ((a : Int) * (b : Int)) = p ∧ 0 ≤ p ∧ p < 274876858368 := fun a b ha hb => by
    have h1 : a * b ≤ 524286 * 524286 := Nat.mul_le_mul (by omega) (by omega)
    refine ⟨((a * b : Nat) : Int), by rw [Int.natCast_mul], ?_, by omega, by omega⟩
    rw [← Int.natCast_mul]
    unfold wrap64; omega
  obtain ⟨p1, e1, w1, l1, k1⟩ := hm x.1 y.1 hx.1 hy.1
  obtain ⟨p2, e2, w2, l2, k2⟩ := hm x.2 y.2 hx.2 hy.2
  obtain ⟨p3, e3, w3, l3, k3⟩ := hm x.1 y.2 hx.1 hy.2
  obtain ⟨p4, e4, w4, l4, k4⟩ := hm x.2 y.1 hx.2 hy.1
  have c3 := fun W => refnum_calls (p1 - p2) (p3 + p4) W
  have hg : gv (pm (p1 - p2), pm (p3 + p4)) = gv (gmul x y) := by
    apply gv_pair
    · unfold gmul; rw [Int.natCast_mul, Int.natCast_mul, e1, e2]
    · show pm (p3 + p4) = pm (((x.1 * y.2 : Nat) : Int) + ((x.2 * y.1 : Nat) : Int))
      rw [Int.natCast_mul, Int.natCast_mul, e3, e4]
  rw [hg] at c3
  clear e1 e2 e3 e4 hm hg
  generalize gv (gmul x y) = R at *
  go_enter Try.func33, Try.ntmps33
  go_wp2_with (first | ((with_reducible refine (c1 _).mono ?_); rintro e w' ⟨rfl, rfl⟩) | ((with_reducible refine (c2 _).mono ?_); rintro e w' ⟨rfl, rfl⟩) | ((with_reducible refine (c3 _).mono ?_); rintro e w' ⟨rfl, rfl⟩))
  go_ret2
  exact ⟨rfl, rfl⟩
end Go.Proofs.Yteigenmhfgldfaa
