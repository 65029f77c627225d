/-
  Spi: SpinAdds answers true.
-/
import Derived.Test.YteigenmhfgldfaaSph
namespace Go.Proofs.Yteigenmhfgldfaa
open Go.RowKit Ieee

theorem tmod_pos {x n : Int} (hn : 0 < n) (h : 0 ≤ x.tmod n) : x.tmod n = x % n := by
  rw [Int.tmod_eq_emod] at h ⊢
  split
  · omega
  · rename_i hc
    rw [if_neg hc] at h
    have := Int.emod_lt_of_pos x hn
    omega
theorem tmod_neg {x n : Int} (hn : 0 < n) (h : x.tmod n < 0) : x.tmod n + n = x % n := by
  rw [Int.tmod_eq_emod] at h ⊢
  have := Int.emod_nonneg x (by omega : n ≠ 0)
  split
  · rename_i hc; rw [if_pos hc] at h; omega
  · omega

set_option maxHeartbeats 400000 in
theorem pick_calls (x n : Int) (w : World) (hn : 0 < n) (hn2 : n ≤ 9223372036854775807) :
    Calls Try.prog 14 #[.int .i64 x, .int .i64 n] w fun e w' => e = .returned (.int .i64 (x % n)) ∧ w = w' := by
  have h1 := Int.emod_nonneg x (by omega : n ≠ 0)
  have h2 := Int.emod_lt_of_pos x hn
  have H1 := Lib.hid h1
  have H2 := Lib.hid h2
  clear h1 h2
  go_enter Try.func14, Try.ntmps14
  go_wp2
  all_goals go_ret
  all_goals have h1 := H1.out
  all_goals have h2 := H2.out
  · refine ⟨ret_int ?_, rfl⟩
    have := tmod_neg hn (by assumption)
    rw [this]; unfold wrap64; omega
  · exact ⟨ret_int (tmod_pos hn (by assumption)), rfl⟩
theorem pm_pick (a : Int) : a % 524287 = (pm a : Int) := (pm_int a).symm
set_option maxRecDepth 8000 in
theorem made_calls (a b : Int) (w : World) :
    Calls Try.prog 9 #[.int .i64 a, .int .i64 b] w fun e w' => e = .returned (gv (pm a, pm b)) ∧ w' = w := by
  have p1 := fun W => pick_calls a 524287 W (by decide) (by decide)
  have p2 := fun W => pick_calls b 524287 W (by decide) (by decide)
  rw [pm_pick] at p1 p2
  have hfl : ∀ n : Nat, floatOfInt .f64 (n : Int) = fw false n := fun n => by
    rw [int_fw, decide_eq_false (by omega), Int.natAbs_natCast]
  have h1 := hfl (pm a)
  have h2 := hfl (pm b)
  clear hfl
  go_enter Try.func9, Try.ntmps9
  go_wp2_with (first | ((with_reducible refine (p1 _).mono ?_); rintro e w1 ⟨rfl, rfl⟩) | ((with_reducible refine (p2 _).mono ?_); rintro e w1 ⟨rfl, rfl⟩))
  go_ret
  exact ⟨rfl, rfl⟩
theorem gok_pm (a b : Int) : gok (pm a, pm b) := ⟨pm_lt _, pm_lt _⟩
theorem gv_eq {x : G} (h : gok x) : FloatKind.f64.format.order (fw false x.1) (fw false x.1) = some .eq ∧ FloatKind.f64.format.order (fw false x.2) (fw false x.2) = some .eq := ⟨ord_self (lt53 h.1) false, ord_self (lt53 h.2) false⟩

set_option maxRecDepth 8000 in
set_option maxHeartbeats 1600000 in
theorem adds_walk (a b m n : Int) (w : World) :
    Calls Try.prog 4 #[.int .i64 a, .int .i64 b, .int .i64 m, .int .i64 n] w fun e w' => e = .returned (.bool true) ∧ Fr NoB w w' := by
  have hf : Fr NoB w w := Fr.refl _ _
  obtain ⟨x, hxe, hx⟩ : ∃ x : G, x = (pm a, pm b) ∧ gok x := ⟨_, rfl, gok_pm a b⟩
  have c0 := fun W => made_calls a b W
  rw [← hxe] at c0
  have q1 := fun W => pick_calls m 1048576 W (by decide) (by decide)
  have q2 := fun W => pick_calls n 1048576 W (by decide) (by decide)
  obtain ⟨i, hi⟩ : ∃ i : Nat, m % 1048576 = (i : Int) := ⟨(m % 1048576).toNat, by omega⟩
  obtain ⟨j, hj⟩ : ∃ j : Nat, n % 1048576 = (j : Int) := ⟨(n % 1048576).toNat, by omega⟩
  have hi2 : i < 1048576 := by omega
  have hj2 : j < 1048576 := by omega
  rw [hi] at q1
  rw [hj] at q2
  have hij : i * j ≤ 1048576 * 1048576 := Nat.mul_le_mul (by omega) (by omega)
  have p1 := fun W => power_calls x hx i (by omega) W
  have p2 := fun W => power_calls x hx j (by omega) W
  have t1 := fun W => times_g (gpow x i) (gpow x j) (gok_pow x i) (gok_pow x j) W
  rw [← gpow_add] at t1
  have p3 := fun W => power_calls x hx (i + j) (by omega) W
  have p4 := fun W => power_calls (gpow x i) (gok_pow x i) j (by omega) W
  rw [gpow_mul] at p4
  have p5 := fun W => power_calls x hx (i * j) (by omega) W
  obtain ⟨e1, e2⟩ := gv_eq (gok_pow x (i + j))
  obtain ⟨e3, e4⟩ := gv_eq (gok_pow x (i * j))
  rw [show ((i + j : Nat) : Int) = (i : Int) + j by omega] at p3
  rw [Int.natCast_mul] at p5
  have hb : (i : Int) * (j : Int) ≤ 1099511627776 := by
    rw [← Int.natCast_mul]; omega
  have hb0 : (0 : Int) ≤ (i : Int) * (j : Int) := by
    rw [← Int.natCast_mul]; omega
  obtain ⟨ij, hije⟩ : ∃ ij : Int, (i : Int) * (j : Int) = ij := ⟨_, rfl⟩
  have hw : wrap64 ((i : Int) * (j : Int)) = ij := by
    rw [hije] at hb hb0 ⊢
    unfold wrap64; omega
  rw [hije] at p5 hb hb0
  have hii : (i : Int) < 1048576 := by omega
  have hjj : (j : Int) < 1048576 := by omega
  clear hi hj hij hxe hije
  go_enter Try.func4, Try.ntmps4
  go_wp2_with (first | ((with_reducible refine (awake_calls _).mono ?_); rintro e w1 ⟨rfl, f⟩; replace hf := hf.then f; clear f) | ((with_reducible refine (c0 _).mono ?_); rintro e w1 ⟨rfl, rfl⟩) | ((with_reducible refine (q1 _).mono ?_); rintro e w1 ⟨rfl, rfl⟩) | ((with_reducible refine (q2 _).mono ?_); rintro e w1 ⟨rfl, rfl⟩) | ((with_reducible refine (p1 _).mono ?_); rintro e w1 ⟨rfl, f⟩; replace hf := hf.then f; clear f) | ((with_reducible refine (p2 _).mono ?_); rintro e w1 ⟨rfl, f⟩; replace hf := hf.then f; clear f) | ((with_reducible refine (t1 _).mono ?_); rintro e w1 ⟨rfl, f⟩; replace hf := hf.then f; clear f) | ((with_reducible refine (p3 _).mono ?_); rintro e w1 ⟨rfl, f⟩; replace hf := hf.then f; clear f) | ((with_reducible refine (p4 _).mono ?_); rintro e w1 ⟨rfl, f⟩; replace hf := hf.then f; clear f) | ((with_reducible refine (p5 _).mono ?_); rintro e w1 ⟨rfl, f⟩; replace hf := hf.then f; clear f))
  all_goals go_ret
  all_goals exact ⟨rfl, hf⟩
end Go.Proofs.Yteigenmhfgldfaa
