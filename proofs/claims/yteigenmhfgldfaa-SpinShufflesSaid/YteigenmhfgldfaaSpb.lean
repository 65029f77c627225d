/-
  Spb: package math's Frexp, Ldexp at whole numbers.
-/
import Derived.Test.YteigenmhfgldfaaSpa
namespace Go.Proofs.Yteigenmhfgldfaa
open Go.RowKit Ieee

theorem i64_and2047 (n : Int) : bits .and .i64 n 2047 = n % 2048 := by
  have h127 : (BitVec.ofInt 64 2047).toNat = 2 ^ 11 - 1 := by decide
  have key : (BitVec.ofInt 64 n &&& BitVec.ofInt 64 2047).toNat = (n % ((2 ^ 64 : Nat) : Int)).toNat % 2 ^ 11 := by
    rw [BitVec.toNat_and, BitVec.toNat_ofInt, h127, Nat.and_two_pow_sub_one_eq_mod]
  show IntKind.i64.wrap ((BitVec.ofInt 64 n &&& BitVec.ofInt 64 2047).toNat : Nat) = n % 2048
  rw [key, IntKind.wrap_i64]
  omega
theorem w64 (n : Int) (h1 : -1000000 ≤ n) (h2 : n ≤ 1000000) : wrap64 n = n := by unfold wrap64; omega
theorem ord_zero {V : Nat} (hV : V ≠ 0) (h : V < 2 ^ 53) : FloatKind.f64.format.order (fw false V) 0 = some .gt := by
  have := order_fw false false V 0 h (by decide)
  rw [show fw false 0 = 0 by decide +kernel] at this
  refine this.trans (congrArg some (Int.compare_eq_gt.2 ?_))
  unfold sg; simp; omega
theorem ord_self {V : Nat} (h : V < 2 ^ 53) (s : Bool) : FloatKind.f64.format.order (fw s V) (fw s V) = some .eq := by
  refine (order_fw s s V V h h).trans (congrArg some (Int.compare_eq_eq.2 rfl))

set_option maxRecDepth 8000 in
theorem frexp_calls (V : Nat) (w : World) (hV : V ≠ 0) (h : V < 2 ^ 53) :
    Calls Try.prog 108 #[.float .f64 (fw false V)] w fun e w' => e = .returned (.tuple #[.float .f64 (frw V), .int .i64 ((V.log2 : Int) + 1)]) ∧ w' = w := by
  have hs := fw_small h
  have k1 := ord_zero hV h
  have k2 : FloatKind.f64.format.order (fw false V % 9223372036854775808) 9218868437227405311 = some .lt := by
    rw [Nat.mod_eq_of_lt (by omega)]; exact order_max h
  have c1 := fun W => isinf_calls (fw false V) W (by omega) k2
  have c2 := fun W => isnan_calls (fw false V) W (ord_self h false)
  have c3 := fun W => normalize_calls (fw false V) W (by omega) (order_least hV h)
  have b1 := andNot_expo (fw false V) (by omega)
  obtain ⟨d1, d2⟩ := fw_expo hV h
  have hL := log2_lt h hV
  have b2 := and_mask (fw false V / 4503599627370496) (by omega)
  have b3 := or_expo (fw false V % 4503599627370496) 1022 (by omega) (by decide)
  have hfr : 1022 * 4503599627370496 + fw false V % 4503599627370496 = frw V := by
    have := man_ge hV h
    rw [d2]; unfold frw
    generalize man V = M at *
    clear h d2 b3 b2 b1
    omega
  rw [hfr] at b3
  rw [d1, Nat.mod_eq_of_lt (show V.log2 + 1023 < 2048 by omega)] at b2
  generalize hX : fw false V = X at *
  generalize hm : X % 4503599627370496 = m at *
  generalize frw V = R at *
  generalize V.log2 = L at *
  have hLi : (L : Int) ≤ 52 := by omega
  have b2' : bits .and .u64 ((X : Int) / 4503599627370496) 2047 = (L : Int) + 1023 := by
    rw [show ((X : Int) / 4503599627370496) = ((L + 1023 : Nat) : Int) by omega, b2]; omega
  rw [show ((1022 * 4503599627370496 : Nat) : Int) = 4602678819172646912 by omega] at b3
  have e1 : wrap64 (wrap64 (wrap64 (wrap64 ((L : Int) + 1023) - 1023) + 1)) = (L : Int) + 1 := by
    rw [w64 ((L : Int) + 1023) (by omega) (by omega), w64 ((L : Int) + 1023 - 1023) (by omega) (by omega), w64 ((L : Int) + 1023 - 1023 + 1) (by omega) (by omega), w64 ((L : Int) + 1023 - 1023 + 1) (by omega) (by omega)]; omega
  clear k2 h hV hX hfr d2 hm b2 d1
  go_enter Try.func108, Try.ntmps108
  go_wp2_with (first | ((with_reducible refine (c1 _).mono ?_); rintro e w' ⟨rfl, rfl⟩) | ((with_reducible refine (c2 _).mono ?_); rintro e w' ⟨rfl, rfl⟩) | ((with_reducible refine (c3 _).mono ?_); rintro e w' ⟨rfl, rfl⟩))
  go_ret2
  refine ⟨?_, rfl⟩
  simp only [e1, Int.toNat_natCast]
  rfl
theorem Frexp_calls (V : Nat) (w : World) (hV : V ≠ 0) (h : V < 2 ^ 53) :
    Calls Try.prog 95 #[.float .f64 (fw false V)] w fun e w' => e = .returned (.tuple #[.float .f64 (frw V), .int .i64 ((V.log2 : Int) + 1)]) ∧ w' = w := by
  have hc := fun W => frexp_calls V W hV h
  generalize fw false V = X at *
  go_enter Try.func95, Try.ntmps95
  go_wp2_with ((with_reducible refine (hc _).mono ?_); rintro e w' ⟨rfl, rfl⟩)
  go_ret2
  exact ⟨rfl, rfl⟩

set_option maxRecDepth 8000 in
theorem ldexp_calls (V k : Nat) (w : World) (hV : V ≠ 0) (h : V * 2 ^ k < 2 ^ 53) :
    Calls Try.prog 110 #[.float .f64 (fw false V), .int .i64 (k : Int)] w fun e w' => e = .returned (.float .f64 (fw false (V * 2 ^ k))) ∧ w' = w := by
  have hVl : V < 2 ^ 53 := Nat.lt_of_le_of_lt (Nat.le_mul_of_pos_right V (Nat.two_pow_pos k)) h
  have hne : V * 2 ^ k ≠ 0 := Nat.ne_of_gt (Nat.mul_pos (Nat.pos_of_ne_zero hV) (Nat.two_pow_pos k))
  have hs := fw_small hVl
  have k1 := ord_zero hV hVl
  have k2 : FloatKind.f64.format.order (fw false V % 9223372036854775808) 9218868437227405311 = some .lt := by
    rw [Nat.mod_eq_of_lt (by omega)]; exact order_max hVl
  have c1 := fun W => isinf_calls (fw false V) W (by omega) k2
  have c2 := fun W => isnan_calls (fw false V) W (ord_self hVl false)
  have c3 := fun W => normalize_calls (fw false V) W (by omega) (order_least hV hVl)
  have b1 := andNot_expo (fw false V) (by omega)
  obtain ⟨d1, d2⟩ := fw_expo hV hVl
  obtain ⟨m1, m2⟩ := man_shift k hV h
  have hL := log2_lt hVl hV
  have hL2 := log2_lt h hne
  rw [m2] at hL2
  have b3 := or_expo (fw false V % 4503599627370496) (V.log2 + k + 1023) (by omega) (by omega)
  have hfr : (V.log2 + k + 1023) * 4503599627370496 + fw false V % 4503599627370496 = fw false (V * 2 ^ k) := by
    have h1 := man_ge hV hVl
    rw [d2, fw_parts hne h, m1, m2]
    generalize man V = M at *
    generalize V.log2 = L at *
    clear h d2 b3 b1 hVl m1 m2
    omega
  rw [hfr] at b3
  have hmul := mul_fw false false 1 (V * 2 ^ k) (by decide) h (by rw [Nat.one_mul]; exact h)
  rw [Nat.one_mul, show fw false 1 = 4607182418800017408 by decide +kernel] at hmul
  rw [show (false ^^ false) = false from rfl] at hmul
  generalize fw false (V * 2 ^ k) = R at *
  generalize hX : fw false V = X at *
  generalize hm : X % 4503599627370496 = m at *
  generalize V.log2 = L at *
  have hLi : (L : Int) + k ≤ 52 := by omega
  have hXd : (X : Int) / 4503599627370496 = (L : Int) + 1023 := by omega
  have b2 : bits .and .i64 ((X : Int) / 4503599627370496) 2047 = (L : Int) + 1023 := by
    rw [hXd, i64_and2047]; omega
  have hmul' : floatBits .mul .f64 4607182418800017408 R = some R := hmul
  rw [show (((L + k + 1023) * 4503599627370496 : Nat) : Int) = ((k : Int) + (L : Int) + 1023) * 4503599627370496 by omega] at b3
  have hrun := fun W => run_float_arith (P := Try.prog) W .mul 29 .f64 _ _ _ hmul'
  clear k2 h hV hX hfr d2 hm d1 hne hVl m1 m2 hmul hXd
  go_enter Try.func110, Try.ntmps110
  go_wp2_with (first | ((with_reducible refine (c1 _).mono ?_); rintro e w' ⟨rfl, rfl⟩) | ((with_reducible refine (c2 _).mono ?_); rintro e w' ⟨rfl, rfl⟩) | ((with_reducible refine (c3 _).mono ?_); rintro e w' ⟨rfl, rfl⟩))
  go_ret
  exact ⟨rfl, rfl⟩
theorem Ldexp_calls (V k : Nat) (w : World) (hV : V ≠ 0) (h : V * 2 ^ k < 2 ^ 53) :
    Calls Try.prog 96 #[.float .f64 (fw false V), .int .i64 (k : Int)] w fun e w' => e = .returned (.float .f64 (fw false (V * 2 ^ k))) ∧ w' = w := by
  have hc := fun W => ldexp_calls V k W hV h
  generalize fw false (V * 2 ^ k) = R at *
  generalize fw false V = X at *
  go_enter Try.func96, Try.ntmps96
  go_wp2_with ((with_reducible refine (hc _).mono ?_); rintro e w' ⟨rfl, rfl⟩)
  go_ret
  exact ⟨rfl, rfl⟩
end Go.Proofs.Yteigenmhfgldfaa
