/-
  Spa: package math's small functions at whole numbers: Abs, IsNaN, IsInf, normalize.
-/
import Derived.Test.YteigenmhfgldfaaProg
import Derived.Test.YteigenmhfgldfaaBase
import Derived.Test.YteigenmhfgldfaaFlc
import Derived.Handy
import Derived.Laws.Cover2
import Derived.Laws.BitsAllLaws
namespace Go.Proofs.Yteigenmhfgldfaa
open Go.RowKit

@[go_sem] theorem run_bits (x : Nat) (w : World) : (callFunc 98 #[.float .f64 x]).run Try.prog w = .ok (.value (.int .u64 (x : Int))) w :=
  run_callFunc_extern (e := Go.Extern.MathFloatBits.float64bits) Try.func98 (by kernel_rfl) (by kernel_rfl) (by kernel_rfl) (by kernel_rfl) _ w
@[go_sem] theorem run_frombits (n : Int) (w : World) : (callFunc 99 #[.int .u64 n]).run Try.prog w = .ok (.value (.float .f64 n.toNat)) w :=
  run_callFunc_extern (e := Go.Extern.MathFloatBits.float64frombits) Try.func99 (by kernel_rfl) (by kernel_rfl) (by kernel_rfl) (by kernel_rfl) _ w

theorem andNot_sign (x : Nat) (h : x < 18446744073709551616) : bits .andNot .u64 (x : Int) 9223372036854775808 = ((x % 9223372036854775808 : Nat) : Int) := by
  have := u64_andNot_nat x 9223372036854775808 h (by decide)
  rw [show (18446744073709551615 - 9223372036854775808 : Nat) = 2 ^ 63 - 1 by decide, Nat.and_two_pow_sub_one_eq_mod, show (2 : Nat) ^ 63 = 9223372036854775808 by decide] at this
  exact this
theorem andNot_expo (x : Nat) (h : x < 9223372036854775808) : bits .andNot .u64 (x : Int) 9218868437227405312 = ((x % 4503599627370496 : Nat) : Int) := by
  have := u64_andNot_nat x 9218868437227405312 (by omega) (by decide)
  rw [show (18446744073709551615 - 9218868437227405312 : Nat) = 2 ^ 63 ||| (2 ^ 52 - 1) by decide +kernel, Nat.and_or_distrib_left, Nat.and_two_pow_sub_one_eq_mod, show x &&& 2 ^ 63 = 0 by
    apply Nat.eq_of_testBit_eq
    intro i
    rw [Nat.testBit_and, Nat.testBit_two_pow, Nat.zero_testBit]
    by_cases hi : 63 = i
    · subst hi
      rw [Nat.testBit_lt_two_pow (show x < 2 ^ 63 by rw [show (2 : Nat) ^ 63 = 9223372036854775808 by decide]; exact h)]; rfl
    · simp [hi], Nat.zero_or, show (2 : Nat) ^ 52 = 4503599627370496 by decide] at this
  exact this
theorem and_mask (x : Nat) (h : x < 18446744073709551616) : bits .and .u64 (x : Int) 2047 = ((x % 2048 : Nat) : Int) := by
  have := u64_and_nat x 2047 h (by decide)
  rw [show (2047 : Nat) = 2 ^ 11 - 1 by decide, Nat.and_two_pow_sub_one_eq_mod] at this
  exact this
theorem or_expo (m c : Nat) (hm : m < 4503599627370496) (hc : c < 2048) : bits .or .u64 (m : Int) ((c * 4503599627370496 : Nat) : Int) = ((c * 4503599627370496 + m : Nat) : Int) := by
  have := u64_or_nat m (c * 4503599627370496) (by omega) (by omega)
  rw [show m ||| c * 4503599627370496 = c * 4503599627370496 + m by
    rw [Nat.or_comm, Nat.mul_comm c, show 4503599627370496 = 2 ^ 52 by decide, ← Nat.two_pow_add_eq_or_of_lt (by simpa using hm)]] at this
  exact this

set_option maxRecDepth 8000 in
theorem abs_calls (x : Nat) (w : World) (h : x < 18446744073709551616) :
    Calls Try.prog 94 #[.float .f64 x] w fun e w' => e = .returned (.float .f64 (x % 9223372036854775808)) ∧ w' = w := by
  have h1 := andNot_sign x h
  go_enter Try.func94, Try.ntmps94
  go_wp2
  go_ret
  exact ⟨by simp, rfl⟩
theorem isnan_calls (x : Nat) (w : World) (h : FloatKind.f64.format.order x x = some .eq) :
    Calls Try.prog 92 #[.float .f64 x] w fun e w' => e = .returned (.bool false) ∧ w' = w := by
  go_enter Try.func92, Try.ntmps92
  go_wp2
  go_ret
  exact ⟨by simp [h], rfl⟩
theorem isinf_calls (x : Nat) (w : World) (hx : x < 18446744073709551616) (h : FloatKind.f64.format.order (x % 9223372036854775808) 9218868437227405311 = some .lt) :
    Calls Try.prog 91 #[.float .f64 x, .int .i64 0] w fun e w' => e = .returned (.bool false) ∧ w' = w := by
  go_enter Try.func91, Try.ntmps91
  go_wp2_with ((with_reducible refine (abs_calls x _ hx).mono ?_); rintro e w' ⟨rfl, rfl⟩)
  go_ret
  exact ⟨by simp [h], rfl⟩
theorem normalize_calls (x : Nat) (w : World) (hx : x < 9223372036854775808) (h : FloatKind.f64.format.order x 4503599627370496 = some .gt) :
    Calls Try.prog 111 #[.float .f64 x] w fun e w' => e = .returned (.tuple #[.float .f64 x, .int .i64 0]) ∧ w' = w := by
  have ha := fun W => abs_calls x W (by omega)
  rw [Nat.mod_eq_of_lt hx] at ha
  go_enter Try.func111, Try.ntmps111
  go_wp2_with ((with_reducible refine (ha _).mono ?_); rintro e w' ⟨rfl, rfl⟩)
  go_ret2
  exact ⟨rfl, rfl⟩
end Go.Proofs.Yteigenmhfgldfaa
