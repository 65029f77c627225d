/-
  Fla: whole numbers as floats: sums, differences, products, comparisons of floats that are whole numbers below 2^53 are exact. No program in sight.
-/
import Derived.Laws.FloatArith
namespace Go.Proofs.Yteigenmhfgldfaa
open Ieee

theorem log2_mul_pow (V k : Nat) (h : V ≠ 0) : (V * 2 ^ k).log2 = V.log2 + k := by
  induction k with
  | zero => simp
  | succ k ih =>
    rw [Nat.pow_succ, ← Nat.mul_assoc, Nat.mul_comm _ 2, Nat.log2_two_mul (by
      have : 0 < V * 2 ^ k := Nat.mul_pos (Nat.pos_of_ne_zero h) (Nat.two_pow_pos k)
      omega), ih]
    omega

theorem cut_exact (way : Toward) (neg : Bool) (q d : Nat) : way.cut neg (q * 2 ^ d) d = q := by
  unfold Toward.cut
  by_cases hq : q = 0
  · subst hq
    simp only [Nat.zero_mul, Nat.zero_div, Nat.zero_mod]
    have : ∀ g : Nat, (1 <<< g : Nat) ≠ 0 := fun g => by rw [Nat.one_shiftLeft]; exact Nat.ne_of_gt (Nat.two_pow_pos g)
    cases way <;> simp [this]
  · have hm : min d ((q * 2 ^ d).log2 + 2) = d := by
      rw [log2_mul_pow q d hq]; omega
    simp only [hm, Nat.one_shiftLeft]
    have h1 : q * 2 ^ d / 2 ^ d = q := Nat.mul_div_cancel _ (Nat.two_pow_pos d)
    have h2 : q * 2 ^ d % 2 ^ d = 0 := Nat.mul_mod_left _ _
    rw [h1, h2]
    have : (2 ^ d : Nat) ≠ 0 := Nat.ne_of_gt (Nat.two_pow_pos d)
    cases way <;> simp [this]

theorem bin_eq : double.binade = 4503599627370496 := by decide +kernel
theorem inf_eq : double.infRung = 9218868437227405312 := by decide +kernel
theorem sgn_eq : double.signWeight = 9223372036854775808 := by decide +kernel
theorem lst_eq : double.leastPlace = -1074 := by decide +kernel
theorem p52 : (2 : Nat) ^ 52 = 4503599627370496 := by decide +kernel
theorem p53 : (2 : Nat) ^ 53 = 9007199254740992 := by decide +kernel
theorem bound_rung (L M : Nat) (h : L ≤ 52) (hM : M < 9007199254740992) : (L + 1022) * 4503599627370496 + M ≤ 9218868437227405312 := by omega
theorem bound_rung2 (L M : Nat) (h : L ≤ 52) (hM : M < 9007199254740992) : (L + 1022) * 4503599627370496 + M < 9218868437227405312 := by omega
theorem rung_div (L M R : Nat) (h1 : 4503599627370496 ≤ M) (h2 : M < 9007199254740992) (hR : (L + 1022) * 4503599627370496 + M = R) : R / 4503599627370496 = L + 1023 ∧ R % 4503599627370496 = M - 4503599627370496 := by omega
theorem word_parts (neg : Bool) (R : Nat) (h : R < 9218868437227405312) : double.word neg R / 9223372036854775808 % 2 = (if neg then 1 else 0) ∧ double.word neg R % 9223372036854775808 = R := by
  unfold Format.word
  rw [sgn_eq]
  cases neg <;> simp <;> omega
/-- A datum is this whole number. -/
def Val (d : Datum) (z : Int) : Prop := ∃ (neg : Bool) (V k : Nat), d = .number neg (V * 2 ^ k) (-(k : Int)) ∧ z = (if neg then -(V : Int) else (V : Int))
/-- A whole number's word, with a sign. -/
def fw (neg : Bool) (V : Nat) : Nat := double.nearest neg V 0

theorem nearest_val (neg : Bool) (V k : Nat) (hV : V ≠ 0) (hL : V.log2 ≤ 52) : double.nearest neg (V * 2 ^ k) (-(k : Int)) = double.word neg ((V.log2 + 1022) * 4503599627370496 + V * 2 ^ (52 - V.log2)) := by
  have hne : V * 2 ^ k ≠ 0 := Nat.ne_of_gt (Nat.mul_pos (Nat.pos_of_ne_zero hV) (Nat.two_pow_pos k))
  have hlt : V * 2 ^ (52 - V.log2) < 9007199254740992 := by
    rw [← p53]
    have h1 : V < 2 ^ (V.log2 + 1) := Nat.lt_log2_self
    calc V * 2 ^ (52 - V.log2) < 2 ^ (V.log2 + 1) * 2 ^ (52 - V.log2) := Nat.mul_lt_mul_of_pos_right h1 (Nat.two_pow_pos _)
      _ = 2 ^ 53 := by rw [← Nat.pow_add]; congr 1; omega
  unfold Format.nearest
  rw [if_neg hne]
  dsimp only
  rw [log2_mul_pow V k hV]
  have hlast : max (-(k : Int) + ((V.log2 + k : Nat) : Int) - (double.fractionBits : Int)) double.leastPlace = (V.log2 : Int) - 52 := by
    have e1 : (double.fractionBits : Int) = 52 := rfl
    rw [e1, lst_eq]; omega
  rw [hlast]
  have hkept : Toward.even.cut neg ((V * 2 ^ k) <<< (-(k : Int) - ((V.log2 : Int) - 52)).toNat) ((V.log2 : Int) - 52 - -(k : Int)).toNat = V * 2 ^ (52 - V.log2) := by
    by_cases h : V.log2 + k ≤ 52
    · rw [show ((V.log2 : Int) - 52 - -(k : Int)).toNat = 0 by omega, show (-(k : Int) - ((V.log2 : Int) - 52)).toNat = 52 - V.log2 - k by omega, Nat.shiftLeft_eq]
      have := cut_exact .even neg (V * 2 ^ k * 2 ^ (52 - V.log2 - k)) 0
      rw [Nat.pow_zero, Nat.mul_one] at this
      rw [this, Nat.mul_assoc, ← Nat.pow_add]
      congr 2; omega
    · rw [show (-(k : Int) - ((V.log2 : Int) - 52)).toNat = 0 by omega, show ((V.log2 : Int) - 52 - -(k : Int)).toNat = V.log2 + k - 52 by omega, Nat.shiftLeft_zero]
      have := cut_exact .even neg (V * 2 ^ (52 - V.log2)) (V.log2 + k - 52)
      rw [Nat.mul_assoc, ← Nat.pow_add, show 52 - V.log2 + (V.log2 + k - 52) = k by omega] at this
      exact this
  rw [hkept]
  have e3 : ((V.log2 : Int) - 52 - double.leastPlace).toNat = V.log2 + 1022 := by
    rw [lst_eq]; omega
  rw [e3]
  rw [bin_eq, inf_eq, Nat.min_eq_left]
  clear hkept e3 hlast hne
  generalize V * 2 ^ (52 - V.log2) = M at hlt
  generalize V.log2 = L at *
  exact bound_rung L M hL hlt
theorem fw_word (neg : Bool) (V : Nat) (hV : V ≠ 0) (hL : V.log2 ≤ 52) : fw neg V = double.word neg ((V.log2 + 1022) * 4503599627370496 + V * 2 ^ (52 - V.log2)) := by
  have := nearest_val neg V 0 hV hL
  simpa [fw] using this
theorem fw_zero (neg : Bool) : fw neg 0 = double.word neg 0 := rfl
theorem log2_lt {V : Nat} (h : V < 2 ^ 53) (hV : V ≠ 0) : V.log2 ≤ 52 := by
  have := (Nat.log2_lt hV).2 h
  omega
/-- What is written of a whole number. -/
theorem write_number (neg : Bool) (V k : Nat) (h : V < 2 ^ 53) : double.write (.number neg (V * 2 ^ k) (-(k : Int))) = fw neg V := by
  show double.nearest neg (V * 2 ^ k) (-(k : Int)) = _
  by_cases hV : V = 0
  · subst hV
    rw [fw_zero]
    unfold Format.nearest
    rw [if_pos (Nat.zero_mul _)]
  · rw [nearest_val neg V k hV (log2_lt h hV), fw_word neg V hV (log2_lt h hV)]
/-- What is read of a whole number's word. -/
theorem read_fw (neg : Bool) (V : Nat) (h : V < 2 ^ 53) : ∃ k : Nat, double.read (fw neg V) = .number neg (V * 2 ^ k) (-(k : Int)) := by
  by_cases hV : V = 0
  · subst hV
    obtain ⟨K, hK⟩ : ∃ K : Nat, K = 1074 := ⟨_, rfl⟩
    refine ⟨K, ?_⟩
    rw [Nat.zero_mul]
    subst hK
    cases neg <;> decide +kernel
  · have hL := log2_lt h hV
    have hlt : V * 2 ^ (52 - V.log2) < 9007199254740992 := by
      rw [← p53]
      have h1 : V < 2 ^ (V.log2 + 1) := Nat.lt_log2_self
      calc V * 2 ^ (52 - V.log2) < 2 ^ (V.log2 + 1) * 2 ^ (52 - V.log2) := Nat.mul_lt_mul_of_pos_right h1 (Nat.two_pow_pos _)
        _ = 2 ^ 53 := by rw [← Nat.pow_add]; congr 1; omega
    have hge : 4503599627370496 ≤ V * 2 ^ (52 - V.log2) := by
      rw [← p52]
      have h1 : 2 ^ V.log2 ≤ V := Nat.log2_self_le hV
      calc 2 ^ 52 = 2 ^ V.log2 * 2 ^ (52 - V.log2) := by rw [← Nat.pow_add]; congr 1; omega
        _ ≤ V * 2 ^ (52 - V.log2) := Nat.mul_le_mul_right _ h1
    rw [fw_word neg V hV hL]
    refine ⟨52 - V.log2, ?_⟩
    generalize V * 2 ^ (52 - V.log2) = M at hlt hge
    generalize V.log2 = L at *
    have hr := bound_rung2 L M hL hlt
    generalize hR : (L + 1022) * 4503599627370496 + M = R at hr
    obtain ⟨hdiv, hmod⟩ := rung_div L M R hge hlt hR
    obtain ⟨w1, w2⟩ := word_parts neg R hr
    unfold Format.read
    dsimp only
    rw [sgn_eq, bin_eq, inf_eq, w1, w2, if_neg (show ¬ R < 4503599627370496 by clear w1 w2 hmod hdiv hV; omega), if_pos hr, hdiv, hmod, lst_eq]
    have : ((if neg = true then 1 else 0 : Nat) == 1) = neg := by cases neg <;> rfl
    rw [this, show 4503599627370496 + (M - 4503599627370496) = M by clear w1 w2 hmod hdiv hV hR; omega, show (-1074 : Int) + ((L + 1023 - 1 : Nat) : Int) = -((52 - L : Nat) : Int) by clear w1 w2 hmod hdiv hV hR; omega]
end Go.Proofs.Yteigenmhfgldfaa
