/-
  Flc: a whole number's word: its exponent and its fraction; comparisons with the greatest and the least; what is taken away in a remainder's round.
-/
import Derived.Test.YteigenmhfgldfaaFlb
namespace Go.Proofs.Yteigenmhfgldfaa
open Ieee

/-- A number's full significand. -/
def man (V : Nat) : Nat := V * 2 ^ (52 - V.log2)
theorem man_lt {V : Nat} (hV : V ≠ 0) (h : V < 2 ^ 53) : man V < 9007199254740992 := by
  have hL := log2_lt h hV
  have h1 : V < 2 ^ (V.log2 + 1) := Nat.lt_log2_self
  rw [← p53]
  calc V * 2 ^ (52 - V.log2) < 2 ^ (V.log2 + 1) * 2 ^ (52 - V.log2) := Nat.mul_lt_mul_of_pos_right h1 (Nat.two_pow_pos _)
    _ = 2 ^ 53 := by rw [← Nat.pow_add]; congr 1; omega
theorem man_ge {V : Nat} (hV : V ≠ 0) (h : V < 2 ^ 53) : 4503599627370496 ≤ man V := by
  have hL := log2_lt h hV
  have h1 : 2 ^ V.log2 ≤ V := Nat.log2_self_le hV
  rw [← p52]
  calc 2 ^ 52 = 2 ^ V.log2 * 2 ^ (52 - V.log2) := by rw [← Nat.pow_add]; congr 1; omega
    _ ≤ V * 2 ^ (52 - V.log2) := Nat.mul_le_mul_right _ h1
theorem man_mul {V : Nat} (hV : V ≠ 0) (h : V < 2 ^ 53) : man V * 2 ^ V.log2 = V * 2 ^ 52 := by
  have hL := log2_lt h hV
  unfold man
  rw [Nat.mul_assoc, ← Nat.pow_add]
  congr 2; omega
theorem man_shift {V : Nat} (k : Nat) (hV : V ≠ 0) (h : V * 2 ^ k < 2 ^ 53) : man (V * 2 ^ k) = man V ∧ (V * 2 ^ k).log2 = V.log2 + k := by
  have h2 := log2_mul_pow V k hV
  have hne : V * 2 ^ k ≠ 0 := Nat.ne_of_gt (Nat.mul_pos (Nat.pos_of_ne_zero hV) (Nat.two_pow_pos k))
  have hL := log2_lt h hne
  refine ⟨?_, h2⟩
  unfold man
  rw [h2, Nat.mul_assoc, ← Nat.pow_add]
  congr 2; omega
/-- The word, in two parts. -/
theorem fw_parts {V : Nat} (hV : V ≠ 0) (h : V < 2 ^ 53) : fw false V = (V.log2 + 1022) * 4503599627370496 + man V := by
  rw [fw_word false V hV (log2_lt h hV)]
  rfl
theorem fw_true {V : Nat} (h : V < 2 ^ 53) : fw true V = 9223372036854775808 + fw false V := by
  by_cases hV : V = 0
  · subst hV
    rw [fw_zero, fw_zero]
    unfold Format.word
    rw [sgn_eq, if_pos rfl, if_neg (by decide)]
  · rw [fw_word true V hV (log2_lt h hV), fw_word false V hV (log2_lt h hV)]
    unfold Format.word
    rw [sgn_eq, if_pos rfl, if_neg (by decide)]
theorem fw_small {V : Nat} (h : V < 2 ^ 53) : fw false V < 4890909195324358656 := by
  by_cases hV : V = 0
  · subst hV; decide +kernel
  · rw [fw_parts hV h]
    have h1 := man_lt hV h
    have h2 := log2_lt h hV
    generalize man V = M at *
    generalize V.log2 = L at *
    clear h
    omega
theorem fw_expo {V : Nat} (hV : V ≠ 0) (h : V < 2 ^ 53) : fw false V / 4503599627370496 = V.log2 + 1023 ∧ fw false V % 4503599627370496 = man V - 4503599627370496 := by
  rw [fw_parts hV h]
  have h1 := man_lt hV h
  have h2 := man_ge hV h
  generalize man V = M at *
  generalize V.log2 = L at *
  clear h
  omega
/-- The fraction that Frexp tells, as a word. -/
def frw (V : Nat) : Nat := 1021 * 4503599627370496 + man V
theorem read_frw {V : Nat} (hV : V ≠ 0) (h : V < 2 ^ 53) : double.read (frw V) = .number false (man V) (-53) := by
  have h1 := man_lt hV h
  have h2 := man_ge hV h
  unfold frw Format.read
  rw [sgn_eq, bin_eq, inf_eq, lst_eq]
  generalize man V = M at *
  clear h
  dsimp only
  have e1 : (1021 * 4503599627370496 + M) / 9223372036854775808 % 2 = 0 := by omega
  have e2 : (1021 * 4503599627370496 + M) % 9223372036854775808 = 1021 * 4503599627370496 + M := by omega
  have e3 : (1021 * 4503599627370496 + M) / 4503599627370496 = 1022 := by omega
  have e4 : (1021 * 4503599627370496 + M) % 4503599627370496 = M - 4503599627370496 := by omega
  rw [e1, e2, e3, e4, if_neg (by omega), if_pos (by omega)]
  have e5 : 4503599627370496 + (M - 4503599627370496) = M := by omega
  rw [e5]
  rfl
theorem order_frw {V W : Nat} (hV : V ≠ 0) (h : V < 2 ^ 53) (hW : W ≠ 0) (g : W < 2 ^ 53) : double.order (frw V) (frw W) = some (compare (man V : Int) (man W : Int)) := by
  unfold Format.order
  rw [read_frw hV h, read_frw hW g]
  show some (compare (signed false (man V) ((-53 : Int) - min (-53) (-53)).toNat) (signed false (man W) ((-53 : Int) - min (-53) (-53)).toNat)) = _
  rw [show ((-53 : Int) - min (-53) (-53)).toNat = 0 from rfl]
  unfold signed
  simp
/-- Below the greatest. -/
theorem order_max {V : Nat} (h : V < 2 ^ 53) : double.order (fw false V) 9218868437227405311 = some .lt := by
  obtain ⟨k, hk⟩ := num_read false V h
  unfold Format.order
  rw [hk, show double.read 9218868437227405311 = .number false 9007199254740991 971 by decide +kernel]
  show some (compare (signed false (V * 2 ^ k) (-(k : Int) - min (-(k : Int)) 971).toNat) (signed false 9007199254740991 ((971 : Int) - min (-(k : Int)) 971).toNat)) = _
  have e1 : (-(k : Int) - min (-(k : Int)) 971).toNat = 0 := by omega
  have e2 : ((971 : Int) - min (-(k : Int)) 971).toNat = k + 971 := by omega
  rw [e1, e2]
  refine congrArg some (Int.compare_eq_lt.2 ?_)
  unfold signed
  simp only [Bool.false_eq_true, if_false, Nat.shiftLeft_zero, Nat.shiftLeft_eq]
  rw [Int.ofNat_lt, Nat.pow_add]
  have hp : 0 < 2 ^ k := Nat.two_pow_pos k
  have h1 : V * 2 ^ k ≤ 9007199254740991 * 2 ^ k := Nat.mul_le_mul_right _ (by rw [p53] at h; omega)
  have h2 : 9007199254740991 * 2 ^ k < 9007199254740991 * (2 ^ k * 2 ^ 971) := by
    apply Nat.mul_lt_mul_of_pos_left _ (by decide)
    calc 2 ^ k = 2 ^ k * 1 := by rw [Nat.mul_one]
      _ < 2 ^ k * 2 ^ 971 := Nat.mul_lt_mul_of_pos_left (Nat.one_lt_two_pow (by decide)) hp
  rw [Nat.pow_zero, Nat.mul_one]
  exact Nat.lt_of_le_of_lt h1 h2
/-- Above the least normal one. -/
theorem order_least {V : Nat} (hV : V ≠ 0) (h : V < 2 ^ 53) : double.order (fw false V) 4503599627370496 = some .gt := by
  obtain ⟨k, hk⟩ := num_read false V h
  unfold Format.order
  rw [hk, show double.read 4503599627370496 = .number false 4503599627370496 (-1074) by decide +kernel]
  show some (compare (signed false (V * 2 ^ k) (-(k : Int) - min (-(k : Int)) (-1074)).toNat) (signed false 4503599627370496 ((-1074 : Int) - min (-(k : Int)) (-1074)).toNat)) = _
  refine congrArg some (Int.compare_eq_gt.2 ?_)
  unfold signed
  simp only [Bool.false_eq_true, if_false, Nat.shiftLeft_eq]
  rw [Int.ofNat_lt]
  have hv : 1 ≤ V := Nat.pos_of_ne_zero hV
  by_cases hk2 : k ≤ 1074
  · have e1 : (-(k : Int) - min (-(k : Int)) (-1074)).toNat = 1074 - k := by omega
    have e2 : ((-1074 : Int) - min (-(k : Int)) (-1074)).toNat = 0 := by omega
    rw [e1, e2, Nat.mul_assoc, ← Nat.pow_add, Nat.pow_zero, Nat.mul_one, ← p52]
    calc 2 ^ 52 < 2 ^ (k + (1074 - k)) := Nat.pow_lt_pow_right (by decide) (by omega)
      _ = 1 * 2 ^ (k + (1074 - k)) := by rw [Nat.one_mul]
      _ ≤ V * 2 ^ (k + (1074 - k)) := Nat.mul_le_mul_right _ hv
  · have e1 : (-(k : Int) - min (-(k : Int)) (-1074)).toNat = 0 := by omega
    have e2 : ((-1074 : Int) - min (-(k : Int)) (-1074)).toNat = k - 1074 := by omega
    rw [e1, e2, Nat.pow_zero, Nat.mul_one, ← p52, ← Nat.pow_add]
    calc 2 ^ (52 + (k - 1074)) < 2 ^ k := Nat.pow_lt_pow_right (by decide) (by omega)
      _ = 1 * 2 ^ k := by rw [Nat.one_mul]
      _ ≤ V * 2 ^ k := Nat.mul_le_mul_right _ hv
/-- How far the divisor is shifted in a round. -/
def shf (r y : Nat) : Nat := if man r < man y then r.log2 - y.log2 - 1 else r.log2 - y.log2
theorem shf_ok {r y : Nat} (hy : y ≠ 0) (hle : y ≤ r) (h : r < 2 ^ 53) : y * 2 ^ shf r y ≤ r ∧ ((if man r < man y then (r.log2 : Int) + 1 - 1 else (r.log2 : Int) + 1) - ((y.log2 : Int) + 1) = (shf r y : Int)) := by
  have hr : r ≠ 0 := by omega
  have hyl : y < 2 ^ 53 := Nat.lt_of_le_of_lt hle h
  have m1 := man_mul hr h
  have m2 := man_mul hy hyl
  have l1 : y.log2 ≤ r.log2 := by
    rcases Nat.lt_or_ge r.log2 y.log2 with hx | hx
    · exfalso
      have a1 : r < 2 ^ (r.log2 + 1) := Nat.lt_log2_self
      have a2 : 2 ^ y.log2 ≤ y := Nat.log2_self_le hy
      have a3 : 2 ^ (r.log2 + 1) ≤ 2 ^ y.log2 := Nat.pow_le_pow_right (by decide) hx
      omega
    · exact hx
  unfold shf
  by_cases hm : man r < man y
  · rw [if_pos hm, if_pos hm]
    have l2 : y.log2 < r.log2 := by
      rcases Nat.lt_or_ge y.log2 r.log2 with hx | hx
      · exact hx
      · exfalso
        have he : r.log2 = y.log2 := by omega
        rw [he] at m1
        have a1 : man r * 2 ^ y.log2 < man y * 2 ^ y.log2 := Nat.mul_lt_mul_of_pos_right hm (Nat.two_pow_pos _)
        rw [m1, m2] at a1
        have := Nat.lt_of_mul_lt_mul_right a1
        omega
    refine ⟨?_, by omega⟩
    have a1 : y < 2 ^ (y.log2 + 1) := Nat.lt_log2_self
    have a2 : 2 ^ r.log2 ≤ r := Nat.log2_self_le hr
    calc y * 2 ^ (r.log2 - y.log2 - 1) ≤ 2 ^ (y.log2 + 1) * 2 ^ (r.log2 - y.log2 - 1) := Nat.mul_le_mul_right _ (Nat.le_of_lt a1)
      _ = 2 ^ r.log2 := by rw [← Nat.pow_add]; congr 1; omega
      _ ≤ r := a2
  · rw [if_neg hm, if_neg hm]
    refine ⟨?_, by omega⟩
    have a1 : y * 2 ^ (r.log2 - y.log2) * 2 ^ 52 ≤ r * 2 ^ 52 := by
      rw [← m1, Nat.mul_right_comm, ← m2, Nat.mul_assoc, ← Nat.pow_add, show y.log2 + (r.log2 - y.log2) = r.log2 by omega]
      exact Nat.mul_le_mul_right _ (by omega)
    exact Nat.le_of_mul_le_mul_right a1 (Nat.two_pow_pos 52)
end Go.Proofs.Yteigenmhfgldfaa
