/-
  Spc: math.Mod of whole numbers.
-/
import Derived.Test.YteigenmhfgldfaaSpb
namespace Go.Proofs.Yteigenmhfgldfaa
open Go.RowKit Ieee

/-- The prime, and its word. -/
theorem pr_word : fw false 524287 = 4692750794540187648 := by decide +kernel

/-- A float's whole part, as a number. -/
def fval : Value → Nat
  | .float .f64 x => match double.read x with | .number _ m e => m / 2 ^ (-e).toNat | _ => 0
  | _ => 0
theorem fval_fw {R : Nat} (h : R < 2 ^ 53) (s : Bool) : fval (.float .f64 (fw s R)) = R := by
  obtain ⟨k, hk⟩ := num_read s R h
  unfold fval
  simp only [hk]
  rw [show (- -(k : Int)).toNat = k by omega]
  exact Nat.mul_div_cancel _ (Nat.two_pow_pos k)

@[go_sem] theorem unary_neg_float (k : FloatKind) (b : Nat) : Op.unary .neg (.float k b) = pure (.float k (Op.negFloat k b)) := rfl
theorem xor_sign (x : Nat) (h : x < 9223372036854775808) : x ^^^ 9223372036854775808 = 9223372036854775808 + x ∧ (9223372036854775808 + x) ^^^ 9223372036854775808 = x := by
  have e : (9223372036854775808 : Nat) = 2 ^ 63 := by decide
  have h63 : x < 2 ^ 63 := by rw [← e]; exact h
  have h1 : x ^^^ 9223372036854775808 = 9223372036854775808 + x := by
    rw [e]
    have := Nat.two_pow_add_eq_or_of_lt h63 1
    rw [Nat.mul_one] at this
    rw [this]
    apply Nat.eq_of_testBit_eq
    intro i
    rw [Nat.testBit_xor, Nat.testBit_or, Nat.testBit_two_pow]
    by_cases hi : 63 = i
    · subst hi
      rw [Nat.testBit_lt_two_pow h63]; simp
    · simp [hi]
  refine ⟨h1, ?_⟩
  rw [← h1, Nat.xor_assoc, Nat.xor_self, Nat.xor_zero]
theorem neg_fw {V : Nat} (h : V < 2 ^ 53) (s : Bool) : Op.negFloat .f64 (fw s V) = fw (!s) V := by
  have hs := fw_small h
  have ht := fw_true h
  have hx := xor_sign (fw false V) (by omega)
  have e : (2 : Nat) ^ (FloatKind.f64.format.exponentBits + FloatKind.f64.format.fractionBits) = 9223372036854775808 := by decide +kernel
  unfold Op.negFloat
  rw [e]
  cases s
  · rw [hx.1]; exact ht.symm
  · rw [ht, hx.2]; rfl

set_option maxRecDepth 8000 in
set_option maxHeartbeats 1600000 in
theorem mod_pos (V : Nat) (w : World) (h : V < 2 ^ 53) :
    Calls Try.prog 60 #[.float .f64 (fw false V), .float .f64 (fw false 524287)] w fun e w' => e = .returned (.float .f64 (fw false (V % 524287))) ∧ Fr NoB w w' := by
  have hs := fw_small h
  have hp0 : FloatKind.f64.format.order (fw false 524287) 0 = some .gt := ord_zero (by decide) (by decide)
  have k2 : FloatKind.f64.format.order (fw false V % 9223372036854775808) 9218868437227405311 = some .lt := by
    rw [Nat.mod_eq_of_lt (by omega)]; exact order_max h
  have c1 := fun W => isinf_calls (fw false V) W (by omega) k2
  have c2 := fun W => isnan_calls (fw false V) W (ord_self h false)
  have c3 := fun W => isnan_calls (fw false 524287) W (ord_self (by decide) false)
  have c4 := fun W => abs_calls (fw false 524287) W (by rw [pr_word]; decide)
  rw [show fw false 524287 % 9223372036854775808 = fw false 524287 by rw [pr_word]] at c4
  have c5 := fun W => Frexp_calls 524287 W (by decide) (by decide)
  rw [show (Nat.log2 524287 : Int) + 1 = 19 by decide +kernel] at c5
  have hx0 : FloatKind.f64.format.order (fw false V) 0 = some .gt ∨ FloatKind.f64.format.order (fw false V) 0 = some .eq := by
    by_cases hV : V = 0
    · subst hV; right; decide +kernel
    · exact .inl (ord_zero hV h)
  have hx1 : (FloatKind.f64.format.order (fw false V) 0 == some .lt) = false := by
    rcases hx0 with h | h <;> rw [h] <;> rfl
  go_enter Try.func60, Try.ntmps60
  go_wp2_with (first | ((with_reducible refine (c1 _).mono ?_); rintro e w' ⟨rfl, rfl⟩) | ((with_reducible refine (c2 _).mono ?_); rintro e w' ⟨rfl, rfl⟩) | ((with_reducible refine (c3 _).mono ?_); rintro e w' ⟨rfl, rfl⟩) | ((with_reducible refine (c4 _).mono ?_); rintro e w' ⟨rfl, rfl⟩) | ((with_reducible refine (c5 _).mono ?_); rintro e w' ⟨rfl, rfl⟩))
  go_loopw [7] (fun r W => ∃ R : Nat, r = .float .f64 (fw false R) ∧ R ≤ V ∧ R % 524287 = V % 524287 ∧ Fr NoB w' W) (fun r _ => fval r)
  case atStart => exact ⟨V, rfl, Nat.le_refl _, rfl, Fr.refl _ _⟩
  case round =>
    obtain ⟨R, rfl, hRV, hRm, hf⟩ := hrel
    have hR53 : R < 2 ^ 53 := Nat.lt_of_le_of_lt hRV h
    have hge : FloatKind.f64.format.order (fw false R) (fw false 524287) = some (compare (R : Int) 524287) := by
      refine (order_fw false false R 524287 hR53 (by decide)).trans ?_
      unfold sg; rfl
    by_cases hle : 524287 ≤ R
    · have hne : R ≠ 0 := by omega
      have hgg : FloatKind.f64.format.order (fw false R) (fw false 524287) = some .gt ∨ FloatKind.f64.format.order (fw false R) (fw false 524287) = some .eq := by
        rw [hge]
        rcases Nat.lt_or_ge 524287 R with hx | hx
        · left; rw [Int.compare_eq_gt.2 (show (524287 : Int) < R by omega)]
        · right; rw [Int.compare_eq_eq.2 (show (R : Int) = 524287 by omega)]
      obtain ⟨s1, s2⟩ := shf_ok (y := 524287) (by decide) hle hR53
      have d1 := fun W => Frexp_calls R W hne hR53
      have d2 := fun W => Ldexp_calls 524287 (shf R 524287) W (by decide) (Nat.lt_of_le_of_lt s1 hR53)
      have d3 := sub_fw false false R (524287 * 2 ^ shf R 524287) hR53 (Nat.lt_of_le_of_lt s1 hR53)
      have hz : sg false R + sg (!false) (524287 * 2 ^ shf R 524287) = ((R - 524287 * 2 ^ shf R 524287 : Nat) : Int) := by
        unfold sg; simp only [Bool.not_false, if_true, Bool.false_eq_true, if_false]; omega
      rw [hz, Int.natAbs_natCast] at d3
      replace d3 := d3 (Nat.lt_of_le_of_lt (Nat.sub_le _ _) hR53)
      rw [show (if ((R - 524287 * 2 ^ shf R 524287 : Nat) : Int) = 0 then (false && !false) else decide (((R - 524287 * 2 ^ shf R 524287 : Nat) : Int) < 0)) = false by
        split
        · rfl
        · exact decide_eq_false (by omega)] at d3
      have hrun := fun W => run_float_arith (P := Try.prog) W .sub 29 .f64 _ _ _ d3
      have hord := order_frw (V := R) (W := 524287) hne hR53 (by decide) (by decide)
      have hlt : R - 524287 * 2 ^ shf R 524287 < R := Nat.sub_lt (by omega) (Nat.mul_pos (by decide) (Nat.two_pow_pos _))
      have hmod : (R - 524287 * 2 ^ shf R 524287) % 524287 = V % 524287 := by
        rw [← hRm, Nat.sub_mul_mod s1]
      have hfin : (∃ R' : Nat, Value.float .f64 (fw false (R - 524287 * 2 ^ shf R 524287)) = .float .f64 (fw false R') ∧ R' ≤ V ∧ R' % 524287 = V % 524287) ∧ fval (.float .f64 (fw false (R - 524287 * 2 ^ shf R 524287))) < fval (.float .f64 (fw false R)) := by
        refine ⟨⟨_, rfl, by omega, hmod⟩, ?_⟩
        rw [fval_fw hR53 false, fval_fw (Nat.lt_trans hlt hR53) false]
        exact hlt
      rw [show (Nat.log2 524287 : Int) = 18 by decide +kernel] at s2
      have hks : (shf R 524287 : Int) ≤ 53 := by
        have := log2_lt hR53 hne
        unfold shf; split <;> omega
      have hcase : (FloatKind.f64.format.order (frw R) (frw 524287) = some .lt ∧ (R.log2 : Int) + 1 = (shf R 524287 : Int) + 19 + 1) ∨ ((FloatKind.f64.format.order (frw R) (frw 524287) = some .gt ∨ FloatKind.f64.format.order (frw R) (frw 524287) = some .eq) ∧ (R.log2 : Int) + 1 = (shf R 524287 : Int) + 19) := by
        by_cases hm : man R < man 524287
        · rw [if_pos hm] at s2
          refine .inl ⟨hord.trans ?_, by omega⟩
          rw [Int.compare_eq_lt.2 (by omega)]
        · rw [if_neg hm] at s2
          refine .inr ⟨?_, by omega⟩
          rcases Nat.lt_or_ge (man 524287) (man R) with hx | hx
          · exact .inl (hord.trans (congrArg some (Int.compare_eq_gt.2 (by omega))))
          · exact .inr (hord.trans (congrArg some (Int.compare_eq_eq.2 (by omega))))
      clear s1 s2 d3 hord hlt hmod hz hge hle hne hp0 hx0 hx1 hs k2 c1 c2 c3 c4 c5
      generalize fw false (R - 524287 * 2 ^ shf R 524287) = XD at *
      generalize fw false (524287 * 2 ^ shf R 524287) = XS at *
      generalize fw false R = XR at *
      generalize fw false 524287 = XP at *
      generalize frw R = FR at *
      generalize frw 524287 = FP at *
      generalize shf R 524287 = k at *
      rcases hcase with ⟨hc, he⟩ | ⟨hc | hc, he⟩ <;> rw [he] at d1 <;> rcases hgg with hgg | hgg
      all_goals go_wp2_with (first | ((with_reducible refine (d1 _).mono ?_); rintro e w1 ⟨rfl, rfl⟩) | ((with_reducible refine (d2 _).mono ?_); rintro e w1 ⟨rfl, rfl⟩))
      all_goals (obtain ⟨⟨R', e1, e2, e3⟩, e4⟩ := hfin; exact ⟨⟨R', e1, e2, e3, hf⟩, e4⟩)
    · have hlt : R < 524287 := by omega
      have ho : FloatKind.f64.format.order (fw false R) (fw false 524287) = some .lt := by
        rw [hge, Int.compare_eq_lt.2 (by omega)]
      have hRR : R = V % 524287 := by rw [← hRm, Nat.mod_eq_of_lt hlt]
      subst hRR
      clear hge hp0 hs k2 c1 c2 c3 c4 c5 hx1
      generalize hxr : fw false (V % 524287) = XR at *
      generalize fw false V = XV at *
      generalize fw false 524287 = XP at *
      rcases hx0 with hx0 | hx0
      all_goals go_wp2
      all_goals go_ret
      all_goals exact ⟨by rw [hxr]; rfl, hf⟩

set_option maxRecDepth 8000 in
set_option maxHeartbeats 1600000 in
theorem mod_neg (V : Nat) (w : World) (h : V < 2 ^ 53) (hV : V ≠ 0) :
    Calls Try.prog 60 #[.float .f64 (fw true V), .float .f64 (fw false 524287)] w fun e w' => e = .returned (.float .f64 (fw true (V % 524287))) ∧ Fr NoB w w' := by
  have hs := fw_small h
  have hp0 : FloatKind.f64.format.order (fw false 524287) 0 = some .gt := ord_zero (by decide) (by decide)
  have ht := fw_true h
  have k2 : FloatKind.f64.format.order (fw true V % 9223372036854775808) 9218868437227405311 = some .lt := by
    rw [ht, Nat.add_mod_left, Nat.mod_eq_of_lt (by omega)]; exact order_max h
  have c1 := fun W => isinf_calls (fw true V) W (by omega) k2
  have c2 := fun W => isnan_calls (fw true V) W (ord_self h true)
  have n1 : Op.negFloat .f64 (fw true V) = fw false V := neg_fw h true
  have n2 : Op.negFloat .f64 (fw false (V % 524287)) = fw true (V % 524287) := neg_fw (Nat.lt_of_le_of_lt (Nat.mod_le _ _) h) false
  have c3 := fun W => isnan_calls (fw false 524287) W (ord_self (by decide) false)
  have c4 := fun W => abs_calls (fw false 524287) W (by rw [pr_word]; decide)
  rw [show fw false 524287 % 9223372036854775808 = fw false 524287 by rw [pr_word]] at c4
  have c5 := fun W => Frexp_calls 524287 W (by decide) (by decide)
  rw [show (Nat.log2 524287 : Int) + 1 = 19 by decide +kernel] at c5
  have hx0 : FloatKind.f64.format.order (fw true V) 0 = some .lt := by
    have := order_fw true false V 0 h (by decide)
    rw [show fw false 0 = 0 by decide +kernel] at this
    refine this.trans (congrArg some (Int.compare_eq_lt.2 ?_))
    unfold sg; simp; omega
  clear ht
  go_enter Try.func60, Try.ntmps60
  go_wp2_with (first | ((with_reducible refine (c1 _).mono ?_); rintro e w' ⟨rfl, rfl⟩) | ((with_reducible refine (c2 _).mono ?_); rintro e w' ⟨rfl, rfl⟩) | ((with_reducible refine (c3 _).mono ?_); rintro e w' ⟨rfl, rfl⟩) | ((with_reducible refine (c4 _).mono ?_); rintro e w' ⟨rfl, rfl⟩) | ((with_reducible refine (c5 _).mono ?_); rintro e w' ⟨rfl, rfl⟩))
  go_loopw [7] (fun r W => ∃ R : Nat, r = .float .f64 (fw false R) ∧ R ≤ V ∧ R % 524287 = V % 524287 ∧ Fr NoB w' W) (fun r _ => fval r)
  case atStart => exact ⟨V, rfl, Nat.le_refl _, rfl, Fr.refl _ _⟩
  case round =>
    obtain ⟨R, rfl, hRV, hRm, hf⟩ := hrel
    have hR53 : R < 2 ^ 53 := Nat.lt_of_le_of_lt hRV h
    have hge : FloatKind.f64.format.order (fw false R) (fw false 524287) = some (compare (R : Int) 524287) := by
      refine (order_fw false false R 524287 hR53 (by decide)).trans ?_
      unfold sg; rfl
    by_cases hle : 524287 ≤ R
    · have hne : R ≠ 0 := by omega
      have hgg : FloatKind.f64.format.order (fw false R) (fw false 524287) = some .gt ∨ FloatKind.f64.format.order (fw false R) (fw false 524287) = some .eq := by
        rw [hge]
        rcases Nat.lt_or_ge 524287 R with hx | hx
        · left; rw [Int.compare_eq_gt.2 (show (524287 : Int) < R by omega)]
        · right; rw [Int.compare_eq_eq.2 (show (R : Int) = 524287 by omega)]
      obtain ⟨s1, s2⟩ := shf_ok (y := 524287) (by decide) hle hR53
      have d1 := fun W => Frexp_calls R W hne hR53
      have d2 := fun W => Ldexp_calls 524287 (shf R 524287) W (by decide) (Nat.lt_of_le_of_lt s1 hR53)
      have d3 := sub_fw false false R (524287 * 2 ^ shf R 524287) hR53 (Nat.lt_of_le_of_lt s1 hR53)
      have hz : sg false R + sg (!false) (524287 * 2 ^ shf R 524287) = ((R - 524287 * 2 ^ shf R 524287 : Nat) : Int) := by
        unfold sg; simp only [Bool.not_false, if_true, Bool.false_eq_true, if_false]; omega
      rw [hz, Int.natAbs_natCast] at d3
      replace d3 := d3 (Nat.lt_of_le_of_lt (Nat.sub_le _ _) hR53)
      rw [show (if ((R - 524287 * 2 ^ shf R 524287 : Nat) : Int) = 0 then (false && !false) else decide (((R - 524287 * 2 ^ shf R 524287 : Nat) : Int) < 0)) = false by
        split
        · rfl
        · exact decide_eq_false (by omega)] at d3
      have hrun := fun W => run_float_arith (P := Try.prog) W .sub 29 .f64 _ _ _ d3
      have hord := order_frw (V := R) (W := 524287) hne hR53 (by decide) (by decide)
      have hlt : R - 524287 * 2 ^ shf R 524287 < R := Nat.sub_lt (by omega) (Nat.mul_pos (by decide) (Nat.two_pow_pos _))
      have hmod : (R - 524287 * 2 ^ shf R 524287) % 524287 = V % 524287 := by
        rw [← hRm, Nat.sub_mul_mod s1]
      have hfin : (∃ R' : Nat, Value.float .f64 (fw false (R - 524287 * 2 ^ shf R 524287)) = .float .f64 (fw false R') ∧ R' ≤ V ∧ R' % 524287 = V % 524287) ∧ fval (.float .f64 (fw false (R - 524287 * 2 ^ shf R 524287))) < fval (.float .f64 (fw false R)) := by
        refine ⟨⟨_, rfl, by omega, hmod⟩, ?_⟩
        rw [fval_fw hR53 false, fval_fw (Nat.lt_trans hlt hR53) false]
        exact hlt
      rw [show (Nat.log2 524287 : Int) = 18 by decide +kernel] at s2
      have hks : (shf R 524287 : Int) ≤ 53 := by
        have := log2_lt hR53 hne
        unfold shf; split <;> omega
      have hcase : (FloatKind.f64.format.order (frw R) (frw 524287) = some .lt ∧ (R.log2 : Int) + 1 = (shf R 524287 : Int) + 19 + 1) ∨ ((FloatKind.f64.format.order (frw R) (frw 524287) = some .gt ∨ FloatKind.f64.format.order (frw R) (frw 524287) = some .eq) ∧ (R.log2 : Int) + 1 = (shf R 524287 : Int) + 19) := by
        by_cases hm : man R < man 524287
        · rw [if_pos hm] at s2
          refine .inl ⟨hord.trans ?_, by omega⟩
          rw [Int.compare_eq_lt.2 (by omega)]
        · rw [if_neg hm] at s2
          refine .inr ⟨?_, by omega⟩
          rcases Nat.lt_or_ge (man 524287) (man R) with hx | hx
          · exact .inl (hord.trans (congrArg some (Int.compare_eq_gt.2 (by omega))))
          · exact .inr (hord.trans (congrArg some (Int.compare_eq_eq.2 (by omega))))
      clear s1 s2 d3 hord hlt hmod hz hge hle hne hp0 hx0 n1 n2 hs k2 c1 c2 c3 c4 c5
      generalize fw false (R - 524287 * 2 ^ shf R 524287) = XD at *
      generalize fw false (524287 * 2 ^ shf R 524287) = XS at *
      generalize fw false R = XR at *
      generalize fw false 524287 = XP at *
      generalize frw R = FR at *
      generalize frw 524287 = FP at *
      generalize shf R 524287 = k at *
      rcases hcase with ⟨hc, he⟩ | ⟨hc | hc, he⟩ <;> rw [he] at d1 <;> rcases hgg with hgg | hgg
      all_goals go_wp2_with (first | ((with_reducible refine (d1 _).mono ?_); rintro e w1 ⟨rfl, rfl⟩) | ((with_reducible refine (d2 _).mono ?_); rintro e w1 ⟨rfl, rfl⟩))
      all_goals (obtain ⟨⟨R', e1, e2, e3⟩, e4⟩ := hfin; exact ⟨⟨R', e1, e2, e3, hf⟩, e4⟩)
    · have hlt : R < 524287 := by omega
      have ho : FloatKind.f64.format.order (fw false R) (fw false 524287) = some .lt := by
        rw [hge, Int.compare_eq_lt.2 (by omega)]
      have hRR : R = V % 524287 := by rw [← hRm, Nat.mod_eq_of_lt hlt]
      subst hRR
      clear hge hp0 hs k2 c1 c2 c3 c4 c5 n1
      generalize hxr : fw true (V % 524287) = XT at *
      generalize fw false (V % 524287) = XR at *
      generalize fw true V = XV at *
      generalize fw false 524287 = XP at *
      all_goals go_wp2
      all_goals go_ret
      all_goals exact ⟨by rw [hxr]; rfl, hf⟩

theorem mod_zero (w : World) :
    Calls Try.prog 60 #[.float .f64 (fw true 0), .float .f64 (fw false 524287)] w fun e w' => e = .returned (.float .f64 (fw true 0)) ∧ Fr NoB w w' := by
  have c1 := fun W => isinf_calls (fw true 0) W (by decide +kernel) (by decide +kernel)
  have c2 := fun W => isnan_calls (fw true 0) W (by decide +kernel)
  have c3 := fun W => isnan_calls (fw false 524287) W (ord_self (by decide) false)
  have c4 := fun W => abs_calls (fw false 524287) W (by rw [pr_word]; decide)
  rw [show fw false 524287 % 9223372036854775808 = fw false 524287 by rw [pr_word]] at c4
  have c5 := fun W => Frexp_calls 524287 W (by decide) (by decide)
  have o1 : FloatKind.f64.format.order (fw true 0) 0 = some .eq := by decide +kernel
  have o2 : FloatKind.f64.format.order (fw true 0) (fw false 524287) = some .lt := by decide +kernel
  have o3 : FloatKind.f64.format.order (fw false 524287) 0 = some .gt := by decide +kernel
  generalize fw true 0 = Z at *
  generalize fw false 524287 = XP at *
  go_enter Try.func60, Try.ntmps60
  go_wp2_with (first | ((with_reducible refine (c1 _).mono ?_); rintro e w' ⟨rfl, rfl⟩) | ((with_reducible refine (c2 _).mono ?_); rintro e w' ⟨rfl, rfl⟩) | ((with_reducible refine (c3 _).mono ?_); rintro e w' ⟨rfl, rfl⟩) | ((with_reducible refine (c4 _).mono ?_); rintro e w' ⟨rfl, rfl⟩) | ((with_reducible refine (c5 _).mono ?_); rintro e w' ⟨rfl, rfl⟩))
  go_loopw [7] (fun r W => r = .float .f64 Z ∧ Fr NoB w' W) (fun _ _ => 0)
  case atStart => exact ⟨rfl, Fr.refl _ _⟩
  case round =>
    obtain ⟨rfl, hf⟩ := hrel
    go_wp2
    go_ret
    exact ⟨rfl, hf⟩

/-- math.Mod of a whole number by the prime. -/
theorem mod_calls (s : Bool) (V : Nat) (w : World) (h : V < 2 ^ 53) :
    Calls Try.prog 36 #[.float .f64 (fw s V), .float .f64 (fw false 524287)] w fun e w' => e = .returned (.float .f64 (fw s (V % 524287))) ∧ Fr NoB w w' := by
  have hm : ∀ W, Calls Try.prog 60 #[.float .f64 (fw s V), .float .f64 (fw false 524287)] W fun e w' => e = .returned (.float .f64 (fw s (V % 524287))) ∧ Fr NoB W w' := by
    intro W
    cases s
    · exact mod_pos V W h
    · by_cases hV : V = 0
      · subst hV; exact mod_zero W
      · exact mod_neg V W h hV
  generalize fw s (V % 524287) = R at *
  generalize fw s V = X at *
  generalize fw false 524287 = XP at *
  go_enter Try.func36, Try.ntmps36
  go_wp2_with ((with_reducible refine (hm _).mono ?_); rintro e w' ⟨rfl, f⟩)
  go_ret
  exact ⟨rfl, f⟩
end Go.Proofs.Yteigenmhfgldfaa
