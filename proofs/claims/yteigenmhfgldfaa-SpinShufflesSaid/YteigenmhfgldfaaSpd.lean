/-
  Spd: spin's part, whole, Right, Plus, Times at right numbers.
-/
import Derived.Test.YteigenmhfgldfaaSpc
import Derived.Test.YteigenmhfgldfaaFle
import Derived.Laws.Cover3
namespace Go.Proofs.Yteigenmhfgldfaa
open Go.RowKit Ieee

theorem lt53 {n : Nat} (h : n < 524287) : n < 2 ^ 53 := Nat.lt_trans h (by decide)
theorem fw00 : fw false 0 = 0 := by decide +kernel

theorem addc (s t : Bool) (V W : Nat) (hV : V < 2 ^ 53) (hW : W < 2 ^ 53) (z : Int) (hz : sg s V + sg t W = z) (r : Bool) (R : Nat) (hr : (if z = 0 then s && t else decide (z < 0)) = r) (hR : z.natAbs = R) (h : R < 2 ^ 53) :
    floatBits .add .f64 (fw s V) (fw t W) = some (fw r R) := by
  subst hz hr hR
  exact add_fw s t V W hV hW h
theorem subc (s t : Bool) (V W : Nat) (hV : V < 2 ^ 53) (hW : W < 2 ^ 53) (z : Int) (hz : sg s V + sg (!t) W = z) (r : Bool) (R : Nat) (hr : (if z = 0 then s && !t else decide (z < 0)) = r) (hR : z.natAbs = R) (h : R < 2 ^ 53) :
    floatBits .sub .f64 (fw s V) (fw t W) = some (fw r R) := by
  subst hz hr hR
  exact sub_fw s t V W hV hW h

set_option maxRecDepth 8000 in
theorem part_calls (s : Bool) (V : Nat) (w : World) (h : V < 2 ^ 53) :
    Calls Try.prog 27 #[.float .f64 (fw s V)] w fun e w' => e = .returned (.float .f64 (fw false (pm (sg s V)))) ∧ Fr NoB w w' := by
  have hm := fun W => mod_calls s V W h
  have hl : V % 524287 < 524287 := Nat.mod_lt _ (by decide)
  rw [pr_word] at hm
  by_cases hneg : s = true ∧ V % 524287 ≠ 0
  · obtain ⟨rfl, hne⟩ := hneg
    have ho : FloatKind.f64.format.order (fw true (V % 524287)) 0 = some .lt := by
      have := order_fw true false (V % 524287) 0 (lt53 hl) (by decide)
      rw [fw00] at this
      refine this.trans (congrArg some (Int.compare_eq_lt.2 ?_))
      unfold sg; simp; omega
    have ha := addc true false (V % 524287) 524287 (lt53 hl) (by decide) (524287 - (V % 524287 : Nat)) (by unfold sg; simp; omega) false (524287 - V % 524287) (by rw [if_neg (by omega)]; exact decide_eq_false (by omega)) (by omega) (by have : 524287 - V % 524287 < 2 ^ 53 := Nat.lt_of_le_of_lt (Nat.sub_le _ _) (by decide); exact this)
    have hb := addc false false (524287 - V % 524287) 0 (Nat.lt_of_le_of_lt (Nat.sub_le _ _) (by decide)) (by decide) (524287 - (V % 524287 : Nat)) (by unfold sg; simp; omega) false (524287 - V % 524287) (by rw [if_neg (by omega)]; exact decide_eq_false (by omega)) (by omega) (Nat.lt_of_le_of_lt (Nat.sub_le _ _) (by decide))
    have hp : pm (sg true V) = 524287 - V % 524287 := by unfold pm sg; simp only [if_true]; omega
    rw [hp]
    rw [pr_word] at ha
    rw [fw00] at hb
    have q1 := fun W => run_float_arith (P := Try.prog) W .add 29 .f64 _ _ _ ha
    have q2 := fun W => run_float_arith (P := Try.prog) W .add 29 .f64 _ _ _ hb
    generalize fw true (V % 524287) = X1 at *
    generalize hX2 : fw false (524287 - V % 524287) = X2 at *
    generalize fw true V = X0 at *
    clear ha hb
    go_enter Try.func27, Try.ntmps27
    go_wp2_with ((with_reducible refine (hm _).mono ?_); rintro e w' ⟨rfl, f⟩)
    go_ret
    exact ⟨rfl, f⟩
  · have hz : sg s (V % 524287) = (V % 524287 : Nat) := by
      cases s
      · rfl
      · have : V % 524287 = 0 := Decidable.byContradiction fun h => hneg ⟨rfl, h⟩
        rw [this]; rfl
    have ho : FloatKind.f64.format.order (fw s (V % 524287)) 0 = some .gt ∨ FloatKind.f64.format.order (fw s (V % 524287)) 0 = some .eq := by
      have := order_fw s false (V % 524287) 0 (lt53 hl) (by decide)
      rw [fw00] at this
      rcases Nat.eq_zero_or_pos (V % 524287) with h0 | h0
      · right
        refine this.trans (congrArg some (Int.compare_eq_eq.2 ?_))
        rw [hz, h0]; rfl
      · left
        refine this.trans (congrArg some (Int.compare_eq_gt.2 ?_))
        rw [hz]; unfold sg; simp only [Bool.false_eq_true, if_false]; omega
    have hb := addc s false (V % 524287) 0 (lt53 hl) (by decide) (V % 524287 : Nat) (by rw [hz]; unfold sg; simp) false (V % 524287) (by
      split
      · simp
      · exact decide_eq_false (by omega)) (by omega) (lt53 hl)
    have hp : pm (sg s V) = V % 524287 := by
      unfold pm
      cases s
      · unfold sg; simp only [Bool.false_eq_true, if_false]; omega
      · have : V % 524287 = 0 := Decidable.byContradiction fun h => hneg ⟨rfl, h⟩
        unfold sg; simp only [if_true]; omega
    rw [hp]
    rw [fw00] at hb
    have q2 := fun W => run_float_arith (P := Try.prog) W .add 29 .f64 _ _ _ hb
    generalize fw false (V % 524287) = X2 at *
    generalize fw s (V % 524287) = X1 at *
    generalize fw s V = X0 at *
    clear hb hneg hz hp hl
    rcases ho with ho | ho
    all_goals go_enter Try.func27, Try.ntmps27
    all_goals go_wp2_with ((with_reducible refine (hm _).mono ?_); rintro e w' ⟨rfl, f⟩)
    all_goals go_ret
    all_goals exact ⟨rfl, f⟩

theorem run_trunc (s : Bool) (V : Nat) (h : V < 2 ^ 53) (w : World) : (callFunc 61 #[.float .f64 (fw s V)]).run Try.prog w = .ok (.value (.float .f64 (fw s V))) w := by
  rw [run_callFunc_extern (e := Go.Extern.MathFloor.toIntegral "math.archTrunc" .zero) Try.func61 (by kernel_rfl) (by kernel_rfl) (by kernel_rfl) (by kernel_rfl) _ w]
  obtain ⟨k, hk⟩ := num_read s V h
  have ht := trunc_fw s V h .zero
  have : (Go.Extern.MathFloor.toIntegral "math.archTrunc" .zero #[.float .f64 (fw s V)]) = pure (.float .f64 (fw s V)) := by
    unfold Go.Extern.MathFloor.toIntegral
    show (match double.read (fw s V) with | .nan s t => _ | d => _) = _
    rw [hk] at ht ⊢
    show pure (Value.float .f64 (double.write (Datum.integral .zero (.number s (V * 2 ^ k) (-(k : Int)))))) = _
    rw [ht]
  rw [this]
  rfl
set_option maxRecDepth 8000 in
theorem whole_calls (n : Nat) (w : World) (h : n < 524287) :
    Calls Try.prog 28 #[.float .f64 (fw false n)] w fun e w' => e = .returned (.bool true) ∧ w' = w := by
  have hl := lt53 h
  have ht := fun W => run_trunc false n hl W
  have o1 : FloatKind.f64.format.order (fw false n) 0 = some .gt ∨ FloatKind.f64.format.order (fw false n) 0 = some .eq := by
    by_cases h0 : n = 0
    · subst h0; right; decide +kernel
    · exact .inl (ord_zero h0 hl)
  have o2 : FloatKind.f64.format.order (fw false n) 4692750794540187648 = some .lt := by
    have := order_fw false false n 524287 hl (by decide)
    rw [pr_word] at this
    refine this.trans (congrArg some (Int.compare_eq_lt.2 ?_))
    unfold sg; simp only [Bool.false_eq_true, if_false]; omega
  have o3 := ord_self hl false
  generalize fw false n = X at *
  rcases o1 with o1 | o1
  all_goals go_enter Try.func28, Try.ntmps28
  all_goals go_wp2
  all_goals go_ret
  all_goals exact ⟨rfl, rfl⟩

/-- A right number. -/
def cx (a b : Nat) : Value := .complex .f64 (fw false a) (fw false b)
theorem right_calls (a b : Nat) (w : World) (ha : a < 524287) (hb : b < 524287) :
    Calls Try.prog 12 #[.complex .f64 (fw false a) (fw false b)] w fun e w' => e = .returned (.bool true) ∧ w' = w := by
  have c1 := fun W => whole_calls a W ha
  have c2 := fun W => whole_calls b W hb
  generalize fw false a = A at *
  generalize fw false b = B at *
  go_enter Try.func12, Try.ntmps12
  go_wp2_with (first | ((with_reducible refine (c1 _).mono ?_); rintro e w' ⟨rfl, rfl⟩) | ((with_reducible refine (c2 _).mono ?_); rintro e w' ⟨rfl, rfl⟩))
  all_goals go_ret
  all_goals exact ⟨rfl, rfl⟩
theorem sg_pos (n : Nat) : sg false n = n := rfl
theorem sg_neg (n : Nat) : sg (!false) n = -(n : Int) := rfl
theorem addn (a c : Nat) (h : a + c < 2 ^ 53) : floatBits .add .f64 (fw false a) (fw false c) = some (fw false (a + c)) := by
  refine addc false false a c (Nat.lt_of_le_of_lt (Nat.le_add_right _ _) h) (Nat.lt_of_le_of_lt (Nat.le_add_left _ _) h) ((a + c : Nat) : Int) (by rw [sg_pos, sg_pos]; omega) false (a + c) ?_ (by omega) h
  split
  · rfl
  · exact decide_eq_false (by omega)
theorem subn (a c : Nat) (ha : a < 2 ^ 53) (hc : c < 2 ^ 53) : floatBits .sub .f64 (fw false a) (fw false c) = some (fw (decide ((a : Int) - c < 0)) ((a : Int) - c).natAbs) := by
  refine subc false false a c ha hc ((a : Int) - c) (by rw [sg_pos, sg_neg]; omega) _ _ ?_ rfl (by
    have : ((a : Int) - c).natAbs ≤ max a c := by omega
    exact Nat.lt_of_le_of_lt this (Nat.max_lt.2 ⟨ha, hc⟩))
  split
  · rename_i h; rw [h]; rfl
  · rfl
theorem sg_int (z : Int) : sg (decide (z < 0)) z.natAbs = z := by
  unfold sg
  by_cases h : z < 0
  · rw [decide_eq_true h, if_pos rfl]; omega
  · rw [decide_eq_false h, if_neg (by decide)]; omega
theorem plus_calls (a b c d : Nat) (w : World) (ha : a < 524287) (hb : b < 524287) (hc : c < 524287) (hd : d < 524287) :
    Calls Try.prog 11 #[.complex .f64 (fw false a) (fw false b), .complex .f64 (fw false c) (fw false d)] w fun e w' => e = .returned (.tuple #[.complex .f64 (fw false (pm (a + c))) (fw false (pm (b + d))), .bool true]) ∧ Fr NoB w w' := by
  have hf : Fr NoB w w := Fr.refl _ _
  have r1 := fun W => right_calls a b W ha hb
  have r2 := fun W => right_calls c d W hc hd
  have s1 := addn a c (Nat.lt_trans (show a + c < 1048576 by omega) (by decide))
  have s2 := addn b d (Nat.lt_trans (show b + d < 1048576 by omega) (by decide))
  have p1 := fun W => part_calls false (a + c) W (Nat.lt_trans (show a + c < 1048576 by omega) (by decide))
  have p2 := fun W => part_calls false (b + d) W (Nat.lt_trans (show b + d < 1048576 by omega) (by decide))
  rw [sg_pos, show ((a + c : Nat) : Int) = (a : Int) + c by omega] at p1
  rw [sg_pos, show ((b + d : Nat) : Int) = (b : Int) + d by omega] at p2
  have q1 := fun W => run_float_arith (P := Try.prog) W .add 29 .f64 _ _ _ s1
  have q2 := fun W => run_float_arith (P := Try.prog) W .add 29 .f64 _ _ _ s2
  clear s1 s2 ha hb hc hd
  generalize fw false (pm ((a : Int) + c)) = R1 at *
  generalize fw false (pm ((b : Int) + d)) = R2 at *
  generalize fw false (a + c) = S1 at *
  generalize fw false (b + d) = S2 at *
  generalize fw false a = A at *
  generalize fw false b = B at *
  generalize fw false c = C at *
  generalize fw false d = D at *
  go_enter Try.func11, Try.ntmps11
  go_wp2_with (first | ((with_reducible refine (r1 _).mono ?_); rintro e w1 ⟨rfl, rfl⟩) | ((with_reducible refine (r2 _).mono ?_); rintro e w1 ⟨rfl, rfl⟩) | ((with_reducible refine (p1 _).mono ?_); rintro e w1 ⟨rfl, f⟩; replace hf := hf.then f; clear f) | ((with_reducible refine (p2 _).mono ?_); rintro e w1 ⟨rfl, f⟩; replace hf := hf.then f; clear f))
  all_goals go_ret2
  all_goals exact ⟨rfl, hf⟩

set_option maxRecDepth 8000 in
theorem times_calls (a b c d : Nat) (w : World) (ha : a < 524287) (hb : b < 524287) (hc : c < 524287) (hd : d < 524287) :
    Calls Try.prog 10 #[.complex .f64 (fw false a) (fw false b), .complex .f64 (fw false c) (fw false d)] w fun e w' => e = .returned (.tuple #[.complex .f64 (fw false (pm ((a * c : Nat) - (b * d : Nat)))) (fw false (pm ((a * d : Nat) + (b * c : Nat)))), .bool true]) ∧ Fr NoB w w' := by
  have hf : Fr NoB w w := Fr.refl _ _
  have r1 := fun W => right_calls a b W ha hb
  have r2 := fun W => right_calls c d W hc hd
  have hm : ∀ x y : Nat, x < 524287 → y < 524287 → x * y < 274876858368 := fun x y hx hy => by
    have h1 : x * y ≤ 524286 * 524286 := Nat.mul_le_mul (by omega) (by omega)
    omega
  have m1 := mul_fw false false a c (lt53 ha) (lt53 hc) (Nat.lt_trans (hm a c ha hc) (by decide))
  have m2 := mul_fw false false b d (lt53 hb) (lt53 hd) (Nat.lt_trans (hm b d hb hd) (by decide))
  have m3 := mul_fw false false a d (lt53 ha) (lt53 hd) (Nat.lt_trans (hm a d ha hd) (by decide))
  have m4 := mul_fw false false b c (lt53 hb) (lt53 hc) (Nat.lt_trans (hm b c hb hc) (by decide))
  rw [show (false ^^ false) = false from rfl] at m1 m2 m3 m4
  have h1 := hm a c ha hc
  have h2 := hm b d hb hd
  have h3 := hm a d ha hd
  have h4 := hm b c hb hc
  generalize a * c = ac at *
  generalize b * d = bd at *
  generalize a * d = ad at *
  generalize b * c = bc at *
  have s1 := subn ac bd (Nat.lt_trans h1 (by decide)) (Nat.lt_trans h2 (by decide))
  have s2 := addn ad bc (Nat.lt_trans (show ad + bc < 549753716736 by omega) (by decide))
  have p1 := fun W => part_calls (decide ((ac : Int) - bd < 0)) ((ac : Int) - bd).natAbs W (Nat.lt_trans (show ((ac : Int) - bd).natAbs < 549753716736 by omega) (by decide))
  have p2 := fun W => part_calls false (ad + bc) W (Nat.lt_trans (show ad + bc < 549753716736 by omega) (by decide))
  rw [sg_int] at p1
  rw [sg_pos, show ((ad + bc : Nat) : Int) = (ad : Int) + bc by omega] at p2
  have q1 := fun W => run_float_arith (P := Try.prog) W .mul 29 .f64 _ _ _ m1
  have q2 := fun W => run_float_arith (P := Try.prog) W .mul 29 .f64 _ _ _ m2
  have q3 := fun W => run_float_arith (P := Try.prog) W .mul 29 .f64 _ _ _ m3
  have q4 := fun W => run_float_arith (P := Try.prog) W .mul 29 .f64 _ _ _ m4
  have q5 := fun W => run_float_arith (P := Try.prog) W .sub 29 .f64 _ _ _ s1
  have q6 := fun W => run_float_arith (P := Try.prog) W .add 29 .f64 _ _ _ s2
  have q7 : ∀ (W : World) (x : Nat), (convert 29 29 (.float .f64 x)).run Try.prog W = .ok (.float .f64 x) W := fun W x =>
    run_convert_float_float W _ _ .f64 .f64 x x (by kernel_rfl) (by kernel_rfl) (by unfold floatToFloatBits; rw [if_pos rfl])
  clear s1 s2 m1 m2 m3 m4 ha hb hc hd hm h1 h2 h3 h4
  generalize fw false (pm ((ac : Int) - bd)) = R1 at *
  generalize fw false (pm ((ad : Int) + bc)) = R2 at *
  generalize fw (decide ((ac : Int) - bd < 0)) ((ac : Int) - bd).natAbs = S1 at *
  generalize fw false (ad + bc) = S2 at *
  generalize fw false ac = AC at *
  generalize fw false bd = BD at *
  generalize fw false ad = AD at *
  generalize fw false bc = BC at *
  generalize fw false a = A at *
  generalize fw false b = B at *
  generalize fw false c = C at *
  generalize fw false d = D at *
  go_enter Try.func10, Try.ntmps10
  go_wp2_with (first | ((with_reducible refine (r1 _).mono ?_); rintro e w1 ⟨rfl, rfl⟩) | ((with_reducible refine (r2 _).mono ?_); rintro e w1 ⟨rfl, rfl⟩) | ((with_reducible refine (p1 _).mono ?_); rintro e w1 ⟨rfl, f⟩; replace hf := hf.then f; clear f) | ((with_reducible refine (p2 _).mono ?_); rintro e w1 ⟨rfl, f⟩; replace hf := hf.then f; clear f))
  all_goals go_ret2
  all_goals exact ⟨rfl, hf⟩
end Go.Proofs.Yteigenmhfgldfaa
