/-
  Flb: operations on whole numbers as floats, word by word.
-/
import Derived.Test.YteigenmhfgldfaaFla
namespace Go.Proofs.Yteigenmhfgldfaa
open Ieee

/-- A magnitude with its sign. -/
def sg (s : Bool) (V : Nat) : Int := if s then -(V : Int) else (V : Int)
theorem sg_abs (s : Bool) (V : Nat) : (sg s V).natAbs = V := by unfold sg; cases s <;> simp
/-- A datum is a whole number, with this sign and magnitude. -/
def Num (d : Datum) (s : Bool) (V : Nat) : Prop := ∃ k : Nat, d = .number s (V * 2 ^ k) (-(k : Int))
theorem num_read (s : Bool) (V : Nat) (h : V < 2 ^ 53) : Num (double.read (fw s V)) s V := read_fw s V h
theorem Num.write {d : Datum} {s : Bool} {V : Nat} (h : Num d s V) (hV : V < 2 ^ 53) : double.write d = fw s V := by
  obtain ⟨k, rfl⟩ := h
  exact write_number s V k hV
theorem Num.opposite {d : Datum} {s : Bool} {V : Nat} (h : Num d s V) : Num d.opposite (!s) V := by
  obtain ⟨k, rfl⟩ := h
  exact ⟨k, rfl⟩
theorem Num.product {a b : Datum} {s t : Bool} {V W : Nat} (h : Num a s V) (g : Num b t W) : ∃ d, a.product b = some d ∧ Num d (s ^^ t) (V * W) := by
  obtain ⟨k, rfl⟩ := h
  obtain ⟨j, rfl⟩ := g
  refine ⟨_, rfl, k + j, ?_⟩
  congr 1
  · rw [Nat.pow_add]; ac_rfl
  · omega
theorem signed_sg (s : Bool) (V k K : Nat) (h : k ≤ K) : signed s (V * 2 ^ k) (-(k : Int) - -(K : Int)).toNat = sg s V * (2 ^ K : Nat) := by
  unfold signed sg
  rw [show (-(k : Int) - -(K : Int)).toNat = K - k by omega, Nat.shiftLeft_eq, Nat.mul_assoc, ← Nat.pow_add, show k + (K - k) = K by omega]
  cases s
  · simp
  · simp [Int.neg_mul]
theorem Num.sum {a b : Datum} {s t : Bool} {V W : Nat} (h : Num a s V) (g : Num b t W) : ∃ d, a.sum b = some d ∧ Num d (if sg s V + sg t W = 0 then s && t else decide (sg s V + sg t W < 0)) (sg s V + sg t W).natAbs := by
  obtain ⟨k, rfl⟩ := h
  obtain ⟨j, rfl⟩ := g
  obtain ⟨K, hK⟩ : ∃ K : Nat, K = max k j := ⟨_, rfl⟩
  refine ⟨_, rfl, K, ?_⟩
  have hb : min (-(k : Int)) (-(j : Int)) = -(K : Int) := by omega
  simp only [hb]
  rw [signed_sg s V k K (by omega), signed_sg t W j K (by omega), ← Int.add_mul]
  generalize sg s V + sg t W = z
  have hp : (0 : Int) < ((2 ^ K : Nat) : Int) := by exact_mod_cast Nat.two_pow_pos K
  congr 1
  · by_cases hz : z = 0
    · subst hz; simp
    · have : ¬ z * ((2 ^ K : Nat) : Int) = 0 := fun h => by
        rcases Int.mul_eq_zero.1 h with h | h
        · exact hz h
        · omega
      rw [if_neg this, if_neg hz]
      rw [decide_eq_decide]
      constructor
      · intro h
        exact Decidable.byContradiction fun hx => by
          have := Int.mul_nonneg (show 0 ≤ z by omega) (Int.le_of_lt hp)
          omega
      · intro h
        have := Int.mul_pos (show 0 < -z by omega) hp
        rw [Int.neg_mul] at this
        omega
  · rw [Int.natAbs_mul]; simp
theorem Num.order {a b : Datum} {s t : Bool} {V W : Nat} (h : Num a s V) (g : Num b t W) : a.order b = some (compare (sg s V) (sg t W)) := by
  obtain ⟨k, rfl⟩ := h
  obtain ⟨j, rfl⟩ := g
  obtain ⟨K, hK⟩ : ∃ K : Nat, K = max k j := ⟨_, rfl⟩
  have hb : min (-(k : Int)) (-(j : Int)) = -(K : Int) := by omega
  show some (compare (signed s (V * 2 ^ k) (-(k : Int) - min (-(k : Int)) (-(j : Int))).toNat) (signed t (W * 2 ^ j) (-(j : Int) - min (-(k : Int)) (-(j : Int))).toNat)) = _
  rw [hb, signed_sg s V k K (by omega), signed_sg t W j K (by omega)]
  have hp : (0 : Int) < ((2 ^ K : Nat) : Int) := by exact_mod_cast Nat.two_pow_pos K
  generalize sg s V = x
  generalize sg t W = y
  generalize ((2 ^ K : Nat) : Int) = p at hp
  congr 1
  rcases Int.lt_trichotomy x y with h | h | h
  · rw [Int.compare_eq_lt.2 h, Int.compare_eq_lt.2 (Int.mul_lt_mul_of_pos_right h hp)]
  · subst h; rw [Int.compare_eq_eq.2 rfl, Int.compare_eq_eq.2 rfl]
  · rw [Int.compare_eq_gt.2 h, Int.compare_eq_gt.2 (Int.mul_lt_mul_of_pos_right h hp)]
theorem Num.integral {a : Datum} {s : Bool} {V : Nat} (way : Toward) (h : Num a s V) : a.integral way = .number s V 0 := by
  obtain ⟨k, rfl⟩ := h
  show Datum.number s (way.cut s ((V * 2 ^ k) <<< (-(k : Int)).toNat) (- -(k : Int)).toNat) 0 = _
  by_cases hk : k = 0
  · subst hk
    have := cut_exact way s V 0
    simp at this ⊢
    exact this
  · rw [show (-(k : Int)).toNat = 0 by omega, show (- -(k : Int)).toNat = k by omega, Nat.shiftLeft_zero, cut_exact]
theorem Num.toInt {a : Datum} {s : Bool} {V : Nat} (way : Toward) (h : Num a s V) : a.toInt way = some (sg s V) := by
  unfold Datum.toInt
  rw [h.integral way]
  show some (signed s V 0) = _
  unfold signed sg
  rw [Nat.shiftLeft_zero]
theorem Num.zero (s : Bool) : Num (.number s 0 0) s 0 := ⟨0, by simp⟩
theorem num_int (s : Bool) (V : Nat) : Num (.number s V 0) s V := ⟨0, by simp⟩

/-! Words. -/
theorem add_fw (s t : Bool) (V W : Nat) (hV : V < 2 ^ 53) (hW : W < 2 ^ 53) (h : (sg s V + sg t W).natAbs < 2 ^ 53) :
    floatBits .add .f64 (fw s V) (fw t W) = some (fw (if sg s V + sg t W = 0 then s && t else decide (sg s V + sg t W < 0)) (sg s V + sg t W).natAbs) := by
  obtain ⟨d, h1, h2⟩ := (num_read s V hV).sum (num_read t W hW)
  show ((double.read (fw s V)).sum (double.read (fw t W))).map double.write = _
  rw [h1, Option.map_some, h2.write h]
theorem sub_fw (s t : Bool) (V W : Nat) (hV : V < 2 ^ 53) (hW : W < 2 ^ 53) (h : (sg s V + sg (!t) W).natAbs < 2 ^ 53) :
    floatBits .sub .f64 (fw s V) (fw t W) = some (fw (if sg s V + sg (!t) W = 0 then s && !t else decide (sg s V + sg (!t) W < 0)) (sg s V + sg (!t) W).natAbs) := by
  obtain ⟨d, h1, h2⟩ := (num_read s V hV).sum (num_read t W hW).opposite
  show ((double.read (fw s V)).sum (double.read (fw t W)).opposite).map double.write = _
  rw [h1, Option.map_some, h2.write h]
theorem mul_fw (s t : Bool) (V W : Nat) (hV : V < 2 ^ 53) (hW : W < 2 ^ 53) (h : V * W < 2 ^ 53) :
    floatBits .mul .f64 (fw s V) (fw t W) = some (fw (s ^^ t) (V * W)) := by
  obtain ⟨d, h1, h2⟩ := (num_read s V hV).product (num_read t W hW)
  show ((double.read (fw s V)).product (double.read (fw t W))).map double.write = _
  rw [h1, Option.map_some, h2.write h]
theorem order_fw (s t : Bool) (V W : Nat) (hV : V < 2 ^ 53) (hW : W < 2 ^ 53) : double.order (fw s V) (fw t W) = some (compare (sg s V) (sg t W)) :=
  (num_read s V hV).order (num_read t W hW)
theorem trunc_fw (s : Bool) (V : Nat) (hV : V < 2 ^ 53) (way : Toward) : double.write ((double.read (fw s V)).integral way) = fw s V := by
  rw [(num_read s V hV).integral way]
  exact (num_int s V).write hV
theorem int_fw (n : Int) : floatOfInt .f64 n = fw (decide (n < 0)) n.natAbs := rfl
end Go.Proofs.Yteigenmhfgldfaa
