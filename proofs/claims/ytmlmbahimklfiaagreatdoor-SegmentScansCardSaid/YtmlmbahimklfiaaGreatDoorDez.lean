/-
  Dez: zxids: Make, Epoch, Counter of the program and of the document; a remainder that is picked.
-/
import Derived.Test.YtmlmbahimklfiaaGreatDoorKit
import Derived.Laws.BitsAllLaws
namespace Go.Proofs.YtmlmbahimklfiaaGreatDoor
open Go.RowKit

theorem i64_or (a b : Nat) (ha : a < 9223372036854775808) (hb : b < 9223372036854775808) : bits .or .i64 (a : Int) (b : Int) = ((a ||| b : Nat) : Int) := by
  have hx : a ||| b < 2 ^ 63 := Nat.or_lt_two_pow (by omega) (by omega)
  show IntKind.i64.wrap ((BitVec.ofInt 64 (a : Int) ||| BitVec.ofInt 64 (b : Int)).toNat : Int) = _
  rw [BitVec.toNat_or, ofInt_u64 a (by omega), ofInt_u64 b (by omega), IntKind.wrap_i64]
  omega
theorem i64_and (a b : Nat) (ha : a < 9223372036854775808) (hb : b < 9223372036854775808) : bits .and .i64 (a : Int) (b : Int) = ((a &&& b : Nat) : Int) := by
  have hx : a &&& b < 2 ^ 63 := Nat.and_lt_two_pow _ (by omega)
  show IntKind.i64.wrap ((BitVec.ofInt 64 (a : Int) &&& BitVec.ofInt 64 (b : Int)).toNat : Int) = _
  rw [BitVec.toNat_and, ofInt_u64 a (by omega), ofInt_u64 b (by omega), IntKind.wrap_i64]
  omega
theorem or_join (e c : Int) (he : 0 ≤ e ∧ e ≤ 1073741824) (hc : 0 ≤ c ∧ c < 4294967296) : bits .or .i64 (e * 4294967296) c = e * 4294967296 + c := by
  obtain ⟨E, rfl⟩ := Int.eq_ofNat_of_zero_le he.1
  obtain ⟨C, rfl⟩ := Int.eq_ofNat_of_zero_le hc.1
  have h := i64_or (E * 4294967296) C (by omega) (by omega)
  rw [nat_join 32 _ _ (by omega) (by omega)] at h
  rw [Int.natCast_add, Int.natCast_mul] at h
  exact h
set_option maxRecDepth 100000 in
theorem and_low (z : Int) (h0 : 0 ≤ z) (h1 : z < 9223372036854775808) : bits .and .i64 z 4294967295 = z % 4294967296 := by
  obtain ⟨Z, rfl⟩ := Int.eq_ofNat_of_zero_le h0
  have h := i64_and Z 4294967295 (by omega) (by omega)
  rw [show (4294967295 : Nat) = 2 ^ 32 - 1 from rfl, Nat.and_two_pow_sub_one_eq_mod] at h
  exact h
def mkZ (e c : Int) : Int := if e < 0 ∨ 1073741824 < e ∨ c < 0 ∨ 4294967296 ≤ c then 0 else e * 4294967296 + c
def epZ (z : Int) : Int := if 0 ≤ z ∧ z / 4294967296 ≤ 1073741824 then z / 4294967296 else 0
def coZ (z : Int) : Int := if 0 ≤ z ∧ z / 4294967296 ≤ 1073741824 then z % 4294967296 else 0
theorem mkZ_ep {e c : Int} (h : 0 ≤ e ∧ e ≤ 1073741824) (k : 0 ≤ c ∧ c < 4294967296) : mkZ e c = e * 4294967296 + c ∧ epZ (mkZ e c) = e ∧ coZ (mkZ e c) = c := by
  unfold mkZ epZ coZ
  rw [if_neg (by omega)]
  refine ⟨rfl, ?_, ?_⟩
  · rw [if_pos (by omega)]; omega
  · rw [if_pos (by omega)]; omega

end Go.Proofs.YtmlmbahimklfiaaGreatDoor
