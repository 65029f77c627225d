/-
  Bits: what a few bit operations come to on numbers.
-/
import Derived.Test.YtljioepkbbbibaaDoorSpec
import Derived.Laws.BitsAllLaws
import Derived.Laws.BitsLemmas
namespace Go.Proofs.YtljioepkbbbibaaDoor
open Go.RowKit

theorem u64_bits (op : BinOp) (a b : Int) (f : BitVec 64 → BitVec 64 → BitVec 64) (h : bits op .u64 a b = IntKind.u64.wrap ((f (BitVec.ofInt 64 a) (BitVec.ofInt 64 b)).toNat : Int)) :
    bits op .u64 a b = ((f (BitVec.ofInt 64 a) (BitVec.ofInt 64 b)).toNat : Int) := by
  rw [h, IntKind.wrap_u64]
  have := (f (BitVec.ofInt 64 a) (BitVec.ofInt 64 b)).isLt
  omega

theorem zig_bits (n : Int) (h1 : -9223372036854775808 ≤ n) (h2 : n ≤ 9223372036854775807) :
    bits BinOp.xor IntKind.u64 (IntKind.u64.wrap (IntKind.u64.wrap n * 2)) (IntKind.u64.wrap (n / 9223372036854775808)) = (zig n : Int) := by
  rw [u64_bits .xor _ _ (· ^^^ ·) rfl]
  simp only [IntKind.wrap_u64]
  by_cases h : 0 ≤ n
  · have e1 : n / 9223372036854775808 = 0 := by omega
    have e2 : n % 18446744073709551616 * 2 % 18446744073709551616 = ((2 * n).toNat : Int) := by omega
    rw [e1, e2]
    have e3 : (BitVec.ofInt 64 ((0 : Int) % 18446744073709551616)) = 0#64 := by decide
    rw [e3, BitVec.ofInt_natCast]
    have : (2 * n).toNat < 2 ^ 64 := by omega
    simp only [BitVec.xor_zero, BitVec.toNat_ofNat, Nat.mod_eq_of_lt this]
    unfold zig; rw [if_pos h]
  · have e1 : n / 9223372036854775808 = -1 := by omega
    have e2 : n % 18446744073709551616 * 2 % 18446744073709551616 = ((18446744073709551616 + 2 * n).toNat : Int) := by omega
    rw [e1, e2]
    have e3 : (BitVec.ofInt 64 ((-1 : Int) % 18446744073709551616)) = BitVec.allOnes 64 := by decide
    rw [e3, BitVec.ofInt_natCast, BitVec.xor_allOnes, BitVec.toNat_not]
    have : (18446744073709551616 + 2 * n).toNat < 2 ^ 64 := by omega
    simp only [BitVec.toNat_ofNat, Nat.mod_eq_of_lt this]
    unfold zig; rw [if_neg h]; omega

theorem u8_or128 (u : Nat) : bits BinOp.or IntKind.u8 (IntKind.u8.wrap (u : Int)) 128 = ((UInt8.ofNat (u % 128 + 128)).toNat : Int) := by
  have key : ∀ x : Fin 256, bits BinOp.or IntKind.u8 ((x.val : Nat) : Int) 128 = ((x.val % 128 + 128 : Nat) : Int) := by decide +kernel
  have e : IntKind.u8.wrap (u : Int) = ((u % 256 : Nat) : Int) := by rw [IntKind.wrap_u8]; omega
  rw [e, key ⟨u % 256, by omega⟩]
  simp only [UInt8.toNat_ofNat']
  omega
theorem u8_of (u : Nat) (_ : u < 128) : IntKind.u8.wrap (u : Int) = ((UInt8.ofNat u).toNat : Int) := by
  rw [IntKind.wrap_u8]; simp only [UInt8.toNat_ofNat']; omega

theorem pow_128 (k : Nat) : (128 : Nat) ^ k = 2 ^ (7 * k) := by rw [Nat.pow_mul]

/-- One digit more of a number that is read. -/
theorem rd_step (acc V k : Nat) (hk : k ≤ 9) (ha : acc < 128 ^ k) (hV : V < 256) (h9 : k = 9 → V ≤ 1) :
    bits BinOp.or IntKind.u64 (acc : Int) (IntKind.u64.wrap (bits BinOp.and IntKind.u64 (V : Int) 127 * 2 ^ (7 * k))) = ((acc + V % 128 * 128 ^ k : Nat) : Int) := by
  have e1 : bits BinOp.and IntKind.u64 (V : Int) 127 = ((V % 128 : Nat) : Int) := by
    have := u64_and_nat V 127 (by omega) (by omega)
    rw [show (V &&& 127) = V % 128 from Nat.and_two_pow_sub_one_eq_mod V 7] at this
    exact this
  have hp : (128 : Nat) ^ k ≤ 128 ^ 9 := Nat.pow_le_pow_right (by omega) hk
  have hlt : V % 128 * 128 ^ k < 18446744073709551616 := by
    by_cases h : k = 9
    · subst h; have := h9 rfl
      have hv : V % 128 ≤ 1 := by omega
      have := Nat.mul_le_mul_right (128 ^ 9) hv
      omega
    · have hp8 : (128 : Nat) ^ k ≤ 128 ^ 8 := Nat.pow_le_pow_right (by omega) (by omega)
      have hv : V % 128 ≤ 127 := by omega
      have := Nat.mul_le_mul hv hp8
      omega
  have e2 : IntKind.u64.wrap (((V % 128 : Nat) : Int) * 2 ^ (7 * k)) = ((V % 128 * 128 ^ k : Nat) : Int) := by
    rw [IntKind.wrap_u64, pow_128]
    have e : (((V % 128 : Nat) : Int) * 2 ^ (7 * k)) = ((V % 128 * 2 ^ (7 * k) : Nat) : Int) := by
      rw [Int.natCast_mul, Int.natCast_pow]; rfl
    rw [e]
    rw [pow_128] at hlt
    omega
  rw [e1, e2, u64_or_nat acc _ (by omega) hlt]
  rw [Nat.or_comm, nat_join (7 * k) _ _ (by rw [pow_128]; exact Nat.mul_mod_left _ _) (by rw [← pow_128]; exact ha), Nat.add_comm]

theorem rd_bound (acc V k : Nat) (hk : k ≤ 9) (ha : acc < 128 ^ k) (h9 : k = 9 → V ≤ 1) : acc + V % 128 * 128 ^ k < 18446744073709551616 := by
  by_cases h : k = 9
  · subst h; have := h9 rfl
    have hv : V % 128 ≤ 1 := by omega
    have := Nat.mul_le_mul_right (128 ^ 9) hv
    omega
  · have hp8 : (128 : Nat) ^ k ≤ 128 ^ 8 := Nat.pow_le_pow_right (by omega) (by omega)
    have hv : V % 128 ≤ 127 := by omega
    have := Nat.mul_le_mul hv hp8
    omega

theorem unzig_bits (U : Nat) (h : U < 18446744073709551616) :
    bits BinOp.xor IntKind.i64 (wrap64 (U / 2)) (wrap64 (-wrap64 (bits BinOp.and IntKind.u64 U 1))) = unzig U := by
  have e1 : bits BinOp.and IntKind.u64 (U : Int) 1 = ((U % 2 : Nat) : Int) := by
    have := u64_and_nat U 1 (by omega) (by omega)
    rw [Nat.and_one_is_mod] at this
    exact this
  have e2 : wrap64 ((U : Int) / 2) = ((U / 2 : Nat) : Int) := by unfold wrap64; omega
  rw [e1, e2]
  show IntKind.i64.wrap ((BitVec.ofInt 64 _ ^^^ BitVec.ofInt 64 _).toNat : Int) = _
  rw [IntKind.wrap_i64]
  unfold unzig
  by_cases hp : U % 2 = 0
  · rw [hp, if_pos rfl]
    have e3 : (BitVec.ofInt 64 (wrap64 (-wrap64 ((0 : Nat) : Int)))) = 0#64 := by decide +kernel
    rw [e3, BitVec.ofInt_natCast, BitVec.xor_zero, BitVec.toNat_ofNat]
    omega
  · have hp1 : U % 2 = 1 := by omega
    rw [if_neg hp, hp1]
    have e3 : (BitVec.ofInt 64 (wrap64 (-wrap64 ((1 : Nat) : Int)))) = BitVec.allOnes 64 := by decide +kernel
    rw [e3, BitVec.ofInt_natCast, BitVec.xor_allOnes, BitVec.toNat_not, BitVec.toNat_ofNat]
    omega

end Go.Proofs.YtljioepkbbbibaaDoor
