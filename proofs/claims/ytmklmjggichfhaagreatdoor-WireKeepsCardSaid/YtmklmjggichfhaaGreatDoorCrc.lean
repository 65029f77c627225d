/-
  Crc: the CRC-32 as it is defined, one bit at a time, over BitVec 32; it is linear; four bits at a time come to the same.
-/
import Derived.Test.YtmklmjggichfhaaGreatDoorBits
namespace Go.Proofs.YtmklmjggichfhaaGreatDoor
open Go.RowKit

def poly : BitVec 32 := 0xEDB88320#32
def st1 (c : BitVec 32) : BitVec 32 := (c >>> 1) ^^^ (if c.getLsbD 0 then poly else 0#32)
def stN : Nat → BitVec 32 → BitVec 32
  | 0, c => c
  | n + 1, c => stN n (st1 c)
def crcB (c : BitVec 32) (b : UInt8) : BitVec 32 := stN 8 (c ^^^ BitVec.ofNat 32 b.toNat)
def crcL (c : BitVec 32) (l : List UInt8) : BitVec 32 := l.foldl crcB c
def crc (l : List UInt8) : BitVec 32 := ~~~(crcL (BitVec.allOnes 32) l)

theorem st1_xor (a b : BitVec 32) : st1 (a ^^^ b) = st1 a ^^^ st1 b := by
  have ac : ∀ x y z : BitVec 32, x ^^^ y ^^^ z = x ^^^ z ^^^ y := fun x y z => by rw [BitVec.xor_assoc, BitVec.xor_comm y z, ← BitVec.xor_assoc]
  unfold st1
  rw [BitVec.ushiftRight_xor_distrib, BitVec.getLsbD_xor]
  cases a.getLsbD 0 <;> cases b.getLsbD 0
  · simp
  · simp [BitVec.xor_assoc]
  · simp; exact ac _ _ _
  · simp
    rw [← BitVec.xor_assoc, ac (a >>> 1) poly (b >>> 1), BitVec.xor_assoc _ poly poly, BitVec.xor_self, BitVec.xor_zero]
theorem stN_xor (n : Nat) (a b : BitVec 32) : stN n (a ^^^ b) = stN n a ^^^ stN n b := by
  induction n generalizing a b with
  | zero => rfl
  | succ n ih => simp only [stN, st1_xor, ih]
theorem stN_add (m n : Nat) (c : BitVec 32) : stN (m + n) c = stN n (stN m c) := by
  induction m generalizing c with
  | zero => simp [stN]
  | succ m ih => rw [Nat.succ_add]; simp only [stN, ih]
theorem stN_succ (n : Nat) (c : BitVec 32) : stN (n + 1) c = st1 (stN n c) := by rw [stN_add n 1]; rfl
theorem st1_even {c : BitVec 32} (h : c.getLsbD 0 = false) : st1 c = c >>> 1 := by unfold st1; rw [h]; simp
theorem stN_even (n : Nat) (c : BitVec 32) (h : ∀ k, k < n → c.getLsbD k = false) : stN n c = c >>> n := by
  induction n with
  | zero => simp [stN]
  | succ n ih =>
    rw [stN_succ, ih fun k hk => h k (by omega), st1_even (by rw [BitVec.getLsbD_ushiftRight]; exact h (n + 0) (by omega)), BitVec.shiftRight_add]
def tabC (i : Nat) : BitVec 32 := stN 4 (BitVec.ofNat 32 i)
theorem stN4 (c : BitVec 32) : stN 4 c = (c >>> 4) ^^^ tabC (c.toNat % 16) := by
  have e1 : c = (c >>> 4 <<< 4) ^^^ BitVec.ofNat 32 (c.toNat % 16) := by
    apply BitVec.eq_of_toNat_eq
    rw [BitVec.toNat_xor, BitVec.toNat_shiftLeft, BitVec.toNat_ushiftRight, BitVec.toNat_ofNat, Nat.shiftRight_eq_div_pow, Nat.shiftLeft_eq]
    have hc := c.isLt
    have h1 : c.toNat / 2 ^ 4 * 2 ^ 4 < 2 ^ 32 := by omega
    have h2 : c.toNat % 16 < 2 ^ 32 := by omega
    rw [Nat.mod_eq_of_lt h1, Nat.mod_eq_of_lt h2]
    have h3 : (c.toNat / 2 ^ 4 * 2 ^ 4) ^^^ (c.toNat % 16) = c.toNat / 2 ^ 4 * 2 ^ 4 + c.toNat % 16 := by
      rw [Nat.mul_comm]
      have := Nat.two_pow_add_eq_or_of_lt (i := 4) (b := c.toNat % 16) (by omega) (c.toNat / 2 ^ 4)
      rw [this]
      apply Nat.eq_of_testBit_eq
      intro i
      rw [Nat.testBit_xor, Nat.testBit_or, Nat.testBit_two_pow_mul]
      by_cases h : 4 ≤ i
      · have : (c.toNat % 16).testBit i = false := Nat.testBit_lt_two_pow (Nat.lt_of_lt_of_le (by omega : c.toNat % 16 < 2 ^ 4) (Nat.pow_le_pow_right (by omega) h))
        simp [this]
      · simp [h]
    rw [h3]; omega
  have e2 : stN 4 (c >>> 4 <<< 4) = c >>> 4 := by
    rw [stN_even 4]
    · apply BitVec.eq_of_toNat_eq
      rw [BitVec.toNat_ushiftRight, BitVec.toNat_shiftLeft, BitVec.toNat_ushiftRight, Nat.shiftRight_eq_div_pow, Nat.shiftRight_eq_div_pow, Nat.shiftLeft_eq]
      have hc := c.isLt
      omega
    · intro k hk
      rw [BitVec.getLsbD_shiftLeft]
      simp [hk]
  conv => lhs; rw [e1, stN_xor, e2]
  rfl
theorem crcB_eq (c : BitVec 32) (b : UInt8) : crcB c b = stN 4 (stN 4 (c ^^^ BitVec.ofNat 32 b.toNat)) := stN_add 4 4 _

theorem bv_st1 (c : BitVec 32) : bits BinOp.xor IntKind.u32 ((c.toNat : Int) / 2) (IntKind.u32.wrap (3988292384 * bits BinOp.and IntKind.u32 (c.toNat : Int) 1)) = ((st1 c).toNat : Int) := by
  have hc := c.isLt
  have e1 : bits BinOp.and IntKind.u32 (c.toNat : Int) 1 = ((c.toNat % 2 : Nat) : Int) := by
    have := u32_and_nat c.toNat 1 (by omega) (by omega)
    rw [Nat.and_one_is_mod] at this
    exact this
  have e3 : ((c.toNat : Int) / 2) = ((c.toNat / 2 : Nat) : Int) := by omega
  have e2 : IntKind.u32.wrap (3988292384 * ((c.toNat % 2 : Nat) : Int)) = ((if c.toNat % 2 = 1 then 3988292384 else 0 : Nat) : Int) := by
    rw [IntKind.wrap_u32]
    split <;> omega
  rw [e1, e2, e3, u32_xor_nat _ _ (by omega) (by split <;> omega)]
  congr 1
  unfold st1
  rw [BitVec.toNat_xor, BitVec.toNat_ushiftRight, Nat.shiftRight_eq_div_pow]
  have hb : c.getLsbD 0 = decide (c.toNat % 2 = 1) := by
    rw [BitVec.getLsbD, Nat.testBit_zero]
  rw [hb]
  congr 1
  by_cases h : c.toNat % 2 = 1 <;> simp [h, poly]
theorem bv_x8 (c : BitVec 32) (x : UInt8) : bits BinOp.xor IntKind.u32 (c.toNat : Int) (x.toNat : Int) = ((c ^^^ BitVec.ofNat 32 x.toNat).toNat : Int) := by
  have hc := c.isLt
  have hx := x.toNat_lt
  rw [u32_xor_nat _ _ (by omega) (by omega), BitVec.toNat_xor, BitVec.toNat_ofNat, Nat.mod_eq_of_lt (by omega)]
theorem bv_15 (c : BitVec 32) : bits BinOp.and IntKind.u32 (c.toNat : Int) 15 = ((c.toNat % 16 : Nat) : Int) := by
  have hc := c.isLt
  have := u32_and_nat c.toNat 15 (by omega) (by omega)
  rw [show (c.toNat &&& 15) = c.toNat % 16 from Nat.and_two_pow_sub_one_eq_mod _ 4] at this
  exact this
theorem bv_st4 (c : BitVec 32) : bits BinOp.xor IntKind.u32 ((c.toNat : Int) / 16) ((tabC (c.toNat % 16)).toNat : Int) = ((stN 4 c).toNat : Int) := by
  have hc := c.isLt
  have hd := (tabC (c.toNat % 16)).isLt
  have e3 : ((c.toNat : Int) / 16) = ((c.toNat / 16 : Nat) : Int) := by omega
  rw [e3, u32_xor_nat _ _ (by omega) (by omega), stN4, BitVec.toNat_xor, BitVec.toNat_ushiftRight, Nat.shiftRight_eq_div_pow]

theorem bv_not (c : BitVec 32) : bits BinOp.xor IntKind.u32 IntKind.u32.max (c.toNat : Int) = ((~~~c).toNat : Int) := by
  have hc := c.isLt
  have e : IntKind.u32.max = ((4294967295 : Nat) : Int) := by decide +kernel
  rw [e, u32_xor_nat _ _ (by omega) (by omega)]
  congr 1

/-- Four bytes of a number, the lowest first. -/
def fourB (n : Nat) : List UInt8 := [UInt8.ofNat n, UInt8.ofNat (n / 256), UInt8.ofNat (n / 65536), UInt8.ofNat (n / 16777216)]
theorem fourB_length (n : Nat) : (fourB n).length = 4 := rfl
/-- The number that four bytes say. -/
def numB : List UInt8 → Nat
  | a :: b :: c :: d :: _ => a.toNat + b.toNat * 256 + c.toNat * 65536 + d.toNat * 16777216
  | _ => 0
theorem numB_lt (l : List UInt8) : numB l < 4294967296 := by
  unfold numB
  split
  · rename_i a b c d _
    have := a.toNat_lt; have := b.toNat_lt; have := c.toNat_lt; have := d.toNat_lt
    omega
  · omega
def frameB (l : List UInt8) : List UInt8 := fourB l.length ++ (fourB (crc l).toNat ++ l)
/-- What a frame holds, if bytes begin with one. -/
def unframe (b : List UInt8) : Option (List UInt8) :=
  if b.length < 8 then none
  else if 1048576 < numB b ∨ b.length - 8 < numB b then none
  else if (crc ((b.drop 8).take (numB b))).toNat = numB (b.drop 4) then some ((b.drop 8).take (numB b)) else none

theorem four_bv (n : Nat) (hn : n < 4294967296) : bv (fourB n) = [.int .u8 ((n : Int) % 256), .int .u8 ((n : Int) / 256 % 256), .int .u8 ((n : Int) / 65536 % 256), .int .u8 ((n : Int) / 16777216)] := by
  simp only [fourB, bv, List.map_cons, List.map_nil, UInt8.toNat_ofNat', List.cons.injEq, Value.int.injEq, true_and, and_true]
  omega
theorem or_add (a b i : Nat) (hb : b < 2 ^ i) : a * 2 ^ i ||| b = a * 2 ^ i + b := nat_join i _ _ (Nat.mul_mod_left _ _) hb
theorem bv_num (a b c d : UInt8) :
    bits BinOp.or IntKind.u32 (bits BinOp.or IntKind.u32 (bits BinOp.or IntKind.u32 (a.toNat : Int) ((b.toNat : Int) * 256)) ((c.toNat : Int) * 65536)) ((d.toNat : Int) * 16777216) = ((a.toNat + b.toNat * 256 + c.toNat * 65536 + d.toNat * 16777216 : Nat) : Int) := by
  have ha := a.toNat_lt; have hb := b.toNat_lt; have hc := c.toNat_lt; have hd := d.toNat_lt
  have e1 : bits BinOp.or IntKind.u32 (a.toNat : Int) ((b.toNat : Int) * 256) = ((a.toNat + b.toNat * 256 : Nat) : Int) := by
    have := u32_or_nat a.toNat (b.toNat * 256) (by omega) (by omega)
    rw [Nat.or_comm, or_add _ _ 8 (by omega), Nat.add_comm] at this
    rw [← this]; congr 1
  have e2 : bits BinOp.or IntKind.u32 ((a.toNat + b.toNat * 256 : Nat) : Int) ((c.toNat : Int) * 65536) = ((a.toNat + b.toNat * 256 + c.toNat * 65536 : Nat) : Int) := by
    have := u32_or_nat (a.toNat + b.toNat * 256) (c.toNat * 65536) (by omega) (by omega)
    rw [show ((c.toNat : Int) * 65536) = ((c.toNat * 65536 : Nat) : Int) by omega, this, Nat.or_comm]
    have h := or_add c.toNat (a.toNat + b.toNat * 256) 16 (by omega)
    rw [show (2 : Nat) ^ 16 = 65536 by rfl] at h
    rw [h, Nat.add_comm]
  have e3 : bits BinOp.or IntKind.u32 ((a.toNat + b.toNat * 256 + c.toNat * 65536 : Nat) : Int) ((d.toNat : Int) * 16777216) = ((a.toNat + b.toNat * 256 + c.toNat * 65536 + d.toNat * 16777216 : Nat) : Int) := by
    have := u32_or_nat (a.toNat + b.toNat * 256 + c.toNat * 65536) (d.toNat * 16777216) (by omega) (by omega)
    rw [show ((d.toNat : Int) * 16777216) = ((d.toNat * 16777216 : Nat) : Int) by omega, this, Nat.or_comm]
    have h := or_add d.toNat (a.toNat + b.toNat * 256 + c.toNat * 65536) 24 (by omega)
    rw [show (2 : Nat) ^ 24 = 16777216 by rfl] at h
    rw [h, Nat.add_comm]
  rw [e1, e2, e3]

end Go.Proofs.YtmklmjggichfhaaGreatDoor
