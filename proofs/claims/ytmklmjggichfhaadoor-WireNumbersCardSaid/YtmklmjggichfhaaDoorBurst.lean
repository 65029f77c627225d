/-
  Burst: the sum tells rows of bytes apart that differ in one byte, or in four bytes side by side.
-/
import Derived.Test.YtmklmjggichfhaaDoorCrc
namespace Go.Proofs.YtmklmjggichfhaaDoor
open Go.RowKit

theorem xor_zero {n : Nat} {a b : BitVec n} (h : a ^^^ b = 0#n) : a = b := by
  have h2 := congrArg (fun x => x ^^^ b) h
  simp only [BitVec.xor_assoc, BitVec.xor_self, BitVec.xor_zero, BitVec.zero_xor] at h2
  exact h2
theorem st1_zero {c : BitVec 32} (h : st1 c = 0#32) : c = 0#32 := by
  have hc := c.isLt
  have hb : c.getLsbD 0 = decide (c.toNat % 2 = 1) := by rw [BitVec.getLsbD, Nat.testBit_zero]
  unfold st1 at h
  rw [hb] at h
  by_cases ho : c.toNat % 2 = 1
  · exfalso
    rw [if_pos (by simp [ho])] at h
    have h3 := congrArg BitVec.toNat (xor_zero h)
    rw [BitVec.toNat_ushiftRight, Nat.shiftRight_eq_div_pow] at h3
    have : poly.toNat = 3988292384 := rfl
    omega
  · rw [if_neg (by simp [ho]), BitVec.xor_zero] at h
    have h3 := congrArg BitVec.toNat h
    rw [BitVec.toNat_ushiftRight, Nat.shiftRight_eq_div_pow] at h3
    apply BitVec.eq_of_toNat_eq
    have e : (0#32).toNat = 0 := rfl
    rw [e] at h3 ⊢
    omega
theorem stN_zero (n : Nat) {c : BitVec 32} (h : stN n c = 0#32) : c = 0#32 := by
  induction n generalizing c with
  | zero => exact h
  | succ n ih => exact st1_zero (ih h)
theorem stN_inj (n : Nat) {a b : BitVec 32} (h : stN n a = stN n b) : a = b := by
  apply xor_zero
  apply stN_zero n
  rw [stN_xor, h, BitVec.xor_self]
theorem xor_right {n : Nat} {a b c : BitVec n} (h : a ^^^ c = b ^^^ c) : a = b := by
  have h2 := congrArg (fun x => x ^^^ c) h
  simp only [BitVec.xor_assoc, BitVec.xor_self, BitVec.xor_zero] at h2
  exact h2
theorem xor_left {n : Nat} {a b c : BitVec n} (h : c ^^^ a = c ^^^ b) : a = b := by
  rw [BitVec.xor_comm c a, BitVec.xor_comm c b] at h
  exact xor_right h
theorem crcB_inj {c d : BitVec 32} {x : UInt8} (h : crcB c x = crcB d x) : c = d := xor_right (stN_inj 8 h)
theorem crcL_inj {c d : BitVec 32} (l : List UInt8) (h : crcL c l = crcL d l) : c = d := by
  induction l generalizing c d with
  | nil => exact h
  | cons x l ih => exact crcB_inj (ih h)
theorem crcL_append (c : BitVec 32) (a b : List UInt8) : crcL c (a ++ b) = crcL (crcL c a) b := List.foldl_append
theorem crc_ne (c : BitVec 32) (p r : List UInt8) {a b : List UInt8} (h : ∀ s, crcL s a ≠ crcL s b) : crcL c (p ++ (a ++ r)) ≠ crcL c (p ++ (b ++ r)) := fun e => by
  rw [crcL_append, crcL_append, crcL_append, crcL_append] at e
  exact h _ (crcL_inj r e)
theorem crc_not {a b : List UInt8} (h : crcL (BitVec.allOnes 32) a ≠ crcL (BitVec.allOnes 32) b) : (crc a).toNat ≠ (crc b).toNat := fun e => by
  have h2 := BitVec.eq_of_toNat_eq e
  unfold crc at h2
  have h3 := congrArg (fun x : BitVec 32 => ~~~x) h2
  simp only [BitVec.not_not] at h3
  exact h h3
theorem u8_word {x y : UInt8} (h : BitVec.ofNat 32 x.toNat = BitVec.ofNat 32 y.toNat) : x = y := by
  have h2 := congrArg BitVec.toNat h
  have hx := x.toNat_lt
  have hy := y.toNat_lt
  rw [BitVec.toNat_ofNat, BitVec.toNat_ofNat, Nat.mod_eq_of_lt (by omega), Nat.mod_eq_of_lt (by omega)] at h2
  exact UInt8.toNat_inj.1 h2
theorem turn1 {x y : UInt8} (h : x ≠ y) (s : BitVec 32) : crcL s [x] ≠ crcL s [y] := fun e => h (u8_word (xor_left (stN_inj 8 e)))
theorem ofNat_xor (x y : UInt8) : BitVec.ofNat 32 (x ^^^ y).toNat = BitVec.ofNat 32 x.toNat ^^^ BitVec.ofNat 32 y.toNat := by
  have hx := x.toNat_lt
  have hy := y.toNat_lt
  have hz := (x ^^^ y).toNat_lt
  apply BitVec.eq_of_toNat_eq
  rw [BitVec.toNat_xor, BitVec.toNat_ofNat, BitVec.toNat_ofNat, BitVec.toNat_ofNat, Nat.mod_eq_of_lt (by omega), Nat.mod_eq_of_lt (by omega), Nat.mod_eq_of_lt (by omega), UInt8.toNat_xor]
theorem crcB_xor (s t : BitVec 32) (x y : UInt8) : crcB (s ^^^ t) (x ^^^ y) = crcB s x ^^^ crcB t y := by
  unfold crcB
  rw [← stN_xor, ofNat_xor]
  congr 1
  rw [BitVec.xor_assoc, BitVec.xor_assoc, ← BitVec.xor_assoc t, BitVec.xor_comm t, BitVec.xor_assoc]
/-- Bytes as a number, the lowest first. -/
def lowN : List UInt8 → Nat
  | [] => 0
  | x :: l => x.toNat + lowN l * 256
theorem lowN_lt (l : List UInt8) : lowN l < 256 ^ l.length := by
  induction l with
  | nil => simp [lowN]
  | cons x l ih =>
    have := x.toNat_lt
    rw [List.length_cons, Nat.pow_succ]
    unfold lowN
    omega
theorem stN8_low (a r : Nat) (ha : a < 256) (hr : r < 16777216) : BitVec.ofNat 32 (a + r * 256) = BitVec.ofNat 32 a ^^^ BitVec.ofNat 32 (r * 256) := by
  apply BitVec.eq_of_toNat_eq
  rw [BitVec.toNat_xor, BitVec.toNat_ofNat, BitVec.toNat_ofNat, BitVec.toNat_ofNat, Nat.mod_eq_of_lt (by omega), Nat.mod_eq_of_lt (by omega), Nat.mod_eq_of_lt (by omega)]
  have h := or_add r a 8 (by omega)
  rw [show (2 : Nat) ^ 8 = 256 by rfl] at h
  rw [Nat.add_comm, ← h]
  apply Nat.eq_of_testBit_eq
  intro i
  rw [Nat.testBit_or, Nat.testBit_xor, show r * 256 = 2 ^ 8 * r by omega, Nat.testBit_two_pow_mul]
  by_cases hi : 8 ≤ i
  · have : a.testBit i = false := Nat.testBit_lt_two_pow (Nat.lt_of_lt_of_le (by omega : a < 2 ^ 8) (Nat.pow_le_pow_right (by omega) hi))
    simp [this]
  · simp [hi]
theorem stN8_up (r : Nat) (hr : r < 16777216) : stN 8 (BitVec.ofNat 32 (r * 256)) = BitVec.ofNat 32 r := by
  rw [stN_even 8]
  · apply BitVec.eq_of_toNat_eq
    rw [BitVec.toNat_ushiftRight, BitVec.toNat_ofNat, BitVec.toNat_ofNat, Nat.shiftRight_eq_div_pow, Nat.mod_eq_of_lt (by omega), Nat.mod_eq_of_lt (by omega)]
    omega
  · intro k hk
    rw [BitVec.getLsbD, BitVec.toNat_ofNat, Nat.mod_eq_of_lt (by omega), show r * 256 = 2 ^ 8 * r by omega, Nat.testBit_two_pow_mul]
    simp
    intro h
    omega
theorem crc_low (l : List UInt8) (hl : l.length ≤ 4) (s : BitVec 32) : crcL s l = stN (8 * l.length) (s ^^^ BitVec.ofNat 32 (lowN l)) := by
  induction l generalizing s with
  | nil =>
    show s = s ^^^ 0#32
    rw [BitVec.xor_zero]
  | cons x l ih =>
    rw [List.length_cons] at hl
    have hx := x.toNat_lt
    have hn : lowN l < 16777216 := Nat.lt_of_lt_of_le (lowN_lt l) (by
      have := Nat.pow_le_pow_right (n := 256) (by omega) (show l.length ≤ 3 by omega)
      exact this)
    show crcL (crcB s x) l = stN (8 * (l.length + 1)) (s ^^^ BitVec.ofNat 32 (x.toNat + lowN l * 256))
    rw [ih (by omega), show 8 * (l.length + 1) = 8 + 8 * l.length by omega, stN_add, stN8_low _ _ (by omega) hn, ← BitVec.xor_assoc, stN_xor 8 (s ^^^ BitVec.ofNat 32 x.toNat), stN8_up _ hn]
    rfl
/-- Side by side. -/
def zipX : List UInt8 → List UInt8 → List UInt8
  | x :: l, y :: m => (x ^^^ y) :: zipX l m
  | _, _ => []
theorem crcL_zip (l m : List UInt8) (h : l.length = m.length) (s t : BitVec 32) : crcL (s ^^^ t) (zipX l m) = crcL s l ^^^ crcL t m := by
  induction l generalizing m s t with
  | nil =>
    cases m with
    | nil => rfl
    | cons => simp at h
  | cons x l ih =>
    cases m with
    | nil => simp at h
    | cons y m =>
      show crcL (crcB (s ^^^ t) (x ^^^ y)) (zipX l m) = _
      rw [crcB_xor, ih m (by simpa using h)]
      rfl
theorem burst (l m : List UInt8) (h : l.length = m.length) (hm : m.length ≤ 4) (hn : lowN m ≠ 0) (s : BitVec 32) : crcL s (zipX l m) ≠ crcL s l := fun e => by
  have h1 := crcL_zip l m h s 0#32
  rw [BitVec.xor_zero, e] at h1
  have h2 : crcL (0#32) m = 0#32 := xor_left (c := crcL s l) (by rw [← h1, BitVec.xor_zero])
  rw [crc_low m hm, BitVec.zero_xor] at h2
  have h3 := congrArg BitVec.toNat (stN_zero _ h2)
  have hl : lowN m < 4294967296 := Nat.lt_of_lt_of_le (lowN_lt m) (Nat.pow_le_pow_right (n := 256) (by omega) hm)
  rw [BitVec.toNat_ofNat, Nat.mod_eq_of_lt (by omega)] at h3
  exact hn h3

end Go.Proofs.YtmklmjggichfhaaDoor
