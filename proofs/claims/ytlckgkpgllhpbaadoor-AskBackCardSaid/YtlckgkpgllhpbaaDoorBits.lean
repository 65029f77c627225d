/-
  Bits: Spec, Bits.
-/
import Derived.Test.YtlckgkpgllhpbaaDoorBase
import Derived.Laws.BitsAllLaws
import Derived.Laws.BitsLemmas
/- Spec -/
namespace Go.Proofs.YtlckgkpgllhpbaaDoor

/-- The natural number that stands for n. -/
def zig (n : Int) : Nat := if 0 ≤ n then (2 * n).toNat else (-2 * n - 1).toNat
/-- In base 128, the lowest digit first, of at most f + 1 digits. -/
def b128 : Nat → Nat → List UInt8
  | 0, u => [UInt8.ofNat u]
  | f + 1, u => if u < 128 then [UInt8.ofNat u] else UInt8.ofNat (u % 128 + 128) :: b128 f (u / 128)
def intB (n : Int) : List UInt8 := b128 9 (zig n)
def textB (l : List UInt8) : List UInt8 := intB l.length ++ l

theorem b128_lt {f u : Nat} (h : u < 128) : b128 f u = [UInt8.ofNat u] := by cases f <;> simp [b128, h]
theorem b128_ge {f u : Nat} (h : 128 ≤ u) : b128 (f + 1) u = UInt8.ofNat (u % 128 + 128) :: b128 f (u / 128) := by simp [b128, show ¬ u < 128 by omega]
theorem b128_len (f u : Nat) : 0 < (b128 f u).length ∧ (b128 f u).length ≤ f + 1 := by
  induction f generalizing u with
  | zero => simp [b128]
  | succ f ih =>
    unfold b128
    split
    · simp
    · have := ih (u / 128); simp; omega
theorem intB_len (n : Int) : 0 < (intB n).length ∧ (intB n).length ≤ 10 := b128_len 9 _
theorem textB_len (l : List UInt8) : (textB l).length ≤ l.length + 10 := by have := intB_len l.length; simp [textB]; omega
theorem zig_lt {n : Int} (h1 : -9223372036854775808 ≤ n) (h2 : n ≤ 9223372036854775807) : zig n < 18446744073709551616 := by unfold zig; split <;> omega

/-- A reader: what is left of its bytes; none: it is good no more. -/
abbrev RSt := Option (List UInt8)
def tk (st : RSt) (n : Int) : List UInt8 × RSt :=
  match st with
  | none => ([], none)
  | some l => if 0 ≤ n ∧ n ≤ l.length then (l.take n.toNat, some (l.drop n.toNat)) else ([], none)
/-- The number that bytes begin with: k bytes are gone by, they stand for acc. -/
def numAt : Nat → Nat → List UInt8 → Option (Nat × List UInt8)
  | _, _, [] => none
  | k, acc, c :: l =>
    if 128 ≤ c.toNat ∧ k < 9 then numAt (k + 1) (acc + (c.toNat - 128) * 128 ^ k) l
    else if (c.toNat = 0 ∧ 0 < k) ∨ (1 < c.toNat ∧ k = 9) then none
    else some (acc + c.toNat * 128 ^ k, l)
def unzig (u : Nat) : Int := if u % 2 = 0 then (u / 2 : Nat) else -((u / 2 : Nat) : Int) - 1
def rInt (st : RSt) : Int × RSt :=
  match st with
  | none => (0, none)
  | some l => match numAt 0 0 l with
    | none => (0, none)
    | some (u, r) => (unzig u, some r)
def rByte (st : RSt) : UInt8 × RSt :=
  match st with
  | some (c :: l) => (c, some l)
  | _ => (0, none)
def rCount (st : RSt) (most : Int) : Int × RSt :=
  let (n, st') := rInt st
  if n < 0 ∨ most < n then (0, none) else (n, st')
def rBytes (st : RSt) (most : Int) : List UInt8 × RSt := let (n, st') := rCount st most; tk st' n
def rGood (st : RSt) : Bool := st.isSome
def rWhole (st : RSt) : Bool := st == some []

/-- What is read as a number was put as just those bytes. -/
theorem numAt_back {k acc u : Nat} {l r : List UInt8} (hk : k ≤ 9) (h : numAt k acc l = some (u, r)) :
    ∃ v, u = acc + v * 128 ^ k ∧ b128 (9 - k) v ++ r = l ∧ v < 2 * 128 ^ (9 - k) ∧ (0 < k → 0 < v) := by
  induction l generalizing k acc with
  | nil => simp [numAt] at h
  | cons c l ih =>
    have hc := c.toNat_lt
    unfold numAt at h
    by_cases h1 : 128 ≤ c.toNat ∧ k < 9
    · rw [if_pos h1] at h
      obtain ⟨v, e1, e2, e3, e4⟩ := ih (by omega) h
      have hv := e4 (by omega)
      have e5 : 9 - k = (9 - (k + 1)) + 1 := by omega
      refine ⟨c.toNat - 128 + 128 * v, ?_, ?_, ?_, fun _ => by omega⟩
      · rw [e1, Nat.pow_succ, Nat.add_mul, ← Nat.add_assoc, Nat.mul_comm (128 ^ k) 128, Nat.mul_comm 128 v, Nat.mul_assoc]
      · rw [e5, b128_ge (by omega), show (c.toNat - 128 + 128 * v) / 128 = v by omega, show (c.toNat - 128 + 128 * v) % 128 + 128 = c.toNat by omega]
        rw [List.cons_append, e2]
        simp
      · rw [e5, Nat.pow_succ]; omega
    · rw [if_neg h1] at h
      by_cases h2 : (c.toNat = 0 ∧ 0 < k) ∨ (1 < c.toNat ∧ k = 9)
      · rw [if_pos h2] at h; cases h
      · rw [if_neg h2] at h
        cases h
        refine ⟨c.toNat, rfl, ?_, ?_, fun _ => by omega⟩
        · rw [b128_lt (by omega)]; simp
        · by_cases h9 : k = 9
          · subst h9; simp; omega
          · obtain ⟨m, hm⟩ : ∃ m, 9 - k = m + 1 := ⟨9 - k - 1, by omega⟩
            rw [hm, Nat.pow_succ]
            have : 0 < 128 ^ m := Nat.pow_pos (by omega)
            omega
theorem zig_unzig (u : Nat) : zig (unzig u) = u := by
  unfold zig unzig
  split <;> split <;> omega
theorem unzig_range {u : Nat} (h : u < 18446744073709551616) : -9223372036854775808 ≤ unzig u ∧ unzig u ≤ 9223372036854775807 := by
  unfold unzig
  split <;> omega
theorem rInt_back {l r : List UInt8} {n : Int} (h : rInt (some l) = (n, some r)) : intB n ++ r = l ∧ -9223372036854775808 ≤ n ∧ n ≤ 9223372036854775807 := by
  simp only [rInt] at h
  cases hn : numAt 0 0 l with
  | none => rw [hn] at h; cases h
  | some x =>
    obtain ⟨u, r'⟩ := x
    rw [hn] at h
    simp only [Prod.mk.injEq, Option.some.injEq] at h
    obtain ⟨rfl, rfl⟩ := h
    obtain ⟨v, e1, e2, e3, _⟩ := numAt_back (by omega) hn
    have : u = v := by omega
    subst this
    have hu : u < 18446744073709551616 := by simpa using e3
    exact ⟨by rw [intB, zig_unzig]; exact e2, unzig_range hu⟩

end Go.Proofs.YtlckgkpgllhpbaaDoor

/- Bits -/
namespace Go.Proofs.YtlckgkpgllhpbaaDoor
open Go.RowKit

theorem u64_bits (op : BinOp) (a b : Int) (f : BitVec 64 → BitVec 64 → BitVec 64) (h : bits op .u64 a b = IntKind.u64.wrap ((f (BitVec.ofInt 64 a) (BitVec.ofInt 64 b)).toNat : Int)) :
    bits op .u64 a b = ((f (BitVec.ofInt 64 a) (BitVec.ofInt 64 b)).toNat : Int) := by
  rw [h, IntKind.wrap_u64]
  have := (f (BitVec.ofInt 64 a) (BitVec.ofInt 64 b)).isLt
  omega

theorem zig_bits (n : Int) (h1 : -9223372036854775808 ≤ n) (h2 : n ≤ 9223372036854775807) :
    bits BinOp.xor IntKind.u64 (IntKind.u64.wrap (IntKind.u64.wrap n * 2)) (IntKind.u64.wrap (n / 9223372036854775808)) = (zig n : Int) := by
  rw [u64_bits .xor _ _ (· ^^^ ·) rfl]
  simp only [IntKind.wrap_u64]
  by_cases h : 0 ≤ n
  · have e1 : n / 9223372036854775808 = 0 := by omega
    have e2 : n % 18446744073709551616 * 2 % 18446744073709551616 = ((2 * n).toNat : Int) := by omega
    rw [e1, e2]
    have e3 : (BitVec.ofInt 64 ((0 : Int) % 18446744073709551616)) = 0#64 := by decide
    rw [e3, BitVec.ofInt_natCast]
    have : (2 * n).toNat < 2 ^ 64 := by omega
    simp only [BitVec.xor_zero, BitVec.toNat_ofNat, Nat.mod_eq_of_lt this]
    unfold zig; rw [if_pos h]
  · have e1 : n / 9223372036854775808 = -1 := by omega
    have e2 : n % 18446744073709551616 * 2 % 18446744073709551616 = ((18446744073709551616 + 2 * n).toNat : Int) := by omega
    rw [e1, e2]
    have e3 : (BitVec.ofInt 64 ((-1 : Int) % 18446744073709551616)) = BitVec.allOnes 64 := by decide
    rw [e3, BitVec.ofInt_natCast, BitVec.xor_allOnes, BitVec.toNat_not]
    have : (18446744073709551616 + 2 * n).toNat < 2 ^ 64 := by omega
    simp only [BitVec.toNat_ofNat, Nat.mod_eq_of_lt this]
    unfold zig; rw [if_neg h]; omega

theorem u8_or128 (u : Nat) : bits BinOp.or IntKind.u8 (IntKind.u8.wrap (u : Int)) 128 = ((UInt8.ofNat (u % 128 + 128)).toNat : Int) := by
  have key : ∀ x : Fin 256, bits BinOp.or IntKind.u8 ((x.val : Nat) : Int) 128 = ((x.val % 128 + 128 : Nat) : Int) := by decide +kernel
  have e : IntKind.u8.wrap (u : Int) = ((u % 256 : Nat) : Int) := by rw [IntKind.wrap_u8]; omega
  rw [e, key ⟨u % 256, by omega⟩]
  simp only [UInt8.toNat_ofNat']
  omega
theorem u8_of (u : Nat) (_ : u < 128) : IntKind.u8.wrap (u : Int) = ((UInt8.ofNat u).toNat : Int) := by
  rw [IntKind.wrap_u8]; simp only [UInt8.toNat_ofNat']; omega

theorem pow_128 (k : Nat) : (128 : Nat) ^ k = 2 ^ (7 * k) := by rw [Nat.pow_mul]

/-- One digit more of a number that is read. -/
theorem rd_step (acc V k : Nat) (hk : k ≤ 9) (ha : acc < 128 ^ k) (hV : V < 256) (h9 : k = 9 → V ≤ 1) :
    bits BinOp.or IntKind.u64 (acc : Int) (IntKind.u64.wrap (bits BinOp.and IntKind.u64 (V : Int) 127 * 2 ^ (7 * k))) = ((acc + V % 128 * 128 ^ k : Nat) : Int) := by
  have e1 : bits BinOp.and IntKind.u64 (V : Int) 127 = ((V % 128 : Nat) : Int) := by
    have := u64_and_nat V 127 (by omega) (by omega)
    rw [show (V &&& 127) = V % 128 from Nat.and_two_pow_sub_one_eq_mod V 7] at this
    exact this
  have hp : (128 : Nat) ^ k ≤ 128 ^ 9 := Nat.pow_le_pow_right (by omega) hk
  have hlt : V % 128 * 128 ^ k < 18446744073709551616 := by
    by_cases h : k = 9
    · subst h; have := h9 rfl
      have hv : V % 128 ≤ 1 := by omega
      have := Nat.mul_le_mul_right (128 ^ 9) hv
      omega
    · have hp8 : (128 : Nat) ^ k ≤ 128 ^ 8 := Nat.pow_le_pow_right (by omega) (by omega)
      have hv : V % 128 ≤ 127 := by omega
      have := Nat.mul_le_mul hv hp8
      omega
  have e2 : IntKind.u64.wrap (((V % 128 : Nat) : Int) * 2 ^ (7 * k)) = ((V % 128 * 128 ^ k : Nat) : Int) := by
    rw [IntKind.wrap_u64, pow_128]
    have e : (((V % 128 : Nat) : Int) * 2 ^ (7 * k)) = ((V % 128 * 2 ^ (7 * k) : Nat) : Int) := by
      rw [Int.natCast_mul, Int.natCast_pow]; rfl
    rw [e]
    rw [pow_128] at hlt
    omega
  rw [e1, e2, u64_or_nat acc _ (by omega) hlt]
  rw [Nat.or_comm, nat_join (7 * k) _ _ (by rw [pow_128]; exact Nat.mul_mod_left _ _) (by rw [← pow_128]; exact ha), Nat.add_comm]

theorem rd_bound (acc V k : Nat) (hk : k ≤ 9) (ha : acc < 128 ^ k) (h9 : k = 9 → V ≤ 1) : acc + V % 128 * 128 ^ k < 18446744073709551616 := by
  by_cases h : k = 9
  · subst h; have := h9 rfl
    have hv : V % 128 ≤ 1 := by omega
    have := Nat.mul_le_mul_right (128 ^ 9) hv
    omega
  · have hp8 : (128 : Nat) ^ k ≤ 128 ^ 8 := Nat.pow_le_pow_right (by omega) (by omega)
    have hv : V % 128 ≤ 127 := by omega
    have := Nat.mul_le_mul hv hp8
    omega

theorem unzig_bits (U : Nat) (h : U < 18446744073709551616) :
    bits BinOp.xor IntKind.i64 (wrap64 (U / 2)) (wrap64 (-wrap64 (bits BinOp.and IntKind.u64 U 1))) = unzig U := by
  have e1 : bits BinOp.and IntKind.u64 (U : Int) 1 = ((U % 2 : Nat) : Int) := by
    have := u64_and_nat U 1 (by omega) (by omega)
    rw [Nat.and_one_is_mod] at this
    exact this
  have e2 : wrap64 ((U : Int) / 2) = ((U / 2 : Nat) : Int) := by unfold wrap64; omega
  rw [e1, e2]
  show IntKind.i64.wrap ((BitVec.ofInt 64 _ ^^^ BitVec.ofInt 64 _).toNat : Int) = _
  rw [IntKind.wrap_i64]
  unfold unzig
  by_cases hp : U % 2 = 0
  · rw [hp, if_pos rfl]
    have e3 : (BitVec.ofInt 64 (wrap64 (-wrap64 ((0 : Nat) : Int)))) = 0#64 := by decide +kernel
    rw [e3, BitVec.ofInt_natCast, BitVec.xor_zero, BitVec.toNat_ofNat]
    omega
  · have hp1 : U % 2 = 1 := by omega
    rw [if_neg hp, hp1]
    have e3 : (BitVec.ofInt 64 (wrap64 (-wrap64 ((1 : Nat) : Int)))) = BitVec.allOnes 64 := by decide +kernel
    rw [e3, BitVec.ofInt_natCast, BitVec.xor_allOnes, BitVec.toNat_not, BitVec.toNat_ofNat]
    omega

end Go.Proofs.YtlckgkpgllhpbaaDoor
