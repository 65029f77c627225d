/-
  Spec: what wire's bytes are, in plain Lean: numbers, texts, readers, sums, frames. No program in sight.
-/
import Derived.Test.YtljioepkbbbibaaDoorBase
namespace Go.Proofs.YtljioepkbbbibaaDoor

/-- The natural number that stands for n. -/
def zig (n : Int) : Nat := if 0 ≤ n then (2 * n).toNat else (-2 * n - 1).toNat
/-- In base 128, the lowest digit first, of at most f + 1 digits. -/
def b128 : Nat → Nat → List UInt8
  | 0, u => [UInt8.ofNat u]
  | f + 1, u => if u < 128 then [UInt8.ofNat u] else UInt8.ofNat (u % 128 + 128) :: b128 f (u / 128)
def intB (n : Int) : List UInt8 := b128 9 (zig n)
def textB (l : List UInt8) : List UInt8 := intB l.length ++ l

theorem b128_lt {f u : Nat} (h : u < 128) : b128 f u = [UInt8.ofNat u] := by cases f <;> simp [b128, h]
theorem b128_ge {f u : Nat} (h : 128 ≤ u) : b128 (f + 1) u = UInt8.ofNat (u % 128 + 128) :: b128 f (u / 128) := by simp [b128, show ¬ u < 128 by omega]
theorem b128_len (f u : Nat) : 0 < (b128 f u).length ∧ (b128 f u).length ≤ f + 1 := by
  induction f generalizing u with
  | zero => simp [b128]
  | succ f ih =>
    unfold b128
    split
    · simp
    · have := ih (u / 128); simp; omega
theorem intB_len (n : Int) : 0 < (intB n).length ∧ (intB n).length ≤ 10 := b128_len 9 _
theorem textB_len (l : List UInt8) : (textB l).length ≤ l.length + 10 := by have := intB_len l.length; simp [textB]; omega
theorem zig_lt {n : Int} (h1 : -9223372036854775808 ≤ n) (h2 : n ≤ 9223372036854775807) : zig n < 18446744073709551616 := by unfold zig; split <;> omega

/-- A reader: what is left of its bytes; none: it is good no more. -/
abbrev RSt := Option (List UInt8)
def tk (st : RSt) (n : Int) : List UInt8 × RSt :=
  match st with
  | none => ([], none)
  | some l => if 0 ≤ n ∧ n ≤ l.length then (l.take n.toNat, some (l.drop n.toNat)) else ([], none)
/-- The number that bytes begin with: k bytes are gone by, they stand for acc. -/
def numAt : Nat → Nat → List UInt8 → Option (Nat × List UInt8)
  | _, _, [] => none
  | k, acc, c :: l =>
    if 128 ≤ c.toNat ∧ k < 9 then numAt (k + 1) (acc + (c.toNat - 128) * 128 ^ k) l
    else if (c.toNat = 0 ∧ 0 < k) ∨ (1 < c.toNat ∧ k = 9) then none
    else some (acc + c.toNat * 128 ^ k, l)
def unzig (u : Nat) : Int := if u % 2 = 0 then (u / 2 : Nat) else -((u / 2 : Nat) : Int) - 1
def rInt (st : RSt) : Int × RSt :=
  match st with
  | none => (0, none)
  | some l => match numAt 0 0 l with
    | none => (0, none)
    | some (u, r) => (unzig u, some r)
def rByte (st : RSt) : UInt8 × RSt :=
  match st with
  | some (c :: l) => (c, some l)
  | _ => (0, none)
def rCount (st : RSt) (most : Int) : Int × RSt :=
  let (n, st') := rInt st
  if n < 0 ∨ most < n then (0, none) else (n, st')
def rBytes (st : RSt) (most : Int) : List UInt8 × RSt := let (n, st') := rCount st most; tk st' n
def rGood (st : RSt) : Bool := st.isSome
def rWhole (st : RSt) : Bool := st == some []

/-- What is read as a number was put as just those bytes. -/
theorem numAt_back {k acc u : Nat} {l r : List UInt8} (hk : k ≤ 9) (h : numAt k acc l = some (u, r)) :
    ∃ v, u = acc + v * 128 ^ k ∧ b128 (9 - k) v ++ r = l ∧ v < 2 * 128 ^ (9 - k) ∧ (0 < k → 0 < v) := by
  induction l generalizing k acc with
  | nil => simp [numAt] at h
  | cons c l ih =>
    have hc := c.toNat_lt
    unfold numAt at h
    by_cases h1 : 128 ≤ c.toNat ∧ k < 9
    · rw [if_pos h1] at h
      obtain ⟨v, e1, e2, e3, e4⟩ := ih (by omega) h
      have hv := e4 (by omega)
      have e5 : 9 - k = (9 - (k + 1)) + 1 := by omega
      refine ⟨c.toNat - 128 + 128 * v, ?_, ?_, ?_, fun _ => by omega⟩
      · rw [e1, Nat.pow_succ, Nat.add_mul, ← Nat.add_assoc, Nat.mul_comm (128 ^ k) 128, Nat.mul_comm 128 v, Nat.mul_assoc]
      · rw [e5, b128_ge (by omega), show (c.toNat - 128 + 128 * v) / 128 = v by omega, show (c.toNat - 128 + 128 * v) % 128 + 128 = c.toNat by omega]
        rw [List.cons_append, e2]
        simp
      · rw [e5, Nat.pow_succ]; omega
    · rw [if_neg h1] at h
      by_cases h2 : (c.toNat = 0 ∧ 0 < k) ∨ (1 < c.toNat ∧ k = 9)
      · rw [if_pos h2] at h; cases h
      · rw [if_neg h2] at h
        cases h
        refine ⟨c.toNat, rfl, ?_, ?_, fun _ => by omega⟩
        · rw [b128_lt (by omega)]; simp
        · by_cases h9 : k = 9
          · subst h9; simp; omega
          · obtain ⟨m, hm⟩ : ∃ m, 9 - k = m + 1 := ⟨9 - k - 1, by omega⟩
            rw [hm, Nat.pow_succ]
            have : 0 < 128 ^ m := Nat.pow_pos (by omega)
            omega
theorem zig_unzig (u : Nat) : zig (unzig u) = u := by
  unfold zig unzig
  split <;> split <;> omega
theorem unzig_range {u : Nat} (h : u < 18446744073709551616) : -9223372036854775808 ≤ unzig u ∧ unzig u ≤ 9223372036854775807 := by
  unfold unzig
  split <;> omega
theorem rInt_back {l r : List UInt8} {n : Int} (h : rInt (some l) = (n, some r)) : intB n ++ r = l ∧ -9223372036854775808 ≤ n ∧ n ≤ 9223372036854775807 := by
  simp only [rInt] at h
  cases hn : numAt 0 0 l with
  | none => rw [hn] at h; cases h
  | some x =>
    obtain ⟨u, r'⟩ := x
    rw [hn] at h
    simp only [Prod.mk.injEq, Option.some.injEq] at h
    obtain ⟨rfl, rfl⟩ := h
    obtain ⟨v, e1, e2, e3, _⟩ := numAt_back (by omega) hn
    have : u = v := by omega
    subst this
    have hu : u < 18446744073709551616 := by simpa using e3
    exact ⟨by rw [intB, zig_unzig]; exact e2, unzig_range hu⟩

end Go.Proofs.YtljioepkbbbibaaDoor
