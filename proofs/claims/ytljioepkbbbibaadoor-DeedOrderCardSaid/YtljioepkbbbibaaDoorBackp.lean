/-
  Backp: what was put is read back: on lists of bytes, no program in sight.
-/
import Derived.Test.YtljioepkbbbibaaDoorSpec
namespace Go.Proofs.YtljioepkbbbibaaDoor

theorem numAt_front (f k acc u : Nat) (r : List UInt8) (hk : k + f = 9) (hu : u < 2 * 128 ^ f) (h0 : 0 < k → 0 < u) : numAt k acc (b128 f u ++ r) = some (acc + u * 128 ^ k, r) := by
  induction f generalizing k acc u with
  | zero =>
    have hk9 : k = 9 := by omega
    subst hk9
    have := h0 (by omega)
    have e : (UInt8.ofNat u).toNat = u := by simp only [UInt8.toNat_ofNat']; omega
    simp only [b128, List.cons_append, List.nil_append, numAt, e]
    rw [if_neg (by omega), if_neg (by omega)]
  | succ f ih =>
    by_cases h : u < 128
    · have e : (UInt8.ofNat u).toNat = u := by simp only [UInt8.toNat_ofNat']; omega
      rw [b128_lt h]
      simp only [List.cons_append, List.nil_append, numAt, e]
      have hnot : ¬ ((u = 0 ∧ 0 < k) ∨ (1 < u ∧ k = 9)) := by
        rintro (⟨h1, h2⟩ | ⟨h1, h2⟩)
        · have := h0 h2; omega
        · omega
      rw [if_neg (by omega), if_neg hnot]
    · have e : (UInt8.ofNat (u % 128 + 128)).toNat = u % 128 + 128 := by simp only [UInt8.toNat_ofNat']; omega
      rw [b128_ge (by omega)]
      simp only [List.cons_append, numAt, e]
      rw [if_pos (by omega), ih _ _ _ (by omega) (by rw [Nat.pow_succ] at hu; omega) (by omega)]
      congr 2
      rw [show u % 128 + 128 - 128 = u % 128 by omega, Nat.pow_succ, Nat.add_assoc, ← Nat.mul_assoc, Nat.mul_right_comm, ← Nat.add_mul]
      congr 2
      omega
theorem numAt_cut (f k acc u q : Nat) (hk : k + f = 9) (hq : q < (b128 f u).length) : numAt k acc ((b128 f u).take q) = none := by
  induction f generalizing k acc u q with
  | zero =>
    have : q = 0 := by simp [b128] at hq; exact hq
    subst this
    rfl
  | succ f ih =>
    cases q with
    | zero => rfl
    | succ q =>
      by_cases h : u < 128
      · rw [b128_lt h] at hq; simp at hq
      · have e : (UInt8.ofNat (u % 128 + 128)).toNat = u % 128 + 128 := by simp only [UInt8.toNat_ofNat']; omega
        rw [b128_ge (by omega)] at hq ⊢
        simp only [List.take_succ_cons, numAt, e]
        rw [if_pos (by omega)]
        exact ih _ _ _ _ (by omega) (by simpa using hq)
theorem unzig_zig (n : Int) : unzig (zig n) = n := by
  unfold unzig zig
  split <;> split <;> omega
theorem rInt_front {n : Int} (h1 : -9223372036854775808 ≤ n) (h2 : n ≤ 9223372036854775807) (r : List UInt8) : rInt (some (intB n ++ r)) = (n, some r) := by
  have h := numAt_front 9 0 0 (zig n) r rfl (by have := zig_lt h1 h2; omega) (by omega)
  unfold rInt intB
  simp only [h]
  rw [Nat.pow_zero, Nat.mul_one, Nat.zero_add, unzig_zig]
theorem rInt_cut (n : Int) (q : Nat) (hq : q < (intB n).length) : rInt (some ((intB n).take q)) = (0, none) := by
  have h := numAt_cut 9 0 0 (zig n) q rfl hq
  unfold rInt intB
  simp only [h]
theorem rBytes_of {st st' : RSt} {n m : Int} (h : rInt st = (n, st')) (h0 : 0 ≤ n) (hm : n ≤ m) : rBytes st m = tk st' n := by
  unfold rBytes rCount
  rw [h]
  simp only
  rw [if_neg (by omega)]
theorem rBytes_front (l r : List UInt8) (hl : l.length ≤ 9223372036854775807) : rBytes (some (textB l ++ r)) l.length = (l, some r) := by
  unfold textB
  rw [List.append_assoc, rBytes_of (rInt_front (by omega) (by omega) _) (by omega) (by omega)]
  unfold tk
  simp only
  rw [if_pos (by simp; omega), Int.toNat_natCast, List.take_left, List.drop_left]
theorem rBytes_cut (l : List UInt8) (q : Nat) (hl : l.length ≤ 9223372036854775807) (hq : q < (textB l).length) : (rBytes (some ((textB l).take q)) l.length).2 = none := by
  unfold textB at hq ⊢
  by_cases h : q < (intB l.length).length
  · rw [List.take_append_of_le_length (by omega), rBytes_of (rInt_cut _ _ h) (by omega) (by omega)]
    rfl
  · rw [List.take_append, List.take_of_length_le (by omega), rBytes_of (rInt_front (by omega) (by omega) _) (by omega) (by omega)]
    unfold tk
    simp only
    rw [if_neg]
    simp at hq ⊢
    omega

/-- A thing: its sort (of four), its number, its bytes. -/
abbrev Thing := Int × Int × List UInt8
def putB (x : Thing) : List UInt8 := if x.1 % 4 = 0 then [UInt8.ofNat (x.2.1 % 256).toNat] else if x.1 % 4 = 1 then intB x.2.1 else textB x.2.2
theorem putB_len (x : Thing) : (putB x).length ≤ x.2.2.length + 10 := by
  unfold putB
  split
  · simp
  · split
    · have := intB_len x.2.1; omega
    · exact textB_len _
def catB : List Thing → List UInt8
  | [] => []
  | x :: l => putB x ++ catB l
theorem catB_append (a b : List Thing) : catB (a ++ b) = catB a ++ catB b := by
  induction a with
  | nil => rfl
  | cons x a ih => simp [catB, ih]
/-- A thing is read: is it the one, and what is left. -/
def rdOne (st : RSt) (x : Thing) : Bool × RSt :=
  if x.1 % 4 = 0 then ((rByte st).1 == UInt8.ofNat (x.2.1 % 256).toNat, (rByte st).2)
  else if x.1 % 4 = 1 then ((rInt st).1 == x.2.1, (rInt st).2)
  else ((rBytes st x.2.2.length).1 == x.2.2, (rBytes st x.2.2.length).2)
def rdAll : List Thing → RSt → Bool × RSt
  | [], st => (true, st)
  | x :: l, st => if (rdOne st x).1 = true ∧ rGood (rdOne st x).2 = true then rdAll l (rdOne st x).2 else (false, (rdOne st x).2)
def Fits (x : Thing) : Prop := (-9223372036854775808 ≤ x.2.1 ∧ x.2.1 ≤ 9223372036854775807) ∧ x.2.2.length ≤ 9223372036854775807
theorem rdOne_front {x : Thing} (hx : Fits x) (r : List UInt8) : rdOne (some (putB x ++ r)) x = (true, some r) := by
  unfold rdOne putB
  split
  · simp [rByte]
  · split
    · rw [rInt_front hx.1.1 hx.1.2]; simp
    · rw [rBytes_front _ _ hx.2]; simp
theorem rdOne_cut {x : Thing} (hx : Fits x) (q : Nat) (hq : q < (putB x).length) : (rdOne (some ((putB x).take q)) x).2 = none := by
  unfold rdOne putB at *
  split
  · rename_i h
    rw [if_pos h] at hq
    simp at hq
    subst hq
    rfl
  · rename_i h
    rw [if_neg h] at hq
    split
    · rename_i h1
      rw [if_pos h1] at hq
      rw [rInt_cut _ _ hq]
    · rename_i h1
      rw [if_neg h1] at hq
      exact rBytes_cut _ _ hx.2 hq
theorem rdAll_front (l : List Thing) (hl : ∀ x ∈ l, Fits x) (r : List UInt8) : rdAll l (some (catB l ++ r)) = (true, some r) := by
  induction l with
  | nil => rfl
  | cons x l ih =>
    unfold rdAll catB
    rw [List.append_assoc, rdOne_front (hl x (by simp)), if_pos ⟨rfl, rfl⟩]
    exact ih fun y hy => hl y (by simp [hy])
theorem rdAll_cut (l : List Thing) (hl : ∀ x ∈ l, Fits x) (q : Nat) (hq : q < (catB l).length) : rdAll l (some ((catB l).take q)) = (false, none) := by
  induction l generalizing q with
  | nil => simp [catB] at hq
  | cons x l ih =>
    simp only [catB] at hq ⊢
    unfold rdAll
    by_cases h : q < (putB x).length
    · rw [List.take_append_of_le_length (by omega), rdOne_cut (hl x (by simp)) q h, if_neg (by simp [rGood])]
    · rw [List.take_append, List.take_of_length_le (by omega), rdOne_front (hl x (by simp)), if_pos ⟨rfl, rfl⟩]
      rw [List.length_append] at hq
      exact ih (fun y hy => hl y (by simp [hy])) _ (by omega)

end Go.Proofs.YtljioepkbbbibaaDoor
