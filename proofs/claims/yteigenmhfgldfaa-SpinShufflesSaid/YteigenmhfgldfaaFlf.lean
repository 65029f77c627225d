/-
  Flf: the prime; powers of a sum; right numbers to the prime's power are their conjugates; inverses. No program in sight.
-/
import Derived.Test.YteigenmhfgldfaaFle
namespace Go.Proofs.Yteigenmhfgldfaa

/-- Sums of right numbers. -/
def gadd (x y : G) : G := (pm ((x.1 : Int) + y.1), pm ((x.2 : Int) + y.2))
theorem gok_add (x y : G) : gok (gadd x y) := by
  unfold gok gadd
  exact ⟨pm_lt ((x.1 : Int) + y.1), pm_lt ((x.2 : Int) + y.2)⟩
theorem gadd_comm (x y : G) : gadd x y = gadd y x := by
  unfold gadd
  rw [Int.add_comm, Int.add_comm (x.2 : Int)]
theorem gmul_add (x y z : G) : gmul x (gadd y z) = gadd (gmul x y) (gmul x z) := by
  obtain ⟨a, b⟩ := x
  obtain ⟨c, d⟩ := y
  obtain ⟨e, f⟩ := z
  unfold gmul gadd
  dsimp only
  refine Prod.ext ?_ ?_ <;> dsimp only
  · apply pm_ext
    simp only [Int.natCast_mul, pm_int]
    rw [sub_mod _ _ _ _ (mod_r _ _) (mod_r _ _), add_mod _ _ _ _ (Int.emod_emod_of_dvd _ (Int.dvd_refl _)) (Int.emod_emod_of_dvd _ (Int.dvd_refl _))]
    congr 1
    simp only [Int.mul_add]
    omega
  · apply pm_ext
    simp only [Int.natCast_mul, pm_int]
    rw [add_mod _ _ _ _ (mod_r _ _) (mod_r _ _), add_mod _ _ _ _ (Int.emod_emod_of_dvd _ (Int.dvd_refl _)) (Int.emod_emod_of_dvd _ (Int.dvd_refl _))]
    congr 1
    simp only [Int.mul_add]
    omega

/-- The number is prime. -/
def noDiv (n : Nat) : Nat → Bool
  | 0 => true
  | k + 1 => (decide (k + 2 ≥ n) || n % (k + 2) != 0) && noDiv n k
theorem noDiv_spec (n : Nat) : ∀ k, noDiv n k = true → ∀ d, 2 ≤ d → d ≤ k + 1 → d < n → n % d ≠ 0
  | 0, _, d, h1, h2, _ => by omega
  | k + 1, h, d, h1, h2, h3 => by
    unfold noDiv at h
    rw [Bool.and_eq_true, Bool.or_eq_true] at h
    rcases Nat.lt_or_ge d (k + 2) with hd | hd
    · exact noDiv_spec n k h.2 d h1 (by omega) h3
    · obtain rfl : d = k + 2 := by omega
      rcases h.1 with hx | hx
      · exact absurd (of_decide_eq_true hx) (by omega)
      · simpa using hx
theorem prime_small : ∀ d, 2 ≤ d → d ≤ 725 → 524287 % d ≠ 0 := fun d h1 h2 => noDiv_spec 524287 724 (by decide +kernel) d h1 (by omega) (by omega)
theorem prime_dvd (d : Nat) (h : d ∣ 524287) : d = 1 ∨ d = 524287 := by
  obtain ⟨e, he⟩ := h
  have hd0 : d ≠ 0 := by rintro rfl; omega
  have he0 : e ≠ 0 := by rintro rfl; omega
  rcases Nat.lt_or_ge d 2 with h1 | h1
  · left; omega
  rcases Nat.lt_or_ge e 2 with h2 | h2
  · right
    obtain rfl : e = 1 := by omega
    omega
  exfalso
  rcases Nat.lt_or_ge 725 d with h3 | h3
  · rcases Nat.lt_or_ge 725 e with h4 | h4
    · have : 726 * 726 ≤ d * e := Nat.mul_le_mul h3 h4
      omega
    · exact prime_small e h2 h4 (by rw [he]; exact Nat.mul_mod_left _ _)
  · exact prime_small d h1 h3 (by rw [he]; exact Nat.mul_mod_right _ _)
theorem prime_coprime {a : Nat} (h : a % 524287 ≠ 0) : Nat.Coprime 524287 a := by
  rcases prime_dvd _ (Nat.gcd_dvd_left 524287 a) with h1 | h1
  · exact h1
  · exfalso
    have := Nat.gcd_dvd_right 524287 a
    rw [h1] at this
    exact h (Nat.mod_eq_zero_of_dvd this)
theorem prime_mul {a b : Nat} (h : (a * b) % 524287 = 0) : a % 524287 = 0 ∨ b % 524287 = 0 := by
  by_cases ha : a % 524287 = 0
  · exact .inl ha
  · right
    exact Nat.mod_eq_zero_of_dvd ((prime_coprime ha).dvd_of_dvd_mul_left (Nat.dvd_of_mod_eq_zero h))

/-- Binomial coefficients. -/
def cho : Nat → Nat → Nat
  | _, 0 => 1
  | 0, _ + 1 => 0
  | n + 1, k + 1 => cho n k + cho n (k + 1)
theorem cho_zero : ∀ (n k : Nat), n < k → cho n k = 0
  | 0, k + 1, _ => rfl
  | n + 1, k + 1, h => by
    unfold cho
    rw [cho_zero n k (by omega), cho_zero n (k + 1) (by omega)]
theorem cho_self : ∀ n : Nat, cho n n = 1
  | 0 => rfl
  | n + 1 => by
    unfold cho
    rw [cho_self n, cho_zero n (n + 1) (by omega)]
theorem cho_mul : ∀ n k : Nat, (k + 1) * cho (n + 1) (k + 1) = (n + 1) * cho n k
  | 0, 0 => by simp [cho]
  | 0, k + 1 => by simp [cho]
  | n + 1, 0 => by
    have h := cho_mul n 0
    have e : cho (n + 2) 1 = cho (n + 1) 0 + cho (n + 1) 1 := rfl
    have e0 : ∀ m, cho m 0 = 1 := fun m => by cases m <;> rfl
    rw [show n + 1 + 1 = n + 2 from rfl, e]
    rw [e0] at h ⊢
    rw [Nat.zero_add, Nat.one_mul] at h ⊢
    omega
  | n + 1, k + 1 => by
    have h1 := cho_mul n k
    have h2 := cho_mul n (k + 1)
    have e : cho (n + 2) (k + 2) = cho (n + 1) (k + 1) + cho (n + 1) (k + 2) := rfl
    have e2 : cho (n + 1) (k + 1) = cho n k + cho n (k + 1) := rfl
    rw [show n + 1 + 1 = n + 2 from rfl, show k + 1 + 1 = k + 2 from rfl] at *
    rw [e, Nat.mul_add, h2]
    have h3 : (k + 2) * cho (n + 1) (k + 1) = (k + 1) * cho (n + 1) (k + 1) + cho (n + 1) (k + 1) := by
      rw [show k + 2 = (k + 1) + 1 from rfl, Nat.succ_mul]
    rw [h3, h1]
    have h4 : (n + 2) * cho (n + 1) (k + 1) = (n + 1) * cho (n + 1) (k + 1) + cho (n + 1) (k + 1) := by
      rw [show n + 2 = (n + 1) + 1 from rfl, Nat.succ_mul]
    rw [h4, e2, Nat.mul_add]
    omega
theorem cho_prime (k : Nat) (h1 : 1 ≤ k) (h2 : k < 524287) : cho 524287 k % 524287 = 0 := by
  obtain ⟨j, rfl⟩ : ∃ j, k = j + 1 := ⟨k - 1, by omega⟩
  have h := cho_mul 524286 j
  rcases prime_mul (a := j + 1) (b := cho 524287 (j + 1)) (by rw [show (524287 : Nat) = 524286 + 1 from rfl, h]; exact Nat.mul_mod_right _ _) with h3 | h3
  · rw [Nat.mod_eq_of_lt h2] at h3; omega
  · exact h3
end Go.Proofs.Yteigenmhfgldfaa
