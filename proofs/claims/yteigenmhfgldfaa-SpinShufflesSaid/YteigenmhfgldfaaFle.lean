/-
  Fle: right numbers are a commutative monoid under products; powers. No program in sight.
-/
import Derived.WalkKit
namespace Go.Proofs.Yteigenmhfgldfaa

/-- A whole number modulo the prime. -/
def pm (z : Int) : Nat := (z % 524287).toNat
theorem pm_lt (z : Int) : pm z < 524287 := by unfold pm; omega
/-- A pair of right parts. -/
abbrev G := Nat × Nat
def gok (x : G) : Prop := x.1 < 524287 ∧ x.2 < 524287
def gmul (x y : G) : G := (pm ((x.1 * y.1 : Nat) - (x.2 * y.2 : Nat)), pm ((x.1 * y.2 : Nat) + (x.2 * y.1 : Nat)))
def gone : G := (1, 0)
def gpow (x : G) : Nat → G
  | 0 => gone
  | n + 1 => gmul (gpow x n) x
theorem gok_mul (x y : G) : gok (gmul x y) := by
  unfold gok gmul
  exact ⟨pm_lt ((x.1 * y.1 : Nat) - (x.2 * y.2 : Nat)), pm_lt ((x.1 * y.2 : Nat) + (x.2 * y.1 : Nat))⟩
theorem gok_one : gok gone := ⟨by decide, by decide⟩
theorem gok_pow (x : G) : ∀ n, gok (gpow x n)
  | 0 => gok_one
  | n + 1 => gok_mul _ _
theorem pm_int (z : Int) : (pm z : Int) = z % 524287 := by unfold pm; omega
theorem pm_ext {a b : Int} (h : a % 524287 = b % 524287) : pm a = pm b := by unfold pm; rw [h]
theorem pm_of {n : Nat} (h : n < 524287) : pm (n : Int) = n := by unfold pm; omega
theorem gmul_comm (x y : G) : gmul x y = gmul y x := by
  unfold gmul
  rw [Nat.mul_comm x.1 y.1, Nat.mul_comm x.2 y.2, Nat.mul_comm x.1 y.2, Nat.mul_comm x.2 y.1, Int.add_comm]
theorem gmul_one {x : G} (h : gok x) : gmul x gone = x := by
  obtain ⟨a, b⟩ := x
  unfold gmul gone
  simp only [Nat.mul_one, Nat.mul_zero, Int.natCast_zero, Int.sub_zero, Int.zero_add]
  rw [pm_of h.1, pm_of h.2]
theorem mod_l (a b : Int) : (a % 524287 * b) % 524287 = (a * b) % 524287 := by
  rw [Int.mul_emod, Int.emod_emod_of_dvd _ (Int.dvd_refl _), ← Int.mul_emod]
theorem sub_mod (a b c d : Int) (h : a % 524287 = c % 524287) (k : b % 524287 = d % 524287) : (a - b) % 524287 = (c - d) % 524287 := by omega
theorem add_mod (a b c d : Int) (h : a % 524287 = c % 524287) (k : b % 524287 = d % 524287) : (a + b) % 524287 = (c + d) % 524287 := by omega
theorem mod_r (a b : Int) : (b * (a % 524287)) % 524287 = (b * a) % 524287 := by
  rw [Int.mul_comm, mod_l, Int.mul_comm]
theorem gmul_assoc (x y z : G) : gmul (gmul x y) z = gmul x (gmul y z) := by
  obtain ⟨a, b⟩ := x
  obtain ⟨c, d⟩ := y
  obtain ⟨e, f⟩ := z
  unfold gmul
  dsimp only
  refine Prod.ext ?_ ?_ <;> dsimp only
  · apply pm_ext
    simp only [Int.natCast_mul, pm_int]
    rw [sub_mod _ _ _ _ (mod_l _ _) (mod_l _ _), sub_mod _ _ _ _ (mod_r _ _) (mod_r _ _)]
    congr 1
    simp only [Int.sub_mul, Int.mul_sub, Int.add_mul, Int.mul_add, Int.mul_assoc]
    omega
  · apply pm_ext
    simp only [Int.natCast_mul, pm_int]
    rw [add_mod _ _ _ _ (mod_l _ _) (mod_l _ _), add_mod _ _ _ _ (mod_r _ _) (mod_r _ _)]
    congr 1
    simp only [Int.sub_mul, Int.mul_sub, Int.add_mul, Int.mul_add, Int.mul_assoc]
    omega
theorem gpow_add {x : G} (i : Nat) : ∀ j, gpow x (i + j) = gmul (gpow x i) (gpow x j)
  | 0 => (gmul_one (gok_pow x i)).symm
  | j + 1 => by
    show gmul (gpow x (i + j)) x = gmul (gpow x i) (gmul (gpow x j) x)
    rw [gpow_add i j, gmul_assoc]
theorem gpow_mul {x : G} (i : Nat) : ∀ j, gpow (gpow x i) j = gpow x (i * j)
  | 0 => rfl
  | j + 1 => by
    show gmul (gpow (gpow x i) j) (gpow x i) = gpow x (i * (j + 1))
    rw [gpow_mul i j, Nat.mul_succ, gpow_add]
theorem gone_mul {x : G} (h : gok x) : gmul gone x = x := by rw [gmul_comm, gmul_one h]
theorem gpow_one {x : G} (h : gok x) : gpow x 1 = x := gone_mul h
/-- A step of the powers by squares. -/
theorem gpow_step {x : G} (h : gok x) (out : G) (n : Nat) :
    (n % 2 = 1 → gmul (gmul out x) (gpow (gmul x x) (n / 2)) = gmul out (gpow x n)) ∧ (n % 2 = 0 → gmul out (gpow (gmul x x) (n / 2)) = gmul out (gpow x n)) := by
  have h2 : gmul x x = gpow x 2 := by
    show gmul x x = gmul (gmul gone x) x
    rw [gone_mul h]
  refine ⟨fun hn => ?_, fun hn => ?_⟩
  · rw [h2, gpow_mul, gmul_assoc]
    congr 1
    have : gpow x n = gpow x (1 + 2 * (n / 2)) := by congr 1; omega
    rw [this, gpow_add, gpow_one h]
  · rw [h2, gpow_mul]
    congr 2; omega
end Go.Proofs.Yteigenmhfgldfaa
