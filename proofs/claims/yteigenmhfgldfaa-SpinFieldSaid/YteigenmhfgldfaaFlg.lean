/-
  Flg: whole complex numbers; powers of a sum; to the prime's power modulo the prime. No program in sight.
-/
import Derived.Test.YteigenmhfgldfaaFlf
namespace Go.Proofs.Yteigenmhfgldfaa

abbrev Z := Int × Int
def zmul (x y : Z) : Z := (x.1 * y.1 - x.2 * y.2, x.1 * y.2 + x.2 * y.1)
def zadd (x y : Z) : Z := (x.1 + y.1, x.2 + y.2)
def zsc (c : Nat) (x : Z) : Z := ((c : Int) * x.1, (c : Int) * x.2)
def zpow (x : Z) : Nat → Z
  | 0 => (1, 0)
  | n + 1 => zmul (zpow x n) x
def zsum (f : Nat → Z) : Nat → Z
  | 0 => (0, 0)
  | n + 1 => zadd (zsum f n) (f n)
theorem zext {x y : Z} (h1 : x.1 = y.1) (h2 : x.2 = y.2) : x = y := Prod.ext h1 h2
theorem zadd_comm (x y : Z) : zadd x y = zadd y x := zext (Int.add_comm _ _) (Int.add_comm _ _)
theorem zadd_assoc (x y z : Z) : zadd (zadd x y) z = zadd x (zadd y z) := zext (Int.add_assoc _ _ _) (Int.add_assoc _ _ _)
theorem zadd_zero (x : Z) : zadd x (0, 0) = x := zext (Int.add_zero _) (Int.add_zero _)
theorem zzero_add (x : Z) : zadd (0, 0) x = x := zext (Int.zero_add _) (Int.zero_add _)
theorem zmul_comm (x y : Z) : zmul x y = zmul y x := by
  unfold zmul
  refine zext ?_ ?_ <;> dsimp only
  · rw [Int.mul_comm x.1, Int.mul_comm x.2]
  · rw [Int.mul_comm x.1, Int.mul_comm x.2, Int.add_comm]
theorem zmul_assoc (x y z : Z) : zmul (zmul x y) z = zmul x (zmul y z) := by
  unfold zmul
  refine zext ?_ ?_ <;> dsimp only
  · simp only [Int.sub_mul, Int.mul_sub, Int.add_mul, Int.mul_add, Int.mul_assoc]
    omega
  · simp only [Int.sub_mul, Int.mul_sub, Int.add_mul, Int.mul_add, Int.mul_assoc]
    omega
theorem zmul_add (x y z : Z) : zmul x (zadd y z) = zadd (zmul x y) (zmul x z) := by
  unfold zmul zadd
  refine zext ?_ ?_ <;> dsimp only
  · simp only [Int.mul_add]; omega
  · simp only [Int.mul_add]; omega
theorem zadd_mul (x y z : Z) : zmul (zadd x y) z = zadd (zmul x z) (zmul y z) := by
  rw [zmul_comm, zmul_add, zmul_comm z x, zmul_comm z y]
theorem zsc_mul (c : Nat) (x y : Z) : zmul (zsc c x) y = zsc c (zmul x y) := by
  unfold zmul zsc
  refine zext ?_ ?_ <;> dsimp only
  · rw [Int.mul_sub, Int.mul_assoc, Int.mul_assoc]
  · rw [Int.mul_add, Int.mul_assoc, Int.mul_assoc]
theorem zsc_add (c d : Nat) (x : Z) : zsc (c + d) x = zadd (zsc c x) (zsc d x) := by
  unfold zadd zsc
  refine zext ?_ ?_ <;> dsimp only
  · rw [Int.natCast_add, Int.add_mul]
  · rw [Int.natCast_add, Int.add_mul]
theorem zsc_zero (x : Z) : zsc 0 x = (0, 0) := by unfold zsc; simp
theorem zsum_mul (f : Nat → Z) (y : Z) : ∀ n, zmul (zsum f n) y = zsum (fun k => zmul (f k) y) n
  | 0 => by unfold zmul zsum; simp
  | n + 1 => by
    show zmul (zadd (zsum f n) (f n)) y = zadd (zsum (fun k => zmul (f k) y) n) (zmul (f n) y)
    rw [zadd_mul, zsum_mul f y n]
theorem zsum_add (f g : Nat → Z) : ∀ n, zadd (zsum f n) (zsum g n) = zsum (fun k => zadd (f k) (g k)) n
  | 0 => rfl
  | n + 1 => by
    show zadd (zadd (zsum f n) (f n)) (zadd (zsum g n) (g n)) = zadd (zsum (fun k => zadd (f k) (g k)) n) (zadd (f n) (g n))
    rw [← zsum_add f g n]
    refine zext ?_ ?_ <;> simp only [zadd] <;> omega
theorem zsum_shift (f : Nat → Z) : ∀ n, zsum f (n + 1) = zadd (f 0) (zsum (fun k => f (k + 1)) n)
  | 0 => by
    show zadd (0, 0) (f 0) = zadd (f 0) (0, 0)
    rw [zadd_comm]
  | n + 1 => by
    show zadd (zsum f (n + 1)) (f (n + 1)) = zadd (f 0) (zadd (zsum (fun k => f (k + 1)) n) (f (n + 1)))
    rw [zsum_shift f n, zadd_assoc]
theorem zsum_ext {f g : Nat → Z} : ∀ n, (∀ k, k < n → f k = g k) → zsum f n = zsum g n
  | 0, _ => rfl
  | n + 1, h => by
    show zadd (zsum f n) (f n) = zadd (zsum g n) (g n)
    rw [zsum_ext n (fun k hk => h k (by omega)), h n (by omega)]
theorem cho_z (n : Nat) : cho n 0 = 1 := by cases n <;> rfl
/-- A term of a power of a sum. -/
def term (x y : Z) (n k : Nat) : Z := zsc (cho n k) (zmul (zpow x k) (zpow y (n - k)))
theorem binom (x y : Z) : ∀ n, zpow (zadd x y) n = zsum (term x y n) (n + 1)
  | 0 => by
    show ((1, 0) : Z) = zadd (0, 0) (term x y 0 0)
    unfold term zsc zmul zadd
    simp [zpow, cho]
  | n + 1 => by
    show zmul (zpow (zadd x y) n) (zadd x y) = _
    rw [binom x y n, zmul_add, zsum_mul, zsum_mul, zsum_shift (term x y (n + 1))]
    have h1 : zsum (fun k => term x y (n + 1) (k + 1)) (n + 1) = zadd (zsum (fun k => zmul (term x y n k) x) (n + 1)) (zsum (fun k => zsc (cho n (k + 1)) (zmul (zpow x (k + 1)) (zpow y (n - k)))) (n + 1)) := by
      rw [zsum_add]
      refine zsum_ext _ fun k hk => ?_
      unfold term
      rw [show cho (n + 1) (k + 1) = cho n k + cho n (k + 1) from rfl, zsc_add, show n + 1 - (k + 1) = n - k by omega]
      congr 1
      rw [zsc_mul, zmul_assoc, zmul_comm (zpow y (n - k)) x, ← zmul_assoc]
      rfl
    have h2 : zsum (fun k => zmul (term x y n k) y) (n + 1) = zadd (term x y (n + 1) 0) (zsum (fun k => zsc (cho n (k + 1)) (zmul (zpow x (k + 1)) (zpow y (n - k)))) (n + 1)) := by
      rw [zsum_shift]
      have h3 : zsum (fun k => zsc (cho n (k + 1)) (zmul (zpow x (k + 1)) (zpow y (n - k)))) (n + 1) = zsum (fun k => zmul (term x y n (k + 1)) y) n := by
        show zadd (zsum _ n) (zsc (cho n (n + 1)) _) = _
        rw [cho_zero n (n + 1) (by omega), zsc_zero, zadd_zero]
        refine zsum_ext _ fun k hk => ?_
        unfold term
        rw [zsc_mul, zmul_assoc]
        congr 2
        rw [show n - k = (n - (k + 1)) + 1 by omega]
        rfl
      rw [h3]
      congr 1
      unfold term
      rw [zsc_mul, cho_z, cho_z, zmul_assoc]
      rfl
    rw [h1, h2, ← zadd_assoc, ← zadd_assoc, zadd_comm (zsum (fun k => zmul (term x y n k) x) (n + 1))]
/-- Modulo the prime. -/
def zeq (x y : Z) : Prop := x.1 % 524287 = y.1 % 524287 ∧ x.2 % 524287 = y.2 % 524287
theorem zsum_small (f : Nat → Z) : ∀ n, (∀ k, k < n → zeq (f k) (0, 0)) → zeq (zsum f n) (0, 0)
  | 0, _ => ⟨rfl, rfl⟩
  | n + 1, h => by
    obtain ⟨h1, h2⟩ := zsum_small f n (fun k hk => h k (by omega))
    obtain ⟨h3, h4⟩ := h n (by omega)
    unfold zeq at *
    show ((zsum f n).1 + (f n).1) % 524287 = 0 % 524287 ∧ ((zsum f n).2 + (f n).2) % 524287 = 0 % 524287
    dsimp only at *
    omega
theorem zone_mul (x : Z) : zmul (1, 0) x = x := by
  unfold zmul
  refine zext ?_ ?_ <;> simp
theorem zsc_one (x : Z) : zsc 1 x = x := by
  unfold zsc
  refine zext ?_ ?_ <;> simp
theorem term_zero (x y : Z) (n : Nat) : term x y n 0 = zpow y n := by
  unfold term
  rw [cho_z, zsc_one, Nat.sub_zero]
  exact zone_mul _
theorem term_self (x y : Z) (n : Nat) : term x y n n = zpow x n := by
  unfold term
  rw [cho_self, zsc_one, Nat.sub_self, zmul_comm]
  exact zone_mul _
/-- Powers of a sum, to the prime. -/
theorem fresh (x y : Z) : zeq (zpow (zadd x y) 524287) (zadd (zpow x 524287) (zpow y 524287)) := by
  rw [binom, zsum_shift]
  show zeq (zadd (term x y 524287 0) (zadd (zsum (fun k => term x y 524287 (k + 1)) 524286) (term x y 524287 524287))) _
  have h0 := term_zero x y 524287
  have h1 := term_self x y 524287
  have h2 : zeq (zsum (fun k => term x y 524287 (k + 1)) 524286) (0, 0) := zsum_small _ _ fun k hk => by
    have hc := cho_prime (k + 1) (by omega) (by omega)
    obtain ⟨c, hc⟩ := Nat.dvd_of_mod_eq_zero hc
    unfold term
    rw [hc]
    generalize zmul (zpow x (k + 1)) (zpow y (524287 - (k + 1))) = t
    unfold zeq zsc
    dsimp only
    rw [Int.natCast_mul, Int.mul_assoc, Int.mul_assoc]
    constructor <;> omega
  rw [h0, h1]
  obtain ⟨h3, h4⟩ := h2
  unfold zeq zadd
  dsimp only at *
  constructor <;> omega
end Go.Proofs.Yteigenmhfgldfaa
