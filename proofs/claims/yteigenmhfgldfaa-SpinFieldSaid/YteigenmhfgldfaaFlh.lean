/-
  Flh: right numbers to the prime's power are their conjugates; a number that is not zero times its power is one. No program in sight.
-/
import Derived.Test.YteigenmhfgldfaaFlg
namespace Go.Proofs.Yteigenmhfgldfaa

theorem zeq_refl (x : Z) : zeq x x := ⟨rfl, rfl⟩
theorem zeq.symm {x y : Z} (h : zeq x y) : zeq y x := ⟨h.1.symm, h.2.symm⟩
theorem zeq.trans {x y z : Z} (h : zeq x y) (g : zeq y z) : zeq x z := ⟨h.1.trans g.1, h.2.trans g.2⟩
theorem mul_mod2 {a b c d : Int} (h : a % 524287 = c % 524287) (g : b % 524287 = d % 524287) : (a * b) % 524287 = (c * d) % 524287 := by
  rw [Int.mul_emod, h, g, ← Int.mul_emod]
theorem zeq_mul {x y u v : Z} (h : zeq x u) (g : zeq y v) : zeq (zmul x y) (zmul u v) := by
  unfold zmul
  exact ⟨sub_mod _ _ _ _ (mul_mod2 h.1 g.1) (mul_mod2 h.2 g.2), add_mod _ _ _ _ (mul_mod2 h.1 g.2) (mul_mod2 h.2 g.1)⟩
theorem zeq_add {x y u v : Z} (h : zeq x u) (g : zeq y v) : zeq (zadd x y) (zadd u v) :=
  ⟨add_mod _ _ _ _ h.1 g.1, add_mod _ _ _ _ h.2 g.2⟩
theorem zeq_pow {x y : Z} (h : zeq x y) : ∀ n, zeq (zpow x n) (zpow y n)
  | 0 => zeq_refl _
  | n + 1 => zeq_mul (zeq_pow h n) h
theorem zpow_real (a : Int) : ∀ n, zpow (a, 0) n = (a ^ n, 0)
  | 0 => by simp [zpow]
  | n + 1 => by
    show zmul (zpow (a, 0) n) (a, 0) = _
    rw [zpow_real a n]
    unfold zmul
    refine zext ?_ ?_ <;> simp [Int.pow_succ]
theorem zpow_add (x : Z) (i : Nat) : ∀ j, zpow x (i + j) = zmul (zpow x i) (zpow x j)
  | 0 => by
    show zpow x i = zmul (zpow x i) (1, 0)
    rw [zmul_comm, zone_mul]
  | j + 1 => by
    show zmul (zpow x (i + j)) x = zmul (zpow x i) (zmul (zpow x j) x)
    rw [zpow_add x i j, zmul_assoc]
theorem zpow_mul (x : Z) (i : Nat) : ∀ j, zpow (zpow x i) j = zpow x (i * j)
  | 0 => rfl
  | j + 1 => by
    show zmul (zpow (zpow x i) j) (zpow x i) = zpow x (i * (j + 1))
    rw [zpow_mul x i j, Nat.mul_succ, zpow_add]
theorem zpow_one (x : Z) : zpow x 1 = x := zone_mul x
/-- Fermat, of naturals. -/
theorem fermat_nat : ∀ a : Nat, ((a : Int) ^ 524287) % 524287 = (a : Int) % 524287
  | 0 => by rw [show ((0 : Nat) : Int) = 0 from rfl, Int.zero_pow (by decide)]
  | a + 1 => by
    have h := (fresh ((a : Int), 0) (1, 0)).1
    have e : zadd ((a : Int), 0) (1, 0) = (((a + 1 : Nat) : Int), 0) := by unfold zadd; refine zext ?_ ?_ <;> simp
    rw [e, zpow_real, zpow_real, zpow_real, Int.one_pow] at h
    have ih := fermat_nat a
    unfold zadd at h
    dsimp only at h
    rw [h, Int.add_emod, ih, ← Int.add_emod]
    rfl
theorem fermat (z : Int) : (z ^ 524287) % 524287 = z % 524287 := by
  have h := fermat_nat (pm z)
  rw [pm_int] at h
  have e : zeq ((z % 524287), 0) (z, 0) := ⟨Int.emod_emod_of_dvd _ (Int.dvd_refl _), rfl⟩
  have h2 := (zeq_pow e 524287).1
  rw [zpow_real, zpow_real] at h2
  dsimp only at h2
  rw [← h2, h, Int.emod_emod_of_dvd _ (Int.dvd_refl _)]
/-- A number to the prime's power is its conjugate. -/
theorem frob (a b : Int) : zeq (zpow (a, b) 524287) (a, -b) := by
  have h := fresh (a, 0) (0, b)
  have e : zadd (a, 0) (0, b) = (a, b) := by unfold zadd; refine zext ?_ ?_ <;> simp
  rw [e, zpow_real] at h
  have hb4 : zpow (0, b) 4 = (b ^ 4, 0) := by
    show zmul (zmul (zmul (zmul (1, 0) (0, b)) (0, b)) (0, b)) (0, b) = _
    unfold zmul
    refine zext ?_ ?_ <;> simp [Int.pow_succ, Int.neg_mul]
  have hb3 : zpow (0, b) 3 = (0, -(b ^ 3)) := by
    show zmul (zmul (zmul (1, 0) (0, b)) (0, b)) (0, b) = _
    unfold zmul
    refine zext ?_ ?_ <;> simp [Int.pow_succ, Int.neg_mul]
  have hp : zpow (0, b) 524287 = (0, -(b ^ 524287)) := by
    rw [show (524287 : Nat) = 4 * 131071 + 3 by decide, zpow_add, ← zpow_mul, hb4, zpow_real, hb3]
    unfold zmul
    refine zext ?_ ?_ <;> dsimp only
    · simp
    · rw [Int.pow_add, Int.pow_mul]; simp [Int.mul_neg]
  rw [hp] at h
  refine h.trans ?_
  unfold zadd zeq
  dsimp only
  have f1 := fermat a
  have f2 := fermat b
  constructor <;> omega

theorem prime_int {x y : Int} (h : (x * y) % 524287 = 0) : x % 524287 = 0 ∨ y % 524287 = 0 := by
  have h' : ((pm x : Int) * (pm y : Int)) % 524287 = 0 := by rw [pm_int, pm_int, ← Int.mul_emod]; exact h
  have h2 : (pm x * pm y) % 524287 = 0 := by
    rw [← Int.natCast_mul] at h'
    omega
  have l1 := pm_lt x
  have l2 := pm_lt y
  have e1 := pm_int x
  have e2 := pm_int y
  rcases prime_mul h2 with h3 | h3
  · left; omega
  · right; omega
theorem fermat_one {b : Int} (h : b % 524287 ≠ 0) : (b ^ 524286) % 524287 = 1 := by
  have f := fermat b
  rw [show (524287 : Nat) = 524286 + 1 by decide, Int.pow_succ] at f
  have h2 : ((b ^ 524286 - 1) * b) % 524287 = 0 := by
    rw [Int.sub_mul, Int.one_mul]; omega
  rcases prime_int h2 with h3 | h3
  · omega
  · exact absurd h3 h
theorem neg_pow_odd (x : Int) (m : Nat) : (-x) ^ (2 * m + 1) = -(x ^ (2 * m + 1)) := by
  rw [Int.pow_succ, Int.pow_succ, Int.pow_mul, Int.pow_mul, show (-x) ^ 2 = x ^ 2 by simp [Int.pow_succ, Int.neg_mul, Int.mul_neg], Int.mul_neg]
theorem mod_pow {a b : Int} (h : a % 524287 = b % 524287) (n : Nat) : (a ^ n) % 524287 = (b ^ n) % 524287 := by
  have := (zeq_pow (x := (a, 0)) (y := (b, 0)) ⟨h, rfl⟩ n).1
  rwa [zpow_real, zpow_real] at this
/-- The norm of what is not zero is not zero. -/
theorem norm_ne {a b : Int} (h : (a * a + b * b) % 524287 = 0) : a % 524287 = 0 ∧ b % 524287 = 0 := by
  by_cases hb : b % 524287 = 0
  · refine ⟨?_, hb⟩
    have hbb : (b * b) % 524287 = 0 := by rw [Int.mul_emod, hb]; rfl
    have : (a * a) % 524287 = 0 := by omega
    rcases prime_int this with h | h <;> exact h
  · exfalso
    have e : (a * a) % 524287 = (-(b * b)) % 524287 := by omega
    have e2 := mod_pow e 262143
    rw [show (262143 : Nat) = 2 * 131071 + 1 by decide, neg_pow_odd, show (2 * 131071 + 1 : Nat) = 262143 by decide] at e2
    have ha : (a * a) ^ 262143 = a ^ 524286 := by
      rw [show (524286 : Nat) = 2 * 262143 by decide, Int.pow_mul]
      congr 1
      simp [Int.pow_succ]
    have hbp : (b * b) ^ 262143 = b ^ 524286 := by
      rw [show (524286 : Nat) = 2 * 262143 by decide, Int.pow_mul]
      congr 1
      simp [Int.pow_succ]
    rw [ha, hbp] at e2
    have f1 := fermat_one hb
    by_cases ha0 : a % 524287 = 0
    · have : (a ^ 524286) % 524287 = ((0 : Int) ^ 524286) % 524287 := mod_pow (by rw [ha0]; rfl) 524286
      rw [Int.zero_pow (by decide)] at this
      omega
    · have f2 := fermat_one ha0
      omega
/-- A number that is not zero, times its power, is one. -/
theorem inv_z (a b : Int) (h : ¬ zeq (a, b) (0, 0)) : zeq (zmul (a, b) (zpow (a, b) 274876858367)) (1, 0) := by
  have h1 : zeq (zpow (a, b) 274876858369) (a, b) := by
    rw [show (274876858369 : Nat) = 524287 * 524287 by decide, ← zpow_mul]
    refine (zeq_pow (frob a b) 524287).trans ?_
    have := frob a (-b)
    rwa [Int.neg_neg] at this
  rw [show (274876858369 : Nat) = 274876858367 + 1 + 1 by decide] at h1
  obtain ⟨u, hu⟩ : ∃ u : Z, zpow (a, b) (274876858367 + 1) = u := ⟨_, rfl⟩
  have e1 : zpow (a, b) (274876858367 + 1 + 1) = zmul u (a, b) := by rw [← hu]; rfl
  have e2 : zmul (a, b) (zpow (a, b) 274876858367) = u := by rw [← hu, zmul_comm]; rfl
  rw [e1] at h1
  rw [e2]
  have h2 := zeq_mul h1 (zeq_refl (a, -b))
  rw [zmul_assoc] at h2
  have hN : zmul (a, b) (a, -b) = (a * a + b * b, 0) := by
    unfold zmul
    refine zext ?_ ?_ <;> dsimp only
    · rw [Int.mul_neg]; omega
    · rw [Int.mul_neg, Int.mul_comm]; omega
  rw [hN] at h2
  have hNe : (a * a + b * b) % 524287 ≠ 0 := fun hx => h (norm_ne hx)
  generalize a * a + b * b = N at *
  obtain ⟨h3, h4⟩ := h2
  unfold zmul at h3 h4
  simp only [Int.mul_zero, Int.sub_zero, Int.zero_add] at h3 h4
  constructor
  · have : ((u.1 - 1) * N) % 524287 = 0 := by rw [Int.sub_mul, Int.one_mul]; omega
    rcases prime_int this with hx | hx
    · show u.1 % 524287 = 1 % 524287; omega
    · exact absurd hx hNe
  · have : (u.2 * N) % 524287 = 0 := by omega
    rcases prime_int this with hx | hx
    · show u.2 % 524287 = 0 % 524287; omega
    · exact absurd hx hNe

/-! Back to right numbers. -/
def zof (x : G) : Z := ((x.1 : Int), (x.2 : Int))
def gof (z : Z) : G := (pm z.1, pm z.2)
theorem gof_zof {x : G} (h : gok x) : gof (zof x) = x := by
  obtain ⟨a, b⟩ := x
  unfold gof zof
  rw [pm_of h.1, pm_of h.2]
theorem gof_eq {x y : Z} (h : zeq x y) : gof x = gof y := by
  unfold gof
  rw [pm_ext h.1, pm_ext h.2]
theorem gof_mul (x y : Z) : gmul (gof x) (gof y) = gof (zmul x y) := by
  unfold gmul gof zmul
  dsimp only
  refine Prod.ext ?_ ?_ <;> dsimp only
  · apply pm_ext
    simp only [Int.natCast_mul, pm_int]
    exact sub_mod _ _ _ _ (by rw [mod_l, mod_r]) (by rw [mod_l, mod_r])
  · apply pm_ext
    simp only [Int.natCast_mul, pm_int]
    exact add_mod _ _ _ _ (by rw [mod_l, mod_r]) (by rw [mod_l, mod_r])
theorem gof_pow {x : G} (h : gok x) : ∀ n, gpow x n = gof (zpow (zof x) n)
  | 0 => by show gone = gof ((1 : Int), (0 : Int)); decide +kernel
  | n + 1 => by
    show gmul (gpow x n) x = gof (zmul (zpow (zof x) n) (zof x))
    rw [gof_pow h n, ← gof_mul, gof_zof h]
/-- The conjugate. -/
def gconj (x : G) : G := (x.1, pm (-(x.2 : Int)))
theorem gpow_prime {x : G} (h : gok x) : gpow x 524287 = gconj x := by
  rw [gof_pow h]
  refine (gof_eq (frob (x.1 : Int) (x.2 : Int))).trans ?_
  unfold gof gconj
  rw [pm_of h.1]
theorem gpow_inv {x : G} (h : gok x) (hx : x ≠ (0, 0)) : gmul x (gpow x 274876858367) = gone := by
  have := inv_z (x.1 : Int) (x.2 : Int) (fun hz => hx (by
    obtain ⟨h1, h2⟩ := hz
    have l1 := h.1
    have l2 := h.2
    dsimp only at h1 h2
    exact Prod.ext (by show x.1 = 0; omega) (by show x.2 = 0; omega)))
  rw [gof_pow h]
  have e : gmul x (gof (zpow (zof x) 274876858367)) = gof (zmul (zof x) (zpow (zof x) 274876858367)) := by
    rw [← gof_mul, gof_zof h]
  rw [e]
  exact (gof_eq this).trans (by decide +kernel)
end Go.Proofs.Yteigenmhfgldfaa
