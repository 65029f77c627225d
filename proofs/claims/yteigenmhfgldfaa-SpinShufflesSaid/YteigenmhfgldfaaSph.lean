/-
  Sph: spin's Power.
-/
import Derived.Test.YteigenmhfgldfaaSpe
import Derived.Test.YteigenmhfgldfaaFle
import Derived.ScopeJumps
import Derived.WalkMore
namespace Go.Proofs.Yteigenmhfgldfaa
open Go.RowKit Ieee

/-- A right number as a value. -/
abbrev gv (x : G) : Value := .complex .f64 (fw false x.1) (fw false x.2)
theorem times_g (x y : G) (hx : gok x) (hy : gok y) (w : World) :
    Calls Try.prog 10 #[gv x, gv y] w fun e w' => e = .returned (.tuple #[gv (gmul x y), .bool true]) ∧ Fr NoB w w' :=
  times_calls x.1 x.2 y.1 y.2 w hx.1 hx.2 hy.1 hy.2
theorem i64_and1 (n : Int) : bits .and .i64 n 1 = n % 2 := by
  have h127 : (BitVec.ofInt 64 1).toNat = 2 ^ 1 - 1 := by decide
  have key : (BitVec.ofInt 64 n &&& BitVec.ofInt 64 1).toNat = (n % ((2 ^ 64 : Nat) : Int)).toNat % 2 ^ 1 := by
    rw [BitVec.toNat_and, BitVec.toNat_ofInt, h127, Nat.and_two_pow_sub_one_eq_mod]
  show IntKind.i64.wrap ((BitVec.ofInt 64 n &&& BitVec.ofInt 64 1).toNat : Nat) = n % 2
  rw [key, IntKind.wrap_i64]
  omega

set_option maxRecDepth 8000 in
theorem power_calls (x : G) (hx : gok x) (N : Nat) (hN : N ≤ 9223372036854775807) (w : World) :
    Calls Try.prog 13 #[gv x, .int .i64 (N : Int)] w fun e w' => e = .returned (.tuple #[gv (gpow x N), .bool true]) ∧ Fr NoB w w' := by
  have hr := fun W => right_calls x.1 x.2 W hx.1 hx.2
  show Calls Try.prog 13 #[.complex .f64 (fw false x.1) (fw false x.2), .int .i64 (N : Int)] w _
  go_enter Try.func13, Try.ntmps13
  go_wp2_with fail
  refine wp_scope_jumps 0 (fun a' w' => ∃ (o y : G) (m : Nat) (u2 u3 u4 u5 u7 u8 u9 u10 u11 u12 u13 u14 u15 u16 u17 u18 u19 u20 u21 u22 u23 u24 u25 u26 u27 u28 u29 u30 u31 u32 u33 g6 : Value), a' = { tmps := #[gv y, .int .i64 (m : Int), u2, u3, u4, u5, g6, u7, u8, u9, u10, u11, u12, u13, u14, u15, u16, u17, u18, u19, u20, u21, u22, u23, u24, u25, u26, u27, u28, u29, u30, u31, u32, u33], defers := [] } ∧ g6 = gv o ∧ gok y ∧ gok o ∧ gmul o (gpow y m) = gpow x N ∧ m ≤ N ∧ Fr NoB w w') (fun a' _ => (intOf (a'.tmps.getD 1 undef)).toNat) rfl ?_ ?_
  · have hf : Fr NoB w w := Fr.refl _ _
    have hg1 : gv gone = .complex .f64 4607182418800017408 0 := by unfold gv gone; rw [fw1, fw00]
    by_cases h0 : N = 0
    · subst h0
      have hg : gv (gpow x 0) = .complex .f64 4607182418800017408 0 := hg1
      go_wp2_with ((with_reducible refine (hr _).mono ?_); rintro e w1 ⟨rfl, rfl⟩)
      go_step3
      go_wp2
      simp only [Exit.jump]
      go_ret2
      exact ⟨by rw [hg]; rfl, Fr.refl _ _⟩
    · have hN0 : ((N : Int) == 0) = false := by rw [beq_eq_false_iff_ne]; omega
      have hNp : (0 : Int) < (N : Int) := by omega
      have t2 := fun W => times_g x x hx hx W
      obtain ⟨st1, st2⟩ := gpow_step hx gone N
      rcases Nat.mod_two_eq_zero_or_one N with he | he
      · have hb : bits .and .i64 (N : Int) 1 = 0 := by rw [i64_and1]; omega
        go_wp2_with ((with_reducible refine (hr _).mono ?_); rintro e w1 ⟨rfl, rfl⟩)
        go_step3
        go_wp2_with ((with_reducible refine (t2 _).mono ?_); rintro e w2 ⟨rfl, f⟩; replace hf := hf.then f; clear f t2)
        go_step3
        rw [show ((N : Int) / 2) = ((N / 2 : Nat) : Int) by omega]
        refine ⟨rfl, gone, gmul x x, N / 2, _, _, _, _, _, _, _, _, _, _, _, _, _, _, _, _, _, _, _, _, _, _, _, _, _, _, _, _, _, _, _, _, rfl, hg1.symm, gok_mul _ _, gok_one, ?_, by omega, hf⟩
        · rw [st2 he]; exact gone_mul (gok_pow x N)
      · have hb : bits .and .i64 (N : Int) 1 = 1 := by rw [i64_and1]; omega
        have t1 := fun W => times_g gone x gok_one hx W
        rw [hg1] at t1
        go_wp2_with ((with_reducible refine (hr _).mono ?_); rintro e w1 ⟨rfl, rfl⟩)
        go_step3
        go_wp2_with (first | ((with_reducible refine (t1 _).mono ?_); rintro e w2 ⟨rfl, f⟩; replace hf := hf.then f; clear f t1) | ((with_reducible refine (t2 _).mono ?_); rintro e w2 ⟨rfl, f⟩; replace hf := hf.then f; clear f t2))
        go_step3
        rw [show ((N : Int) / 2) = ((N / 2 : Nat) : Int) by omega]
        refine ⟨rfl, gmul gone x, gmul x x, N / 2, _, _, _, _, _, _, _, _, _, _, _, _, _, _, _, _, _, _, _, _, _, _, _, _, _, _, _, _, _, _, _, _, rfl, rfl, gok_mul _ _, gok_mul _ _, ?_, by omega, hf⟩
        rw [st1 he]; exact gone_mul (gok_pow x N)
  · rintro a' w' ⟨o, y, m, u2, u3, u4, u5, u7, u8, u9, u10, u11, u12, u13, u14, u15, u16, u17, u18, u19, u20, u21, u22, u23, u24, u25, u26, u27, u28, u29, u30, u31, u32, u33, g6, rfl, rfl, hy, ho, hinv, hm, hf⟩
    by_cases h0 : m = 0
    · subst h0
      have hg : gv o = gv (gpow x N) := by rw [← hinv]; exact congrArg gv (gmul_one ho).symm
      go_wp2
      simp only [Exit.jump]
      go_ret2
      exact ⟨by rw [← hg]; rfl, hf⟩
    · have hN0 : ((m : Int) == 0) = false := by rw [beq_eq_false_iff_ne]; omega
      have hNp : (0 : Int) < (m : Int) := by omega
      have t2 := fun W => times_g y y hy hy W
      obtain ⟨st1, st2⟩ := gpow_step hy o m
      rcases Nat.mod_two_eq_zero_or_one m with he | he
      · have hb : bits .and .i64 (m : Int) 1 = 0 := by rw [i64_and1]; omega
        go_wp2_with ((with_reducible refine (t2 _).mono ?_); rintro e w2 ⟨rfl, f⟩; replace hf := hf.then f; clear f t2)
        go_step3
        rw [show ((m : Int) / 2) = ((m / 2 : Nat) : Int) by omega]
        refine ⟨rfl, ⟨o, gmul y y, m / 2, _, _, _, _, _, _, _, _, _, _, _, _, _, _, _, _, _, _, _, _, _, _, _, _, _, _, _, _, _, _, _, _, rfl, rfl, gok_mul _ _, ho, ?_, by omega, hf⟩, ?_⟩
        · rw [st2 he]; exact hinv
        · simp [intOf]; omega
      · have hb : bits .and .i64 (m : Int) 1 = 1 := by rw [i64_and1]; omega
        have t1 := fun W => times_g o y ho hy W
        go_wp2_with (first | ((with_reducible refine (t1 _).mono ?_); rintro e w2 ⟨rfl, f⟩; replace hf := hf.then f; clear f t1) | ((with_reducible refine (t2 _).mono ?_); rintro e w2 ⟨rfl, f⟩; replace hf := hf.then f; clear f t2))
        go_step3
        rw [show ((m : Int) / 2) = ((m / 2 : Nat) : Int) by omega]
        refine ⟨rfl, ⟨gmul o y, gmul y y, m / 2, _, _, _, _, _, _, _, _, _, _, _, _, _, _, _, _, _, _, _, _, _, _, _, _, _, _, _, _, _, _, _, _, rfl, rfl, gok_mul _ _, gok_mul _ _, ?_, by omega, hf⟩, ?_⟩
        · rw [st1 he]; exact hinv
        · simp [intOf]; omega
end Go.Proofs.Yteigenmhfgldfaa
