/-
  Ptk: PathRises answers true.
-/
import Derived.Test.YtbfcggcfabkbjaaPti
namespace Go.Proofs.Ytbfcggcfabkbjaa
open Go.RowKit Go.Shelf

theorem less_app (p x y : List UInt8) : Op.bytesLess (p ++ x) (p ++ y) = Op.bytesLess x y := by
  induction p with
  | nil => rfl
  | cons c p ih =>
    simp only [List.cons_append, Op.bytesLess]
    rw [ih]
    simp
theorem low_less : ∀ (k a b : Nat), Op.bytesLess (low k a) (low k b) = decide (a % 10 ^ k < b % 10 ^ k)
  | 0, a, b => by simp [low, Op.bytesLess, Nat.mod_one]
  | k + 1, a, b => by
    unfold low Op.bytesLess
    rw [low_less k a b]
    have ha := Nat.mod_pow_succ (b := 10) (k := k) (x := a)
    have hb := Nat.mod_pow_succ (b := 10) (k := k) (x := b)
    rw [ha, hb]
    have hA := Nat.mod_lt a (Nat.pow_pos (n := k) (show 0 < 10 by decide))
    have hB := Nat.mod_lt b (Nat.pow_pos (n := k) (show 0 < 10 by decide))
    generalize a % 10 ^ k = r at *
    generalize b % 10 ^ k = s at *
    have hx : a / 10 ^ k % 10 < 10 := Nat.mod_lt _ (by decide)
    have hy : b / 10 ^ k % 10 < 10 := Nat.mod_lt _ (by decide)
    generalize a / 10 ^ k % 10 = x at *
    generalize b / 10 ^ k % 10 = y at *
    generalize 10 ^ k = T at *
    have hxy : ∀ u v : Nat, u < 10 → v < 10 → (UInt8.ofNat (48 + u) < UInt8.ofNat (48 + v) ↔ u < v) := by
      intro u v hu hv
      rw [UInt8.lt_iff_toNat_lt, UInt8.toNat_ofNat', UInt8.toNat_ofNat']
      omega
    have heq : (UInt8.ofNat (48 + x) == UInt8.ofNat (48 + y)) = decide (x = y) := by
      rw [Bool.eq_iff_iff]
      simp only [beq_iff_eq, decide_eq_true_eq]
      constructor
      · intro h
        have := congrArg UInt8.toNat h
        rw [UInt8.toNat_ofNat', UInt8.toNat_ofNat'] at this
        omega
      · rintro rfl; rfl
    rw [heq, decide_eq_decide.2 (hxy x y hx hy)]
    rcases Nat.lt_trichotomy x y with h | h | h
    · have h1 := Nat.mul_le_mul_left T (show x + 1 ≤ y by omega)
      rw [Nat.mul_succ] at h1
      rw [decide_eq_true h, decide_eq_true (show r + T * x < s + T * y by omega)]
      rfl
    · subst h
      rw [decide_eq_false (Nat.lt_irrefl x), decide_eq_true rfl]
      simp
    · have h1 := Nat.mul_le_mul_left T (show y + 1 ≤ x by omega)
      rw [Nat.mul_succ] at h1
      rw [decide_eq_false (show ¬ x < y by omega), decide_eq_false (show ¬ x = y by omega), decide_eq_false (show ¬ r + T * x < s + T * y by omega)]
      rfl
theorem low_inj {a b : Nat} (ha : a < 10 ^ 10) (hb : b < 10 ^ 10) (h : low 10 a = low 10 b) : a = b := by
  have h1 := low_less 10 a b
  have h2 := low_less 10 b a
  rw [h] at h1
  rw [h] at h2
  rw [Nat.mod_eq_of_lt ha, Nat.mod_eq_of_lt hb] at h1 h2
  have h0 := low_less 10 b b
  rw [h0] at h1 h2
  simp at h1 h2
  omega

set_option maxRecDepth 8000 in
set_option maxHeartbeats 3200000 in
theorem rises_both (P X Y : ByteArray) (a b : Int) (w : World)
    (cx : ∀ W, Calls Try.prog 12 #[.string P, .int .i64 a] W fun e w' => e = .returned (.tuple #[.string X, .bool true]) ∧ Fr NoB W w')
    (cy : ∀ W, Calls Try.prog 12 #[.string P, .int .i64 b] W fun e w' => e = .returned (.tuple #[.string Y, .bool true]) ∧ Fr NoB W w')
    (cp : ∀ W, Calls Try.prog 13 #[.string X, .string P] W fun e w' => e = .returned (.bool true) ∧ Fr NoB W w')
    (cc : ∀ W, Calls Try.prog 9 #[.string X] W fun e w' => e = .returned (.bool true) ∧ Fr NoB W w')
    (hx : X.size = P.size + 10) (hy : Y.size = P.size + 10) (hP : P.size ≤ 200) (hl : Op.bytesLess X.toList Y.toList = decide (a < b)) (he : (X.toList == Y.toList) = (a == b)) :
    Calls Try.prog 4 #[.string P, .int .i64 a, .int .i64 b] w fun e w' => e = .returned (.bool true) ∧ Fr NoB w w' := by
  have hf : Fr NoB w w := Fr.refl _ _
  go_enter Try.func4, Try.ntmps4
  go_wp2_with (first | (with_reducible refine (awake_calls _).mono ?_; rintro e w1 ⟨rfl, f⟩; replace hf := hf.then f; clear f) | (with_reducible refine (cx _).mono ?_; rintro e w1 ⟨rfl, f⟩; replace hf := hf.then f; clear f) | (with_reducible refine (cy _).mono ?_; rintro e w1 ⟨rfl, f⟩; replace hf := hf.then f; clear f) | (with_reducible refine (cp _).mono ?_; rintro e w1 ⟨rfl, f⟩; replace hf := hf.then f; clear f) | (with_reducible refine (cc _).mono ?_; rintro e w1 ⟨rfl, f⟩; replace hf := hf.then f; clear f))
  all_goals go_ret
  all_goals exact ⟨rfl, hf⟩

set_option maxRecDepth 8000 in
set_option maxHeartbeats 3200000 in
theorem rises_not (P X Y : ByteArray) (a b : Int) (x y : Bool) (w : World)
    (cx : ∀ W, Calls Try.prog 12 #[.string P, .int .i64 a] W fun e w' => e = .returned (.tuple #[.string X, .bool x]) ∧ Fr NoB W w')
    (cy : ∀ W, Calls Try.prog 12 #[.string P, .int .i64 b] W fun e w' => e = .returned (.tuple #[.string Y, .bool y]) ∧ Fr NoB W w')
    (hxy : x = true → y = true → False) (hx : x = false → X.toList.isEmpty = true) (hy : y = false → Y.toList.isEmpty = true) :
    Calls Try.prog 4 #[.string P, .int .i64 a, .int .i64 b] w fun e w' => e = .returned (.bool true) ∧ Fr NoB w w' := by
  have hf : Fr NoB w w := Fr.refl _ _
  cases x <;> cases y <;> (try exact (hxy rfl rfl).elim) <;> (try replace hx := hx rfl) <;> (try replace hy := hy rfl)
  all_goals clear hxy
  all_goals (go_enter Try.func4, Try.ntmps4; go_wp2_with (first | (with_reducible refine (awake_calls _).mono ?_; rintro e w1 ⟨rfl, f⟩; replace hf := hf.then f; clear f) | (with_reducible refine (cx _).mono ?_; rintro e w1 ⟨rfl, f⟩; replace hf := hf.then f; clear f) | (with_reducible refine (cy _).mono ?_; rintro e w1 ⟨rfl, f⟩; replace hf := hf.then f; clear f)))
  all_goals go_ret
  all_goals exact ⟨rfl, hf⟩

theorem num_cases (p : List UInt8) (n : Int) : (num p n = ([], false)) ∨ (0 ≤ n ∧ n ≤ 2147483647 ∧ chk (p ++ low 10 n.toNat) = true ∧ num p n = (p ++ low 10 n.toNat, true)) := by
  unfold num
  by_cases h : 0 ≤ n ∧ n ≤ 2147483647 ∧ chk (p ++ low 10 n.toNat) = true
  · rw [if_pos h]; exact .inr ⟨h.1, h.2.1, h.2.2, rfl⟩
  · rw [if_neg h]; exact .inl rfl
theorem rises_walk (p : List UInt8) (a b : Int) (w : World) (hl : p.length ≤ 140737488355328) :
    Calls Try.prog 4 #[.string ⟨p.toArray⟩, .int .i64 a, .int .i64 b] w fun e w' => e = .returned (.bool true) ∧ Fr NoB w w' := by
  have ca := fun W => number_calls p a W hl
  have cb := fun W => number_calls p b W hl
  rcases num_cases p a with ha | ⟨a1, a2, a3, ha⟩
  · rcases num_cases p b with hb | ⟨b1, b2, b3, hb⟩
    · rw [ha] at ca
      rw [hb] at cb
      exact rises_not _ _ _ a b false false w ca cb (by decide) (fun _ => by simp) (fun _ => by simp)
    · rw [ha] at ca
      rw [hb] at cb
      exact rises_not _ _ _ a b false true w ca cb (by decide) (fun _ => by simp) (fun h => by cases h)
  · rcases num_cases p b with hb | ⟨b1, b2, b3, hb⟩
    · rw [ha] at ca
      rw [hb] at cb
      exact rises_not _ _ _ a b true false w ca cb (by decide) (fun h => by cases h) (fun _ => by simp)
    · rw [ha] at ca
      rw [hb] at cb
      have hpl := (chk_slash a3).2
      rw [List.length_append, low_length] at hpl
      refine rises_both _ _ _ a b w ca cb (fun W => ?_) (fun W => ?_) ?_ ?_ ?_ ?_ ?_
      · refine (Try.strings_HasPrefix (ByteArray.mk (p ++ low 10 a.toNat).toArray) (ByteArray.mk p.toArray) W).mono fun e w' h => ⟨?_, ?_⟩
        · rw [h.1]; simp [Lib.hasPrefix]
        · rw [h.2]; exact Fr.refl _ _
      · have := check_calls (p ++ low 10 a.toNat) W (by simp; omega)
        rwa [a3] at this
      · rw [mk_size, mk_size]; simp
      · rw [mk_size, mk_size]; simp
      · rw [mk_size]; omega
      · have := low_less 10 a.toNat b.toNat
        rw [Nat.mod_eq_of_lt (by omega), Nat.mod_eq_of_lt (by omega)] at this
        simp only [ByteArray.toList_mk, less_app, this]
        exact decide_eq_decide.2 (by omega)
      · simp only [ByteArray.toList_mk]
        rw [Bool.eq_iff_iff]
        simp only [beq_iff_eq]
        constructor
        · intro h
          have := low_inj (a := a.toNat) (b := b.toNat) (by omega) (by omega) (List.append_cancel_left h)
          omega
        · rintro rfl; rfl
end Go.Proofs.Ytbfcggcfabkbjaa
