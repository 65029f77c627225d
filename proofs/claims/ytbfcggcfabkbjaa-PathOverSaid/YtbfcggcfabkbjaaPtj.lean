/-
  Ptj: PathOver answers true.
-/
import Derived.Test.YtbfcggcfabkbjaaPti
namespace Go.Proofs.Ytbfcggcfabkbjaa
open Go.RowKit Go.Shelf

set_option maxRecDepth 8000 in
set_option maxHeartbeats 3200000 in
theorem over_bools (A B C N J : ByteArray) (w : World) (xab xbc xac xba jj : Bool)
    (cab : ∀ W, Calls Try.prog 7 #[.string A, .string B] W fun e w' => e = .returned (.bool xab) ∧ Fr NoB W w')
    (cbc : ∀ W, Calls Try.prog 7 #[.string B, .string C] W fun e w' => e = .returned (.bool xbc) ∧ Fr NoB W w')
    (cac : ∀ W, Calls Try.prog 7 #[.string A, .string C] W fun e w' => e = .returned (.bool xac) ∧ Fr NoB W w')
    (cba : ∀ W, Calls Try.prog 7 #[.string B, .string A] W fun e w' => e = .returned (.bool xba) ∧ Fr NoB W w')
    (cj : ∀ W, Calls Try.prog 8 #[.string A, .string N] W fun e w' => e = .returned (.string J) ∧ Fr NoB W w')
    (h1 : xab = true → xbc = true → xac = true) (h2 : xab = true → xba = true → (A.toList == B.toList) = true) (h3 : xac = true → xbc = true → xab = true ∨ xba = true)
    (hj : J.toList.isEmpty = jj)
    (hJ : jj = false → (∀ W, Calls Try.prog 9 #[.string A] W fun e w' => e = .returned (.bool true) ∧ Fr NoB W w') ∧
      (∀ W, Calls Try.prog 7 #[.string A, .string J] W fun e w' => e = .returned (.bool true) ∧ Fr NoB W w') ∧
      (∀ W, Calls Try.prog 10 #[.string J] W fun e w' => e = .returned (.string A) ∧ Fr NoB W w') ∧
      (∀ W, Calls Try.prog 11 #[.string J] W fun e w' => e = .returned (.string N) ∧ Fr NoB W w') ∧
      (∀ W, Calls Try.prog 7 #[.string J, .string A] W fun e w' => e = .returned (.bool false) ∧ Fr NoB W w')) :
    Calls Try.prog 3 #[.string A, .string B, .string C, .string N] w fun e w' => e = .returned (.bool true) ∧ Fr NoB w w' := by
  have hf : Fr NoB w w := Fr.refl _ _
  cases jj
  · obtain ⟨d1, d2, d3, d4, d5⟩ := hJ rfl
    clear hJ
    cases xab <;> cases xbc <;> cases xac <;> cases xba <;> (try (exfalso; simp at h1; done)) <;> (try (exfalso; simp at h3; done)) <;> (try replace h2 := h2 rfl rfl)
    all_goals clear h1 h3
    all_goals (go_enter Try.func3, Try.ntmps3; go_wp2_with (first | (with_reducible refine (awake_calls _).mono ?_; rintro e w1 ⟨rfl, f⟩; replace hf := hf.then f; clear f) | (with_reducible refine (cab _).mono ?_; rintro e w1 ⟨rfl, f⟩; replace hf := hf.then f; clear f) | (with_reducible refine (cbc _).mono ?_; rintro e w1 ⟨rfl, f⟩; replace hf := hf.then f; clear f) | (with_reducible refine (cac _).mono ?_; rintro e w1 ⟨rfl, f⟩; replace hf := hf.then f; clear f) | (with_reducible refine (cba _).mono ?_; rintro e w1 ⟨rfl, f⟩; replace hf := hf.then f; clear f) | (with_reducible refine (cj _).mono ?_; rintro e w1 ⟨rfl, f⟩; replace hf := hf.then f; clear f) | (with_reducible refine (d1 _).mono ?_; rintro e w1 ⟨rfl, f⟩; replace hf := hf.then f; clear f) | (with_reducible refine (d2 _).mono ?_; rintro e w1 ⟨rfl, f⟩; replace hf := hf.then f; clear f) | (with_reducible refine (d3 _).mono ?_; rintro e w1 ⟨rfl, f⟩; replace hf := hf.then f; clear f) | (with_reducible refine (d4 _).mono ?_; rintro e w1 ⟨rfl, f⟩; replace hf := hf.then f; clear f) | (with_reducible refine (d5 _).mono ?_; rintro e w1 ⟨rfl, f⟩; replace hf := hf.then f; clear f)))
    all_goals go_ret
    all_goals exact ⟨rfl, hf⟩
  · clear hJ
    cases xab <;> cases xbc <;> cases xac <;> cases xba <;> (try (exfalso; simp at h1; done)) <;> (try (exfalso; simp at h3; done)) <;> (try replace h2 := h2 rfl rfl)
    all_goals clear h1 h3
    all_goals (go_enter Try.func3, Try.ntmps3; go_wp2_with (first | (with_reducible refine (awake_calls _).mono ?_; rintro e w1 ⟨rfl, f⟩; replace hf := hf.then f; clear f) | (with_reducible refine (cab _).mono ?_; rintro e w1 ⟨rfl, f⟩; replace hf := hf.then f; clear f) | (with_reducible refine (cbc _).mono ?_; rintro e w1 ⟨rfl, f⟩; replace hf := hf.then f; clear f) | (with_reducible refine (cac _).mono ?_; rintro e w1 ⟨rfl, f⟩; replace hf := hf.then f; clear f) | (with_reducible refine (cba _).mono ?_; rintro e w1 ⟨rfl, f⟩; replace hf := hf.then f; clear f) | (with_reducible refine (cj _).mono ?_; rintro e w1 ⟨rfl, f⟩; replace hf := hf.then f; clear f)))
    all_goals go_ret
    all_goals exact ⟨rfl, hf⟩

theorem over_walk (a b c n : List UInt8) (w : World) (ha : a.length ≤ 140737488355328) (hb : b.length ≤ 140737488355328) (hc : c.length ≤ 140737488355328) (hn : n.length ≤ 140737488355328) :
    Calls Try.prog 3 #[.string ⟨a.toArray⟩, .string ⟨b.toArray⟩, .string ⟨c.toArray⟩, .string ⟨n.toArray⟩] w fun e w' => e = .returned (.bool true) ∧ Fr NoB w w' := by
  refine over_bools _ _ _ _ ⟨(joi a n).toArray⟩ w (und a b) (und b c) (und a c) (und b a) (joi a n).isEmpty (fun W => under_calls a b W (by omega) (by omega)) (fun W => under_calls b c W (by omega) (by omega)) (fun W => under_calls a c W (by omega) (by omega)) (fun W => under_calls b a W (by omega) (by omega)) (fun W => join_calls a n W (by omega) (by omega)) und_trans (fun h k => ?_) und_line (by simp) (fun hJ => ?_)
  · rw [und_anti h k]; simp
  · have hne : joi a n ≠ [] := by intro h; rw [h] at hJ; cases hJ
    obtain ⟨j1, j2, j3, j4, j5, j6, j7⟩ := joined hne
    have hl := (chk_slash j3).2
    refine ⟨fun W => ?_, fun W => ?_, fun W => ?_, fun W => ?_, fun W => ?_⟩
    · have := check_calls a W (by omega)
      rwa [j1] at this
    · have := under_calls a (joi a n) W (by omega) (by omega)
      rwa [j4] at this
    · have := parent_calls (joi a n) W (by omega)
      rwa [j5] at this
    · have := base_calls (joi a n) W (by omega)
      rwa [j6] at this
    · have := under_calls (joi a n) a W (by omega) (by omega)
      rwa [j7] at this
end Go.Proofs.Ytbfcggcfabkbjaa
