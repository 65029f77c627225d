/-
  Spf: SpinNone answers true.
-/
import Derived.Test.YteigenmhfgldfaaSpe
namespace Go.Proofs.Yteigenmhfgldfaa
open Go.RowKit Ieee

theorem next_nil (n : Int) (w : World) :
    Calls Try.prog 21 #[.pointer none, .int .i64 n] w fun e w' => e = .returned (.int .i64 0) ∧ w' = w := by
  go_enter Try.func21, Try.ntmps21
  go_wp2
  go_ret
  exact ⟨rfl, rfl⟩
theorem next_un (n : Int) (p : Nat) (w : World) (h : w.heap[p]? = some (.cells #[.complex .f64 0 0, .bool false] 47 (0, 0))) :
    Calls Try.prog 21 #[.pointer (some ⟨p, 0, none⟩), .int .i64 n] w fun e w' => e = .returned (.int .i64 0) ∧ w' = w := by
  have h1 : w.cell? ⟨p, 1, none⟩ = some (.bool false) := by rw [Joins.cell_of_block h 1]; rfl
  go_enter Try.func21, Try.ntmps21
  go_wp2
  go_ret
  exact ⟨rfl, rfl⟩
theorem shuffle_nil (A : Option Addr) (k c : Nat) (w : World) :
    Calls Try.prog 17 #[.pointer none, .slice A k c] w fun e w' => e = .returned (.slice none 0 0) ∧ w' = w := by
  go_enter Try.func17, Try.ntmps17
  go_wp2
  go_ret
  exact ⟨rfl, rfl⟩
theorem shuffle_un (A : Option Addr) (k c : Nat) (p : Nat) (w : World) (h : w.heap[p]? = some (.cells #[.complex .f64 0 0, .bool false] 47 (0, 0))) :
    Calls Try.prog 17 #[.pointer (some ⟨p, 0, none⟩), .slice A k c] w fun e w' => e = .returned (.slice none 0 0) ∧ w' = w := by
  have h1 : w.cell? ⟨p, 1, none⟩ = some (.bool false) := by rw [Joins.cell_of_block h 1]; rfl
  go_enter Try.func17, Try.ntmps17
  go_wp2
  go_ret
  exact ⟨rfl, rfl⟩
theorem copy_nil (w : World) :
    Calls Try.prog 24 #[.pointer none] w fun e w' => e = .returned (.pointer none) ∧ w' = w := by
  go_enter Try.func24, Try.ntmps24
  go_wp2
  go_ret
  exact ⟨rfl, rfl⟩
theorem copy_un (p : Nat) (w : World) (h : w.heap[p]? = some (.cells #[.complex .f64 0 0, .bool false] 47 (0, 0))) :
    Calls Try.prog 24 #[.pointer (some ⟨p, 0, none⟩)] w fun e w' => e = .returned (.pointer none) ∧ w' = w := by
  have h1 : w.cell? ⟨p, 1, none⟩ = some (.bool false) := by rw [Joins.cell_of_block h 1]; rfl
  go_enter Try.func24, Try.ntmps24
  go_wp2
  go_ret
  exact ⟨rfl, rfl⟩

set_option maxRecDepth 8000 in
set_option maxHeartbeats 1600000 in
theorem none_walk (n : Int) (A : Option Addr) (k c : Nat) (w : World) :
    Calls Try.prog 7 #[.int .i64 n, .slice A k c] w fun e w' => e = .returned (.bool true) ∧ Fr NoB w w' := by
  go_enter Try.func7, Try.ntmps7
  go_wp2_with (first | ((with_reducible refine (awake_calls _).mono ?_); rintro e w1 ⟨rfl, f1⟩; have u1 := heap_alloc_new w1 (.cells #[.complex .f64 0 0, .bool false] 47); have u2 := heap_alloc_new (w1.alloc (.cells #[.complex .f64 0 0, .bool false] 47)) (.cells #[.complex .f64 0 0, .bool false] 47); have u3 := heap_alloc_new ((w1.alloc (.cells #[.complex .f64 0 0, .bool false] 47)).alloc (.cells #[.complex .f64 0 0, .bool false] 47)) (.cells #[.complex .f64 0 0, .bool false] 47); rw [show (w1.alloc (.cells #[.complex .f64 0 0, .bool false] 47)).heap.size = w1.heap.size + 1 by simp] at u2; rw [show ((w1.alloc (.cells #[.complex .f64 0 0, .bool false] 47)).alloc (.cells #[.complex .f64 0 0, .bool false] 47)).heap.size = w1.heap.size + 2 by simp] at u3) | ((with_reducible refine (next_nil _ _).mono ?_); rintro e w2 ⟨rfl, rfl⟩) | ((with_reducible refine (shuffle_nil _ _ _ _).mono ?_); rintro e w2 ⟨rfl, rfl⟩) | ((with_reducible refine (copy_nil _).mono ?_); rintro e w2 ⟨rfl, rfl⟩) | ((with_reducible refine (next_un _ _ _ u1).mono ?_); rintro e w2 ⟨rfl, rfl⟩) | ((with_reducible refine (shuffle_un _ _ _ _ _ u2).mono ?_); rintro e w2 ⟨rfl, rfl⟩) | ((with_reducible refine (copy_un _ _ u3).mono ?_); rintro e w2 ⟨rfl, rfl⟩))
  go_ret
  exact ⟨rfl, ((f1.alloc _).alloc _).alloc _⟩
end Go.Proofs.Yteigenmhfgldfaa
