/-
  Aft: ask.fits.
-/
import Derived.Test.YtlckgkpgllhpbaaDoorAbk
import Derived.BigQuiet
namespace Go.Proofs.YtlckgkpgllhpbaaDoor
open Go.RowKit

theorem only_calls (x z r : Bool) (h : (x || z) = r) (w : World) : Calls Tryd.prog 70 #[.bool x, .bool z] w fun e w' => e = .returned (.bool r) ∧ w' = w := by
  subst h
  cases x <;> cases z <;>
  · go_enter Tryd.func70, Tryd.ntmps70
    go_wp2
    go_ret
    exact ⟨rfl, rfl⟩
theorem kp_any {k : Int} (hk : 0 ≤ k ∧ k ≤ 255) (w : World) : Calls Tryd.prog 60 #[.int .u8 k] w fun e w' => e = .returned (.bool (decide (hP k))) ∧ w' = w := by
  by_cases h : hP k
  · rw [decide_eq_true h]; exact (kp_true w hk h).mono fun e w' x => ⟨x.1, x.2.symm⟩
  · rw [decide_eq_false h]; exact (kp_false w hk h).mono fun e w' x => ⟨x.1, x.2.symm⟩
theorem kd_any {k : Int} (hk : 0 ≤ k ∧ k ≤ 255) (w : World) : Calls Tryd.prog 61 #[.int .u8 k] w fun e w' => e = .returned (.bool (decide (hD k))) ∧ w' = w := by
  by_cases h : hD k
  · rw [decide_eq_true h]; exact (kd_true w hk h).mono fun e w' x => ⟨x.1, x.2.symm⟩
  · rw [decide_eq_false h]; exact (kd_false w hk h).mono fun e w' x => ⟨x.1, x.2.symm⟩
theorem kv_any {k : Int} (hk : 0 ≤ k ∧ k ≤ 255) (w : World) : Calls Tryd.prog 63 #[.int .u8 k] w fun e w' => e = .returned (.bool (decide (hV k))) ∧ w' = w := by
  by_cases h : hV k
  · rw [decide_eq_true h]; exact (kv_true w hk h).mono fun e w' x => ⟨x.1, x.2.symm⟩
  · rw [decide_eq_false h]; exact (kv_false w hk h).mono fun e w' x => ⟨x.1, x.2.symm⟩
theorem kw_any {k : Int} (hk : 0 ≤ k ∧ k ≤ 255) (w : World) : Calls Tryd.prog 64 #[.int .u8 k] w fun e w' => e = .returned (.bool (decide (hW k))) ∧ w' = w := by
  by_cases h : hW k
  · rw [decide_eq_true h]; exact (kw_true w hk h).mono fun e w' x => ⟨x.1, x.2.symm⟩
  · rw [decide_eq_false h]; exact (kw_false w hk h).mono fun e w' x => ⟨x.1, x.2.symm⟩
theorem kl_any {k : Int} (hk : 0 ≤ k ∧ k ≤ 255) (w : World) : Calls Tryd.prog 65 #[.int .u8 k] w fun e w' => e = .returned (.bool (decide (hL k))) ∧ w' = w := by
  by_cases h : hL k
  · rw [decide_eq_true h]; exact (kl_true w hk h).mono fun e w' x => ⟨x.1, x.2.symm⟩
  · rw [decide_eq_false h]; exact (kl_false w hk h).mono fun e w' x => ⟨x.1, x.2.symm⟩
set_option maxRecDepth 8000 in
theorem fits_k (k x s t : Int) (path data : List UInt8) (fl ve : Int) (wa : Bool) (so la ti fr : Int) (ms : List Mem) (p : Pl) (np : Nat) (w : World) (hk : k < 1 ∨ 14 < k) :
    Calls Tryd.prog 36 #[aval ⟨k, x, s, t, path, data, fl, ve, wa, so, la, ti, fr, ms⟩ p np] w fun e w' => e = .returned (.bool false) ∧ Fr NoB w w' := by
  obtain ⟨A, c, B, d, P, e'⟩ := p
  simp only [aval, acells]
  rcases hk with hk | hk
  · go_enter Tryd.func36, Tryd.ntmps36
    go_wp2
    go_ret
    exact ⟨rfl, (Fr.refl NoB w).alloc _⟩
  · have hk1 : ¬ k < 1 := by omega
    go_enter Tryd.func36, Tryd.ntmps36
    go_wp2
    go_ret
    exact ⟨rfl, (Fr.refl NoB w).alloc _⟩
set_option maxHeartbeats 3200000 in
set_option maxRecDepth 8000 in
theorem fits_1 (k x s t : Int) (path data : List UInt8) (fl ve : Int) (wa : Bool) (so la ti fr : Int) (ms : List Mem) (p : Pl) (np : Nat) (w : World) (hk1 : 1 ≤ k) (hk2 : k ≤ 14) (h1 : (decide (hP k) || path.isEmpty) = false) :
    Calls Tryd.prog 36 #[aval ⟨k, x, s, t, path, data, fl, ve, wa, so, la, ti, fr, ms⟩ p np] w fun e w' => e = .returned (.bool false) ∧ Fr NoB w w' := by
  obtain ⟨A, c, B, d, P, e'⟩ := p
  have hk255 : 0 ≤ k ∧ k ≤ 255 := by omega
  simp only [aval, acells]
  go_enter Tryd.func36, Tryd.ntmps36
  go_wp2_with (fail)
  go_quiet (first | (with_reducible exact Calls.quiet_of_same (kp_any hk255 _)) | (with_reducible exact Calls.quiet_of_same (kd_any hk255 _)) | (with_reducible exact Calls.quiet_of_same (kv_any hk255 _)) | (with_reducible exact Calls.quiet_of_same (kw_any hk255 _)) | (with_reducible exact Calls.quiet_of_same (only_calls _ _ _ h1 _)))
  go_wp2
  go_ret
  exact ⟨rfl, ((Fr.refl NoB w).alloc _).drewN _⟩
set_option maxHeartbeats 3200000 in
set_option maxRecDepth 8000 in
theorem fits_2 (k x s t : Int) (path data : List UInt8) (fl ve : Int) (wa : Bool) (so la ti fr : Int) (ms : List Mem) (p : Pl) (np : Nat) (w : World) (hk1 : 1 ≤ k) (hk2 : k ≤ 14) (h1 : (decide (hP k) || path.isEmpty) = true) (h2 : (decide (hD k) || (data.length : Int) == 0) = false) :
    Calls Tryd.prog 36 #[aval ⟨k, x, s, t, path, data, fl, ve, wa, so, la, ti, fr, ms⟩ p np] w fun e w' => e = .returned (.bool false) ∧ Fr NoB w w' := by
  obtain ⟨A, c, B, d, P, e'⟩ := p
  have hk255 : 0 ≤ k ∧ k ≤ 255 := by omega
  simp only [aval, acells]
  go_enter Tryd.func36, Tryd.ntmps36
  go_wp2_with (fail)
  go_quiet (first | (with_reducible exact Calls.quiet_of_same (kp_any hk255 _)) | (with_reducible exact Calls.quiet_of_same (kd_any hk255 _)) | (with_reducible exact Calls.quiet_of_same (kv_any hk255 _)) | (with_reducible exact Calls.quiet_of_same (kw_any hk255 _)) | (with_reducible exact Calls.quiet_of_same (only_calls _ _ _ h1 _)) | (with_reducible exact Calls.quiet_of_same (only_calls _ _ _ h2 _)))
  go_wp2
  go_ret
  exact ⟨rfl, ((Fr.refl NoB w).alloc _).drewN _⟩
set_option maxHeartbeats 3200000 in
set_option maxRecDepth 8000 in
theorem fits_3 (k x s t : Int) (path data : List UInt8) (fl ve : Int) (wa : Bool) (so la ti fr : Int) (ms : List Mem) (p : Pl) (np : Nat) (w : World) (hk1 : 1 ≤ k) (hk2 : k ≤ 14) (h1 : (decide (hP k) || path.isEmpty) = true) (h2 : (decide (hD k) || (data.length : Int) == 0) = true) (h3 : (k == 3 || fl == 0) = false) :
    Calls Tryd.prog 36 #[aval ⟨k, x, s, t, path, data, fl, ve, wa, so, la, ti, fr, ms⟩ p np] w fun e w' => e = .returned (.bool false) ∧ Fr NoB w w' := by
  obtain ⟨A, c, B, d, P, e'⟩ := p
  have hk255 : 0 ≤ k ∧ k ≤ 255 := by omega
  simp only [aval, acells]
  go_enter Tryd.func36, Tryd.ntmps36
  go_wp2_with (fail)
  go_quiet (first | (with_reducible exact Calls.quiet_of_same (kp_any hk255 _)) | (with_reducible exact Calls.quiet_of_same (kd_any hk255 _)) | (with_reducible exact Calls.quiet_of_same (kv_any hk255 _)) | (with_reducible exact Calls.quiet_of_same (kw_any hk255 _)) | (with_reducible exact Calls.quiet_of_same (only_calls _ _ _ h1 _)) | (with_reducible exact Calls.quiet_of_same (only_calls _ _ _ h2 _)) | (with_reducible exact Calls.quiet_of_same (only_calls _ _ _ h3 _)))
  go_wp2
  go_ret
  exact ⟨rfl, ((Fr.refl NoB w).alloc _).drewN _⟩
set_option maxHeartbeats 3200000 in
set_option maxRecDepth 8000 in
theorem fits_4 (k x s t : Int) (path data : List UInt8) (fl ve : Int) (wa : Bool) (so la ti fr : Int) (ms : List Mem) (p : Pl) (np : Nat) (w : World) (hk1 : 1 ≤ k) (hk2 : k ≤ 14) (h1 : (decide (hP k) || path.isEmpty) = true) (h2 : (decide (hD k) || (data.length : Int) == 0) = true) (h3 : (k == 3 || fl == 0) = true) (h4 : (decide (hV k) || ve == 0) = false) :
    Calls Tryd.prog 36 #[aval ⟨k, x, s, t, path, data, fl, ve, wa, so, la, ti, fr, ms⟩ p np] w fun e w' => e = .returned (.bool false) ∧ Fr NoB w w' := by
  obtain ⟨A, c, B, d, P, e'⟩ := p
  have hk255 : 0 ≤ k ∧ k ≤ 255 := by omega
  simp only [aval, acells]
  go_enter Tryd.func36, Tryd.ntmps36
  go_wp2_with (fail)
  go_quiet (first | (with_reducible exact Calls.quiet_of_same (kp_any hk255 _)) | (with_reducible exact Calls.quiet_of_same (kd_any hk255 _)) | (with_reducible exact Calls.quiet_of_same (kv_any hk255 _)) | (with_reducible exact Calls.quiet_of_same (kw_any hk255 _)) | (with_reducible exact Calls.quiet_of_same (only_calls _ _ _ h1 _)) | (with_reducible exact Calls.quiet_of_same (only_calls _ _ _ h2 _)) | (with_reducible exact Calls.quiet_of_same (only_calls _ _ _ h3 _)) | (with_reducible exact Calls.quiet_of_same (only_calls _ _ _ h4 _)))
  go_wp2
  go_ret
  exact ⟨rfl, ((Fr.refl NoB w).alloc _).drewN _⟩
set_option maxHeartbeats 3200000 in
set_option maxRecDepth 8000 in
theorem fits_5 (k x s t : Int) (path data : List UInt8) (fl ve : Int) (wa : Bool) (so la ti fr : Int) (ms : List Mem) (p : Pl) (np : Nat) (w : World) (hk1 : 1 ≤ k) (hk2 : k ≤ 14) (h1 : (decide (hP k) || path.isEmpty) = true) (h2 : (decide (hD k) || (data.length : Int) == 0) = true) (h3 : (k == 3 || fl == 0) = true) (h4 : (decide (hV k) || ve == 0) = true) (h5 : (decide (hW k) || !wa) = false) :
    Calls Tryd.prog 36 #[aval ⟨k, x, s, t, path, data, fl, ve, wa, so, la, ti, fr, ms⟩ p np] w fun e w' => e = .returned (.bool false) ∧ Fr NoB w w' := by
  obtain ⟨A, c, B, d, P, e'⟩ := p
  have hk255 : 0 ≤ k ∧ k ≤ 255 := by omega
  simp only [aval, acells]
  go_enter Tryd.func36, Tryd.ntmps36
  go_wp2_with (fail)
  go_quiet (first | (with_reducible exact Calls.quiet_of_same (kp_any hk255 _)) | (with_reducible exact Calls.quiet_of_same (kd_any hk255 _)) | (with_reducible exact Calls.quiet_of_same (kv_any hk255 _)) | (with_reducible exact Calls.quiet_of_same (kw_any hk255 _)) | (with_reducible exact Calls.quiet_of_same (only_calls _ _ _ h1 _)) | (with_reducible exact Calls.quiet_of_same (only_calls _ _ _ h2 _)) | (with_reducible exact Calls.quiet_of_same (only_calls _ _ _ h3 _)) | (with_reducible exact Calls.quiet_of_same (only_calls _ _ _ h4 _)) | (with_reducible exact Calls.quiet_of_same (only_calls _ _ _ h5 _)))
  go_wp2
  go_ret
  exact ⟨rfl, ((Fr.refl NoB w).alloc _).drewN _⟩
set_option maxHeartbeats 3200000 in
set_option maxRecDepth 8000 in
theorem fits_6 (k x s t : Int) (path data : List UInt8) (fl ve : Int) (wa : Bool) (so la ti fr : Int) (ms : List Mem) (p : Pl) (np : Nat) (w : World) (hk1 : 1 ≤ k) (hk2 : k ≤ 14) (h1 : (decide (hP k) || path.isEmpty) = true) (h2 : (decide (hD k) || (data.length : Int) == 0) = true) (h3 : (k == 3 || fl == 0) = true) (h4 : (decide (hV k) || ve == 0) = true) (h5 : (decide (hW k) || !wa) = true) (h6 : (k == 14 || so == 0) = false) :
    Calls Tryd.prog 36 #[aval ⟨k, x, s, t, path, data, fl, ve, wa, so, la, ti, fr, ms⟩ p np] w fun e w' => e = .returned (.bool false) ∧ Fr NoB w w' := by
  obtain ⟨A, c, B, d, P, e'⟩ := p
  have hk255 : 0 ≤ k ∧ k ≤ 255 := by omega
  simp only [aval, acells]
  go_enter Tryd.func36, Tryd.ntmps36
  go_wp2_with (fail)
  go_quiet (first | (with_reducible exact Calls.quiet_of_same (kp_any hk255 _)) | (with_reducible exact Calls.quiet_of_same (kd_any hk255 _)) | (with_reducible exact Calls.quiet_of_same (kv_any hk255 _)) | (with_reducible exact Calls.quiet_of_same (kw_any hk255 _)) | (with_reducible exact Calls.quiet_of_same (only_calls _ _ _ h1 _)) | (with_reducible exact Calls.quiet_of_same (only_calls _ _ _ h2 _)) | (with_reducible exact Calls.quiet_of_same (only_calls _ _ _ h3 _)) | (with_reducible exact Calls.quiet_of_same (only_calls _ _ _ h4 _)) | (with_reducible exact Calls.quiet_of_same (only_calls _ _ _ h5 _)))
  clear h1 h2 h3 h4 h5
  have HB := Lib.hid (show ((w.alloc (.cells #[.int .u8 k, .int .i64 x, .int .i64 s, .int .i64 t, .string ⟨path.toArray⟩, .slice A data.length c, .int .i64 fl, .int .i64 ve, .bool wa, .int .u8 so, .int .i64 la, .int .i64 ti, .int .i64 fr, .slice B ms.length d, .slice P np e'] 29)).drewN nq).heap[w.heap.size]? = some (.cells #[.int .u8 k, .int .i64 x, .int .i64 s, .int .i64 t, .string ⟨path.toArray⟩, .slice A data.length c, .int .i64 fl, .int .i64 ve, .bool wa, .int .u8 so, .int .i64 la, .int .i64 ti, .int .i64 fr, .slice B ms.length d, .slice P np e'] 29 (0, 0)) from heap_alloc_new w _)
  have F1 := Lib.hid (((Fr.refl NoB w).alloc (.cells #[.int .u8 k, .int .i64 x, .int .i64 s, .int .i64 t, .string ⟨path.toArray⟩, .slice A data.length c, .int .i64 fl, .int .i64 ve, .bool wa, .int .u8 so, .int .i64 la, .int .i64 ti, .int .i64 fr, .slice B ms.length d, .slice P np e'] 29)).drewN nq)
  generalize (w.alloc (.cells #[.int .u8 k, .int .i64 x, .int .i64 s, .int .i64 t, .string ⟨path.toArray⟩, .slice A data.length c, .int .i64 fl, .int .i64 ve, .bool wa, .int .u8 so, .int .i64 la, .int .i64 ti, .int .i64 fr, .slice B ms.length d, .slice P np e'] 29)).drewN nq = W1 at HB F1 ⊢
  generalize w.heap.size = NB at HB ⊢
  have c4 := (cells_of HB.out 4).1
  have c5 := (cells_of HB.out 5).1
  have c6 := (cells_of HB.out 6).1
  have c7 := (cells_of HB.out 7).1
  have c9 := (cells_of HB.out 9).1
  have c10 := (cells_of HB.out 10).1
  have c11 := (cells_of HB.out 11).1
  have c12 := (cells_of HB.out 12).1
  have c13 := (cells_of HB.out 13).1
  have c14 := (cells_of HB.out 14).1
  simp only [List.getElem?_toArray, List.getElem?_cons_zero, List.getElem?_cons_succ] at c4 c5 c6 c7 c9 c10 c11 c12 c13 c14
  go_wp2_with (fail)
  go_quiet (first | (with_reducible exact Calls.quiet_of_same (kl_any hk255 _)) | (with_reducible exact Calls.quiet_of_same (only_calls _ _ _ h6 _)))
  clear h6
  go_wp2
  go_ret
  exact ⟨rfl, F1.out.drewN _⟩
set_option maxHeartbeats 3200000 in
set_option maxRecDepth 8000 in
theorem fits_7 (k x s t : Int) (path data : List UInt8) (fl ve : Int) (wa : Bool) (so la ti fr : Int) (ms : List Mem) (p : Pl) (np : Nat) (w : World) (hk1 : 1 ≤ k) (hk2 : k ≤ 14) (h1 : (decide (hP k) || path.isEmpty) = true) (h2 : (decide (hD k) || (data.length : Int) == 0) = true) (h3 : (k == 3 || fl == 0) = true) (h4 : (decide (hV k) || ve == 0) = true) (h5 : (decide (hW k) || !wa) = true) (h6 : (k == 14 || so == 0) = true) (h7 : (decide (hL k) || la == 0) = false) :
    Calls Tryd.prog 36 #[aval ⟨k, x, s, t, path, data, fl, ve, wa, so, la, ti, fr, ms⟩ p np] w fun e w' => e = .returned (.bool false) ∧ Fr NoB w w' := by
  obtain ⟨A, c, B, d, P, e'⟩ := p
  have hk255 : 0 ≤ k ∧ k ≤ 255 := by omega
  simp only [aval, acells]
  go_enter Tryd.func36, Tryd.ntmps36
  go_wp2_with (fail)
  go_quiet (first | (with_reducible exact Calls.quiet_of_same (kp_any hk255 _)) | (with_reducible exact Calls.quiet_of_same (kd_any hk255 _)) | (with_reducible exact Calls.quiet_of_same (kv_any hk255 _)) | (with_reducible exact Calls.quiet_of_same (kw_any hk255 _)) | (with_reducible exact Calls.quiet_of_same (only_calls _ _ _ h1 _)) | (with_reducible exact Calls.quiet_of_same (only_calls _ _ _ h2 _)) | (with_reducible exact Calls.quiet_of_same (only_calls _ _ _ h3 _)) | (with_reducible exact Calls.quiet_of_same (only_calls _ _ _ h4 _)) | (with_reducible exact Calls.quiet_of_same (only_calls _ _ _ h5 _)))
  clear h1 h2 h3 h4 h5
  have HB := Lib.hid (show ((w.alloc (.cells #[.int .u8 k, .int .i64 x, .int .i64 s, .int .i64 t, .string ⟨path.toArray⟩, .slice A data.length c, .int .i64 fl, .int .i64 ve, .bool wa, .int .u8 so, .int .i64 la, .int .i64 ti, .int .i64 fr, .slice B ms.length d, .slice P np e'] 29)).drewN nq).heap[w.heap.size]? = some (.cells #[.int .u8 k, .int .i64 x, .int .i64 s, .int .i64 t, .string ⟨path.toArray⟩, .slice A data.length c, .int .i64 fl, .int .i64 ve, .bool wa, .int .u8 so, .int .i64 la, .int .i64 ti, .int .i64 fr, .slice B ms.length d, .slice P np e'] 29 (0, 0)) from heap_alloc_new w _)
  have F1 := Lib.hid (((Fr.refl NoB w).alloc (.cells #[.int .u8 k, .int .i64 x, .int .i64 s, .int .i64 t, .string ⟨path.toArray⟩, .slice A data.length c, .int .i64 fl, .int .i64 ve, .bool wa, .int .u8 so, .int .i64 la, .int .i64 ti, .int .i64 fr, .slice B ms.length d, .slice P np e'] 29)).drewN nq)
  generalize (w.alloc (.cells #[.int .u8 k, .int .i64 x, .int .i64 s, .int .i64 t, .string ⟨path.toArray⟩, .slice A data.length c, .int .i64 fl, .int .i64 ve, .bool wa, .int .u8 so, .int .i64 la, .int .i64 ti, .int .i64 fr, .slice B ms.length d, .slice P np e'] 29)).drewN nq = W1 at HB F1 ⊢
  generalize w.heap.size = NB at HB ⊢
  have c4 := (cells_of HB.out 4).1
  have c5 := (cells_of HB.out 5).1
  have c6 := (cells_of HB.out 6).1
  have c7 := (cells_of HB.out 7).1
  have c9 := (cells_of HB.out 9).1
  have c10 := (cells_of HB.out 10).1
  have c11 := (cells_of HB.out 11).1
  have c12 := (cells_of HB.out 12).1
  have c13 := (cells_of HB.out 13).1
  have c14 := (cells_of HB.out 14).1
  simp only [List.getElem?_toArray, List.getElem?_cons_zero, List.getElem?_cons_succ] at c4 c5 c6 c7 c9 c10 c11 c12 c13 c14
  go_wp2_with (fail)
  go_quiet (first | (with_reducible exact Calls.quiet_of_same (kl_any hk255 _)) | (with_reducible exact Calls.quiet_of_same (only_calls _ _ _ h6 _)) | (with_reducible exact Calls.quiet_of_same (only_calls _ _ _ h7 _)))
  clear h6 h7
  go_wp2
  go_ret
  exact ⟨rfl, F1.out.drewN _⟩
set_option maxHeartbeats 3200000 in
set_option maxRecDepth 8000 in
theorem fits_8 (k x s t : Int) (path data : List UInt8) (fl ve : Int) (wa : Bool) (so la ti fr : Int) (ms : List Mem) (p : Pl) (np : Nat) (w : World) (hk1 : 1 ≤ k) (hk2 : k ≤ 14) (h1 : (decide (hP k) || path.isEmpty) = true) (h2 : (decide (hD k) || (data.length : Int) == 0) = true) (h3 : (k == 3 || fl == 0) = true) (h4 : (decide (hV k) || ve == 0) = true) (h5 : (decide (hW k) || !wa) = true) (h6 : (k == 14 || so == 0) = true) (h7 : (decide (hL k) || la == 0) = true) (h8 : (k == 1 || ti == 0) = false) :
    Calls Tryd.prog 36 #[aval ⟨k, x, s, t, path, data, fl, ve, wa, so, la, ti, fr, ms⟩ p np] w fun e w' => e = .returned (.bool false) ∧ Fr NoB w w' := by
  obtain ⟨A, c, B, d, P, e'⟩ := p
  have hk255 : 0 ≤ k ∧ k ≤ 255 := by omega
  simp only [aval, acells]
  go_enter Tryd.func36, Tryd.ntmps36
  go_wp2_with (fail)
  go_quiet (first | (with_reducible exact Calls.quiet_of_same (kp_any hk255 _)) | (with_reducible exact Calls.quiet_of_same (kd_any hk255 _)) | (with_reducible exact Calls.quiet_of_same (kv_any hk255 _)) | (with_reducible exact Calls.quiet_of_same (kw_any hk255 _)) | (with_reducible exact Calls.quiet_of_same (only_calls _ _ _ h1 _)) | (with_reducible exact Calls.quiet_of_same (only_calls _ _ _ h2 _)) | (with_reducible exact Calls.quiet_of_same (only_calls _ _ _ h3 _)) | (with_reducible exact Calls.quiet_of_same (only_calls _ _ _ h4 _)) | (with_reducible exact Calls.quiet_of_same (only_calls _ _ _ h5 _)))
  clear h1 h2 h3 h4 h5
  have HB := Lib.hid (show ((w.alloc (.cells #[.int .u8 k, .int .i64 x, .int .i64 s, .int .i64 t, .string ⟨path.toArray⟩, .slice A data.length c, .int .i64 fl, .int .i64 ve, .bool wa, .int .u8 so, .int .i64 la, .int .i64 ti, .int .i64 fr, .slice B ms.length d, .slice P np e'] 29)).drewN nq).heap[w.heap.size]? = some (.cells #[.int .u8 k, .int .i64 x, .int .i64 s, .int .i64 t, .string ⟨path.toArray⟩, .slice A data.length c, .int .i64 fl, .int .i64 ve, .bool wa, .int .u8 so, .int .i64 la, .int .i64 ti, .int .i64 fr, .slice B ms.length d, .slice P np e'] 29 (0, 0)) from heap_alloc_new w _)
  have F1 := Lib.hid (((Fr.refl NoB w).alloc (.cells #[.int .u8 k, .int .i64 x, .int .i64 s, .int .i64 t, .string ⟨path.toArray⟩, .slice A data.length c, .int .i64 fl, .int .i64 ve, .bool wa, .int .u8 so, .int .i64 la, .int .i64 ti, .int .i64 fr, .slice B ms.length d, .slice P np e'] 29)).drewN nq)
  generalize (w.alloc (.cells #[.int .u8 k, .int .i64 x, .int .i64 s, .int .i64 t, .string ⟨path.toArray⟩, .slice A data.length c, .int .i64 fl, .int .i64 ve, .bool wa, .int .u8 so, .int .i64 la, .int .i64 ti, .int .i64 fr, .slice B ms.length d, .slice P np e'] 29)).drewN nq = W1 at HB F1 ⊢
  generalize w.heap.size = NB at HB ⊢
  have c4 := (cells_of HB.out 4).1
  have c5 := (cells_of HB.out 5).1
  have c6 := (cells_of HB.out 6).1
  have c7 := (cells_of HB.out 7).1
  have c9 := (cells_of HB.out 9).1
  have c10 := (cells_of HB.out 10).1
  have c11 := (cells_of HB.out 11).1
  have c12 := (cells_of HB.out 12).1
  have c13 := (cells_of HB.out 13).1
  have c14 := (cells_of HB.out 14).1
  simp only [List.getElem?_toArray, List.getElem?_cons_zero, List.getElem?_cons_succ] at c4 c5 c6 c7 c9 c10 c11 c12 c13 c14
  go_wp2_with (fail)
  go_quiet (first | (with_reducible exact Calls.quiet_of_same (kl_any hk255 _)) | (with_reducible exact Calls.quiet_of_same (only_calls _ _ _ h6 _)) | (with_reducible exact Calls.quiet_of_same (only_calls _ _ _ h7 _)) | (with_reducible exact Calls.quiet_of_same (only_calls _ _ _ h8 _)))
  clear h6 h7 h8
  go_wp2
  go_ret
  exact ⟨rfl, F1.out.drewN _⟩
end Go.Proofs.YtlckgkpgllhpbaaDoor
