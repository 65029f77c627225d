/-
  Afu: ask.fits: the later conditions, and all.
-/
import Derived.Test.YtlckgkpgllhpbaaDoorAft
namespace Go.Proofs.YtlckgkpgllhpbaaDoor
open Go.RowKit

set_option maxHeartbeats 3200000 in
set_option maxRecDepth 8000 in
theorem fits_9A (k x s t : Int) (path data : List UInt8) (fl ve : Int) (wa : Bool) (so la ti fr : Int) (ms : List Mem) (p : Pl) (np : Nat) (w : World) (hk1 : 1 ≤ k) (hk2 : k ≤ 14) (h1 : (decide (hP k) || path.isEmpty) = true) (h2 : (decide (hD k) || (data.length : Int) == 0) = true) (h3 : (k == 3 || fl == 0) = true) (h4 : (decide (hV k) || ve == 0) = true) (h5 : (decide (hW k) || !wa) = true) (h6 : (k == 14 || so == 0) = true) (h7 : (decide (hL k) || la == 0) = true) (h8 : (k == 1 || ti == 0) = true) (h9A : (k == 12 || (ms.length : Int) == 0) = false) (hfr : (fr == 0) = true) :
    Calls Tryd.prog 36 #[aval ⟨k, x, s, t, path, data, fl, ve, wa, so, la, ti, fr, ms⟩ p np] w fun e w' => e = .returned (.bool false) ∧ Fr NoB w w' := by
  obtain ⟨A, c, B, d, P, e'⟩ := p
  have hk255 : 0 ≤ k ∧ k ≤ 255 := by omega
  simp only [aval, acells]
  go_enter Tryd.func36, Tryd.ntmps36
  go_wp2_with (fail)
  go_quiet (first | (with_reducible exact Calls.quiet_of_same (kp_any hk255 _)) | (with_reducible exact Calls.quiet_of_same (kd_any hk255 _)) | (with_reducible exact Calls.quiet_of_same (kv_any hk255 _)) | (with_reducible exact Calls.quiet_of_same (kw_any hk255 _)) | (with_reducible exact Calls.quiet_of_same (only_calls _ _ _ h1 _)) | (with_reducible exact Calls.quiet_of_same (only_calls _ _ _ h2 _)) | (with_reducible exact Calls.quiet_of_same (only_calls _ _ _ h3 _)) | (with_reducible exact Calls.quiet_of_same (only_calls _ _ _ h4 _)) | (with_reducible exact Calls.quiet_of_same (only_calls _ _ _ h5 _)))
  clear h1 h2 h3 h4 h5
  have HB := Lib.hid (show ((w.alloc (.cells #[.int .u8 k, .int .i64 x, .int .i64 s, .int .i64 t, .string ⟨path.toArray⟩, .slice A data.length c, .int .i64 fl, .int .i64 ve, .bool wa, .int .u8 so, .int .i64 la, .int .i64 ti, .int .i64 fr, .slice B ms.length d, .slice P np e'] 29)).drewN nq).heap[w.heap.size]? = some (.cells #[.int .u8 k, .int .i64 x, .int .i64 s, .int .i64 t, .string ⟨path.toArray⟩, .slice A data.length c, .int .i64 fl, .int .i64 ve, .bool wa, .int .u8 so, .int .i64 la, .int .i64 ti, .int .i64 fr, .slice B ms.length d, .slice P np e'] 29 (0, 0)) from heap_alloc_new w _)
  have F1 := Lib.hid (((Fr.refl NoB w).alloc (.cells #[.int .u8 k, .int .i64 x, .int .i64 s, .int .i64 t, .string ⟨path.toArray⟩, .slice A data.length c, .int .i64 fl, .int .i64 ve, .bool wa, .int .u8 so, .int .i64 la, .int .i64 ti, .int .i64 fr, .slice B ms.length d, .slice P np e'] 29)).drewN nq)
  generalize (w.alloc (.cells #[.int .u8 k, .int .i64 x, .int .i64 s, .int .i64 t, .string ⟨path.toArray⟩, .slice A data.length c, .int .i64 fl, .int .i64 ve, .bool wa, .int .u8 so, .int .i64 la, .int .i64 ti, .int .i64 fr, .slice B ms.length d, .slice P np e'] 29)).drewN nq = W1 at HB F1 ⊢
  generalize w.heap.size = NB at HB ⊢
  have c4 := (cells_of HB.out 4).1
  have c5 := (cells_of HB.out 5).1
  have c6 := (cells_of HB.out 6).1
  have c7 := (cells_of HB.out 7).1
  have c9 := (cells_of HB.out 9).1
  have c10 := (cells_of HB.out 10).1
  have c11 := (cells_of HB.out 11).1
  have c12 := (cells_of HB.out 12).1
  have c13 := (cells_of HB.out 13).1
  have c14 := (cells_of HB.out 14).1
  simp only [List.getElem?_toArray, List.getElem?_cons_zero, List.getElem?_cons_succ] at c4 c5 c6 c7 c9 c10 c11 c12 c13 c14
  go_wp2_with (fail)
  go_quiet (first | (with_reducible exact Calls.quiet_of_same (kl_any hk255 _)) | (with_reducible exact Calls.quiet_of_same (only_calls _ _ _ h6 _)) | (with_reducible exact Calls.quiet_of_same (only_calls _ _ _ h7 _)) | (with_reducible exact Calls.quiet_of_same (only_calls _ _ _ h8 _)) | (with_reducible exact Calls.quiet_of_same (only_calls _ _ _ h9A _)))
  clear h6 h7 h8 h9A hfr
  go_wp2
  go_ret
  exact ⟨rfl, F1.out.drewN _⟩
set_option maxHeartbeats 3200000 in
set_option maxRecDepth 8000 in
theorem fits_9B (k x s t : Int) (path data : List UInt8) (fl ve : Int) (wa : Bool) (so la ti fr : Int) (ms : List Mem) (p : Pl) (np : Nat) (w : World) (hk1 : 1 ≤ k) (hk2 : k ≤ 14) (h1 : (decide (hP k) || path.isEmpty) = true) (h2 : (decide (hD k) || (data.length : Int) == 0) = true) (h3 : (k == 3 || fl == 0) = true) (h4 : (decide (hV k) || ve == 0) = true) (h5 : (decide (hW k) || !wa) = true) (h6 : (k == 14 || so == 0) = true) (h7 : (decide (hL k) || la == 0) = true) (h8 : (k == 1 || ti == 0) = true) (h9B : (k == 12 || false) = false) (hfr : (fr == 0) = false) :
    Calls Tryd.prog 36 #[aval ⟨k, x, s, t, path, data, fl, ve, wa, so, la, ti, fr, ms⟩ p np] w fun e w' => e = .returned (.bool false) ∧ Fr NoB w w' := by
  obtain ⟨A, c, B, d, P, e'⟩ := p
  have hk255 : 0 ≤ k ∧ k ≤ 255 := by omega
  simp only [aval, acells]
  go_enter Tryd.func36, Tryd.ntmps36
  go_wp2_with (fail)
  go_quiet (first | (with_reducible exact Calls.quiet_of_same (kp_any hk255 _)) | (with_reducible exact Calls.quiet_of_same (kd_any hk255 _)) | (with_reducible exact Calls.quiet_of_same (kv_any hk255 _)) | (with_reducible exact Calls.quiet_of_same (kw_any hk255 _)) | (with_reducible exact Calls.quiet_of_same (only_calls _ _ _ h1 _)) | (with_reducible exact Calls.quiet_of_same (only_calls _ _ _ h2 _)) | (with_reducible exact Calls.quiet_of_same (only_calls _ _ _ h3 _)) | (with_reducible exact Calls.quiet_of_same (only_calls _ _ _ h4 _)) | (with_reducible exact Calls.quiet_of_same (only_calls _ _ _ h5 _)))
  clear h1 h2 h3 h4 h5
  have HB := Lib.hid (show ((w.alloc (.cells #[.int .u8 k, .int .i64 x, .int .i64 s, .int .i64 t, .string ⟨path.toArray⟩, .slice A data.length c, .int .i64 fl, .int .i64 ve, .bool wa, .int .u8 so, .int .i64 la, .int .i64 ti, .int .i64 fr, .slice B ms.length d, .slice P np e'] 29)).drewN nq).heap[w.heap.size]? = some (.cells #[.int .u8 k, .int .i64 x, .int .i64 s, .int .i64 t, .string ⟨path.toArray⟩, .slice A data.length c, .int .i64 fl, .int .i64 ve, .bool wa, .int .u8 so, .int .i64 la, .int .i64 ti, .int .i64 fr, .slice B ms.length d, .slice P np e'] 29 (0, 0)) from heap_alloc_new w _)
  have F1 := Lib.hid (((Fr.refl NoB w).alloc (.cells #[.int .u8 k, .int .i64 x, .int .i64 s, .int .i64 t, .string ⟨path.toArray⟩, .slice A data.length c, .int .i64 fl, .int .i64 ve, .bool wa, .int .u8 so, .int .i64 la, .int .i64 ti, .int .i64 fr, .slice B ms.length d, .slice P np e'] 29)).drewN nq)
  generalize (w.alloc (.cells #[.int .u8 k, .int .i64 x, .int .i64 s, .int .i64 t, .string ⟨path.toArray⟩, .slice A data.length c, .int .i64 fl, .int .i64 ve, .bool wa, .int .u8 so, .int .i64 la, .int .i64 ti, .int .i64 fr, .slice B ms.length d, .slice P np e'] 29)).drewN nq = W1 at HB F1 ⊢
  generalize w.heap.size = NB at HB ⊢
  have c4 := (cells_of HB.out 4).1
  have c5 := (cells_of HB.out 5).1
  have c6 := (cells_of HB.out 6).1
  have c7 := (cells_of HB.out 7).1
  have c9 := (cells_of HB.out 9).1
  have c10 := (cells_of HB.out 10).1
  have c11 := (cells_of HB.out 11).1
  have c12 := (cells_of HB.out 12).1
  have c13 := (cells_of HB.out 13).1
  have c14 := (cells_of HB.out 14).1
  simp only [List.getElem?_toArray, List.getElem?_cons_zero, List.getElem?_cons_succ] at c4 c5 c6 c7 c9 c10 c11 c12 c13 c14
  go_wp2_with (fail)
  go_quiet (first | (with_reducible exact Calls.quiet_of_same (kl_any hk255 _)) | (with_reducible exact Calls.quiet_of_same (only_calls _ _ _ h6 _)) | (with_reducible exact Calls.quiet_of_same (only_calls _ _ _ h7 _)) | (with_reducible exact Calls.quiet_of_same (only_calls _ _ _ h8 _)) | (with_reducible exact Calls.quiet_of_same (only_calls _ _ _ h9B _)))
  clear h6 h7 h8 h9B hfr
  go_wp2
  go_ret
  exact ⟨rfl, F1.out.drewN _⟩
set_option maxHeartbeats 3200000 in
set_option maxRecDepth 8000 in
theorem fits_10A (k x s t : Int) (path data : List UInt8) (fl ve : Int) (wa : Bool) (so la ti fr : Int) (ms : List Mem) (p : Pl) (np : Nat) (w : World) (hk1 : 1 ≤ k) (hk2 : k ≤ 14) (h1 : (decide (hP k) || path.isEmpty) = true) (h2 : (decide (hD k) || (data.length : Int) == 0) = true) (h3 : (k == 3 || fl == 0) = true) (h4 : (decide (hV k) || ve == 0) = true) (h5 : (decide (hW k) || !wa) = true) (h6 : (k == 14 || so == 0) = true) (h7 : (decide (hL k) || la == 0) = true) (h8 : (k == 1 || ti == 0) = true) (h9A : (k == 12 || (ms.length : Int) == 0) = true) (h10 : (k == 11 || (np : Int) == 0) = false) (hfr : (fr == 0) = true) :
    Calls Tryd.prog 36 #[aval ⟨k, x, s, t, path, data, fl, ve, wa, so, la, ti, fr, ms⟩ p np] w fun e w' => e = .returned (.bool false) ∧ Fr NoB w w' := by
  obtain ⟨A, c, B, d, P, e'⟩ := p
  have hk255 : 0 ≤ k ∧ k ≤ 255 := by omega
  simp only [aval, acells]
  go_enter Tryd.func36, Tryd.ntmps36
  go_wp2_with (fail)
  go_quiet (first | (with_reducible exact Calls.quiet_of_same (kp_any hk255 _)) | (with_reducible exact Calls.quiet_of_same (kd_any hk255 _)) | (with_reducible exact Calls.quiet_of_same (kv_any hk255 _)) | (with_reducible exact Calls.quiet_of_same (kw_any hk255 _)) | (with_reducible exact Calls.quiet_of_same (only_calls _ _ _ h1 _)) | (with_reducible exact Calls.quiet_of_same (only_calls _ _ _ h2 _)) | (with_reducible exact Calls.quiet_of_same (only_calls _ _ _ h3 _)) | (with_reducible exact Calls.quiet_of_same (only_calls _ _ _ h4 _)) | (with_reducible exact Calls.quiet_of_same (only_calls _ _ _ h5 _)))
  clear h1 h2 h3 h4 h5
  have HB := Lib.hid (show ((w.alloc (.cells #[.int .u8 k, .int .i64 x, .int .i64 s, .int .i64 t, .string ⟨path.toArray⟩, .slice A data.length c, .int .i64 fl, .int .i64 ve, .bool wa, .int .u8 so, .int .i64 la, .int .i64 ti, .int .i64 fr, .slice B ms.length d, .slice P np e'] 29)).drewN nq).heap[w.heap.size]? = some (.cells #[.int .u8 k, .int .i64 x, .int .i64 s, .int .i64 t, .string ⟨path.toArray⟩, .slice A data.length c, .int .i64 fl, .int .i64 ve, .bool wa, .int .u8 so, .int .i64 la, .int .i64 ti, .int .i64 fr, .slice B ms.length d, .slice P np e'] 29 (0, 0)) from heap_alloc_new w _)
  have F1 := Lib.hid (((Fr.refl NoB w).alloc (.cells #[.int .u8 k, .int .i64 x, .int .i64 s, .int .i64 t, .string ⟨path.toArray⟩, .slice A data.length c, .int .i64 fl, .int .i64 ve, .bool wa, .int .u8 so, .int .i64 la, .int .i64 ti, .int .i64 fr, .slice B ms.length d, .slice P np e'] 29)).drewN nq)
  generalize (w.alloc (.cells #[.int .u8 k, .int .i64 x, .int .i64 s, .int .i64 t, .string ⟨path.toArray⟩, .slice A data.length c, .int .i64 fl, .int .i64 ve, .bool wa, .int .u8 so, .int .i64 la, .int .i64 ti, .int .i64 fr, .slice B ms.length d, .slice P np e'] 29)).drewN nq = W1 at HB F1 ⊢
  generalize w.heap.size = NB at HB ⊢
  have c4 := (cells_of HB.out 4).1
  have c5 := (cells_of HB.out 5).1
  have c6 := (cells_of HB.out 6).1
  have c7 := (cells_of HB.out 7).1
  have c9 := (cells_of HB.out 9).1
  have c10 := (cells_of HB.out 10).1
  have c11 := (cells_of HB.out 11).1
  have c12 := (cells_of HB.out 12).1
  have c13 := (cells_of HB.out 13).1
  have c14 := (cells_of HB.out 14).1
  simp only [List.getElem?_toArray, List.getElem?_cons_zero, List.getElem?_cons_succ] at c4 c5 c6 c7 c9 c10 c11 c12 c13 c14
  go_wp2_with (fail)
  go_quiet (first | (with_reducible exact Calls.quiet_of_same (kl_any hk255 _)) | (with_reducible exact Calls.quiet_of_same (only_calls _ _ _ h6 _)) | (with_reducible exact Calls.quiet_of_same (only_calls _ _ _ h7 _)) | (with_reducible exact Calls.quiet_of_same (only_calls _ _ _ h8 _)) | (with_reducible exact Calls.quiet_of_same (only_calls _ _ _ h9A _)) | (with_reducible exact Calls.quiet_of_same (only_calls _ _ _ h10 _)))
  clear h6 h7 h8 h9A h10 hfr
  go_wp2
  go_ret
  exact ⟨rfl, F1.out.drewN _⟩
set_option maxHeartbeats 3200000 in
set_option maxRecDepth 8000 in
theorem fits_10B (k x s t : Int) (path data : List UInt8) (fl ve : Int) (wa : Bool) (so la ti fr : Int) (ms : List Mem) (p : Pl) (np : Nat) (w : World) (hk1 : 1 ≤ k) (hk2 : k ≤ 14) (h1 : (decide (hP k) || path.isEmpty) = true) (h2 : (decide (hD k) || (data.length : Int) == 0) = true) (h3 : (k == 3 || fl == 0) = true) (h4 : (decide (hV k) || ve == 0) = true) (h5 : (decide (hW k) || !wa) = true) (h6 : (k == 14 || so == 0) = true) (h7 : (decide (hL k) || la == 0) = true) (h8 : (k == 1 || ti == 0) = true) (h9B : (k == 12 || false) = true) (h10 : (k == 11 || (np : Int) == 0) = false) (hfr : (fr == 0) = false) :
    Calls Tryd.prog 36 #[aval ⟨k, x, s, t, path, data, fl, ve, wa, so, la, ti, fr, ms⟩ p np] w fun e w' => e = .returned (.bool false) ∧ Fr NoB w w' := by
  obtain ⟨A, c, B, d, P, e'⟩ := p
  have hk255 : 0 ≤ k ∧ k ≤ 255 := by omega
  simp only [aval, acells]
  go_enter Tryd.func36, Tryd.ntmps36
  go_wp2_with (fail)
  go_quiet (first | (with_reducible exact Calls.quiet_of_same (kp_any hk255 _)) | (with_reducible exact Calls.quiet_of_same (kd_any hk255 _)) | (with_reducible exact Calls.quiet_of_same (kv_any hk255 _)) | (with_reducible exact Calls.quiet_of_same (kw_any hk255 _)) | (with_reducible exact Calls.quiet_of_same (only_calls _ _ _ h1 _)) | (with_reducible exact Calls.quiet_of_same (only_calls _ _ _ h2 _)) | (with_reducible exact Calls.quiet_of_same (only_calls _ _ _ h3 _)) | (with_reducible exact Calls.quiet_of_same (only_calls _ _ _ h4 _)) | (with_reducible exact Calls.quiet_of_same (only_calls _ _ _ h5 _)))
  clear h1 h2 h3 h4 h5
  have HB := Lib.hid (show ((w.alloc (.cells #[.int .u8 k, .int .i64 x, .int .i64 s, .int .i64 t, .string ⟨path.toArray⟩, .slice A data.length c, .int .i64 fl, .int .i64 ve, .bool wa, .int .u8 so, .int .i64 la, .int .i64 ti, .int .i64 fr, .slice B ms.length d, .slice P np e'] 29)).drewN nq).heap[w.heap.size]? = some (.cells #[.int .u8 k, .int .i64 x, .int .i64 s, .int .i64 t, .string ⟨path.toArray⟩, .slice A data.length c, .int .i64 fl, .int .i64 ve, .bool wa, .int .u8 so, .int .i64 la, .int .i64 ti, .int .i64 fr, .slice B ms.length d, .slice P np e'] 29 (0, 0)) from heap_alloc_new w _)
  have F1 := Lib.hid (((Fr.refl NoB w).alloc (.cells #[.int .u8 k, .int .i64 x, .int .i64 s, .int .i64 t, .string ⟨path.toArray⟩, .slice A data.length c, .int .i64 fl, .int .i64 ve, .bool wa, .int .u8 so, .int .i64 la, .int .i64 ti, .int .i64 fr, .slice B ms.length d, .slice P np e'] 29)).drewN nq)
  generalize (w.alloc (.cells #[.int .u8 k, .int .i64 x, .int .i64 s, .int .i64 t, .string ⟨path.toArray⟩, .slice A data.length c, .int .i64 fl, .int .i64 ve, .bool wa, .int .u8 so, .int .i64 la, .int .i64 ti, .int .i64 fr, .slice B ms.length d, .slice P np e'] 29)).drewN nq = W1 at HB F1 ⊢
  generalize w.heap.size = NB at HB ⊢
  have c4 := (cells_of HB.out 4).1
  have c5 := (cells_of HB.out 5).1
  have c6 := (cells_of HB.out 6).1
  have c7 := (cells_of HB.out 7).1
  have c9 := (cells_of HB.out 9).1
  have c10 := (cells_of HB.out 10).1
  have c11 := (cells_of HB.out 11).1
  have c12 := (cells_of HB.out 12).1
  have c13 := (cells_of HB.out 13).1
  have c14 := (cells_of HB.out 14).1
  simp only [List.getElem?_toArray, List.getElem?_cons_zero, List.getElem?_cons_succ] at c4 c5 c6 c7 c9 c10 c11 c12 c13 c14
  go_wp2_with (fail)
  go_quiet (first | (with_reducible exact Calls.quiet_of_same (kl_any hk255 _)) | (with_reducible exact Calls.quiet_of_same (only_calls _ _ _ h6 _)) | (with_reducible exact Calls.quiet_of_same (only_calls _ _ _ h7 _)) | (with_reducible exact Calls.quiet_of_same (only_calls _ _ _ h8 _)) | (with_reducible exact Calls.quiet_of_same (only_calls _ _ _ h9B _)) | (with_reducible exact Calls.quiet_of_same (only_calls _ _ _ h10 _)))
  clear h6 h7 h8 h9B h10 hfr
  go_wp2
  go_ret
  exact ⟨rfl, F1.out.drewN _⟩
set_option maxHeartbeats 3200000 in
set_option maxRecDepth 8000 in
theorem fits_TA (k x s t : Int) (path data : List UInt8) (fl ve : Int) (wa : Bool) (so la ti fr : Int) (ms : List Mem) (p : Pl) (np : Nat) (w : World) (hk1 : 1 ≤ k) (hk2 : k ≤ 14) (h1 : (decide (hP k) || path.isEmpty) = true) (h2 : (decide (hD k) || (data.length : Int) == 0) = true) (h3 : (k == 3 || fl == 0) = true) (h4 : (decide (hV k) || ve == 0) = true) (h5 : (decide (hW k) || !wa) = true) (h6 : (k == 14 || so == 0) = true) (h7 : (decide (hL k) || la == 0) = true) (h8 : (k == 1 || ti == 0) = true) (h9A : (k == 12 || (ms.length : Int) == 0) = true) (h10 : (k == 11 || (np : Int) == 0) = true) (hfr : (fr == 0) = true) :
    Calls Tryd.prog 36 #[aval ⟨k, x, s, t, path, data, fl, ve, wa, so, la, ti, fr, ms⟩ p np] w fun e w' => e = .returned (.bool (decide (LimA ⟨k, x, s, t, path, data, fl, ve, wa, so, la, ti, fr, ms⟩))) ∧ Fr NoB w w' := by
  obtain ⟨A, c, B, d, P, e'⟩ := p
  have hk255 : 0 ≤ k ∧ k ≤ 255 := by omega
  obtain ⟨R, hR⟩ : ∃ R, decide (LimA ⟨k, x, s, t, path, data, fl, ve, wa, so, la, ti, fr, ms⟩) = R := ⟨_, rfl⟩
  rw [hR]
  have HRR := Lib.hid hR
  clear hR
  simp only [aval, acells]
  go_enter Tryd.func36, Tryd.ntmps36
  go_wp2_with (fail)
  go_quiet (first | (with_reducible exact Calls.quiet_of_same (kp_any hk255 _)) | (with_reducible exact Calls.quiet_of_same (kd_any hk255 _)) | (with_reducible exact Calls.quiet_of_same (kv_any hk255 _)) | (with_reducible exact Calls.quiet_of_same (kw_any hk255 _)) | (with_reducible exact Calls.quiet_of_same (only_calls _ _ _ h1 _)) | (with_reducible exact Calls.quiet_of_same (only_calls _ _ _ h2 _)) | (with_reducible exact Calls.quiet_of_same (only_calls _ _ _ h3 _)) | (with_reducible exact Calls.quiet_of_same (only_calls _ _ _ h4 _)) | (with_reducible exact Calls.quiet_of_same (only_calls _ _ _ h5 _)))
  clear h1 h2 h3 h4 h5
  have HB := Lib.hid (show ((w.alloc (.cells #[.int .u8 k, .int .i64 x, .int .i64 s, .int .i64 t, .string ⟨path.toArray⟩, .slice A data.length c, .int .i64 fl, .int .i64 ve, .bool wa, .int .u8 so, .int .i64 la, .int .i64 ti, .int .i64 fr, .slice B ms.length d, .slice P np e'] 29)).drewN nq).heap[w.heap.size]? = some (.cells #[.int .u8 k, .int .i64 x, .int .i64 s, .int .i64 t, .string ⟨path.toArray⟩, .slice A data.length c, .int .i64 fl, .int .i64 ve, .bool wa, .int .u8 so, .int .i64 la, .int .i64 ti, .int .i64 fr, .slice B ms.length d, .slice P np e'] 29 (0, 0)) from heap_alloc_new w _)
  have F1 := Lib.hid (((Fr.refl NoB w).alloc (.cells #[.int .u8 k, .int .i64 x, .int .i64 s, .int .i64 t, .string ⟨path.toArray⟩, .slice A data.length c, .int .i64 fl, .int .i64 ve, .bool wa, .int .u8 so, .int .i64 la, .int .i64 ti, .int .i64 fr, .slice B ms.length d, .slice P np e'] 29)).drewN nq)
  generalize (w.alloc (.cells #[.int .u8 k, .int .i64 x, .int .i64 s, .int .i64 t, .string ⟨path.toArray⟩, .slice A data.length c, .int .i64 fl, .int .i64 ve, .bool wa, .int .u8 so, .int .i64 la, .int .i64 ti, .int .i64 fr, .slice B ms.length d, .slice P np e'] 29)).drewN nq = W1 at HB F1 ⊢
  generalize w.heap.size = NB at HB ⊢
  have c4 := (cells_of HB.out 4).1
  have c5 := (cells_of HB.out 5).1
  have c6 := (cells_of HB.out 6).1
  have c7 := (cells_of HB.out 7).1
  have c9 := (cells_of HB.out 9).1
  have c10 := (cells_of HB.out 10).1
  have c11 := (cells_of HB.out 11).1
  have c12 := (cells_of HB.out 12).1
  have c13 := (cells_of HB.out 13).1
  have c14 := (cells_of HB.out 14).1
  simp only [List.getElem?_toArray, List.getElem?_cons_zero, List.getElem?_cons_succ] at c4 c5 c6 c7 c9 c10 c11 c12 c13 c14
  go_wp2_with (fail)
  go_quiet (first | (with_reducible exact Calls.quiet_of_same (kl_any hk255 _)) | (with_reducible exact Calls.quiet_of_same (only_calls _ _ _ h6 _)) | (with_reducible exact Calls.quiet_of_same (only_calls _ _ _ h7 _)) | (with_reducible exact Calls.quiet_of_same (only_calls _ _ _ h8 _)) | (with_reducible exact Calls.quiet_of_same (only_calls _ _ _ h9A _)) | (with_reducible exact Calls.quiet_of_same (only_calls _ _ _ h10 _)))
  clear h6 h7 h8 h9A h10 hfr
  go_wp2
  all_goals go_ret
  all_goals refine ⟨?_, F1.out.drewN _⟩
  all_goals rw [← HRR.out]
  all_goals first
    | (refine ret_bool (Eq.symm (decide_eq_false ?_)); rintro ⟨g1, g2, g3, g4, g5, g6, g7, g8, g9, g10⟩; simp only at g1 g2 g3 g4 g5 g6 g7 g8 g9 g10; omega)
    | (refine ret_bool (Eq.symm (decide_eq_true ?_)); refine ⟨?_, ?_, ?_, ?_, ?_, ?_, ?_, ?_, ?_, ?_⟩ <;> simp only <;> omega)
    | trace_state
set_option maxHeartbeats 3200000 in
set_option maxRecDepth 8000 in
theorem fits_TB (k x s t : Int) (path data : List UInt8) (fl ve : Int) (wa : Bool) (so la ti fr : Int) (ms : List Mem) (p : Pl) (np : Nat) (w : World) (hk1 : 1 ≤ k) (hk2 : k ≤ 14) (h1 : (decide (hP k) || path.isEmpty) = true) (h2 : (decide (hD k) || (data.length : Int) == 0) = true) (h3 : (k == 3 || fl == 0) = true) (h4 : (decide (hV k) || ve == 0) = true) (h5 : (decide (hW k) || !wa) = true) (h6 : (k == 14 || so == 0) = true) (h7 : (decide (hL k) || la == 0) = true) (h8 : (k == 1 || ti == 0) = true) (h9B : (k == 12 || false) = true) (h10 : (k == 11 || (np : Int) == 0) = true) (hfr : (fr == 0) = false) :
    Calls Tryd.prog 36 #[aval ⟨k, x, s, t, path, data, fl, ve, wa, so, la, ti, fr, ms⟩ p np] w fun e w' => e = .returned (.bool (decide (LimA ⟨k, x, s, t, path, data, fl, ve, wa, so, la, ti, fr, ms⟩))) ∧ Fr NoB w w' := by
  obtain ⟨A, c, B, d, P, e'⟩ := p
  have hk255 : 0 ≤ k ∧ k ≤ 255 := by omega
  obtain ⟨R, hR⟩ : ∃ R, decide (LimA ⟨k, x, s, t, path, data, fl, ve, wa, so, la, ti, fr, ms⟩) = R := ⟨_, rfl⟩
  rw [hR]
  have HRR := Lib.hid hR
  clear hR
  simp only [aval, acells]
  go_enter Tryd.func36, Tryd.ntmps36
  go_wp2_with (fail)
  go_quiet (first | (with_reducible exact Calls.quiet_of_same (kp_any hk255 _)) | (with_reducible exact Calls.quiet_of_same (kd_any hk255 _)) | (with_reducible exact Calls.quiet_of_same (kv_any hk255 _)) | (with_reducible exact Calls.quiet_of_same (kw_any hk255 _)) | (with_reducible exact Calls.quiet_of_same (only_calls _ _ _ h1 _)) | (with_reducible exact Calls.quiet_of_same (only_calls _ _ _ h2 _)) | (with_reducible exact Calls.quiet_of_same (only_calls _ _ _ h3 _)) | (with_reducible exact Calls.quiet_of_same (only_calls _ _ _ h4 _)) | (with_reducible exact Calls.quiet_of_same (only_calls _ _ _ h5 _)))
  clear h1 h2 h3 h4 h5
  have HB := Lib.hid (show ((w.alloc (.cells #[.int .u8 k, .int .i64 x, .int .i64 s, .int .i64 t, .string ⟨path.toArray⟩, .slice A data.length c, .int .i64 fl, .int .i64 ve, .bool wa, .int .u8 so, .int .i64 la, .int .i64 ti, .int .i64 fr, .slice B ms.length d, .slice P np e'] 29)).drewN nq).heap[w.heap.size]? = some (.cells #[.int .u8 k, .int .i64 x, .int .i64 s, .int .i64 t, .string ⟨path.toArray⟩, .slice A data.length c, .int .i64 fl, .int .i64 ve, .bool wa, .int .u8 so, .int .i64 la, .int .i64 ti, .int .i64 fr, .slice B ms.length d, .slice P np e'] 29 (0, 0)) from heap_alloc_new w _)
  have F1 := Lib.hid (((Fr.refl NoB w).alloc (.cells #[.int .u8 k, .int .i64 x, .int .i64 s, .int .i64 t, .string ⟨path.toArray⟩, .slice A data.length c, .int .i64 fl, .int .i64 ve, .bool wa, .int .u8 so, .int .i64 la, .int .i64 ti, .int .i64 fr, .slice B ms.length d, .slice P np e'] 29)).drewN nq)
  generalize (w.alloc (.cells #[.int .u8 k, .int .i64 x, .int .i64 s, .int .i64 t, .string ⟨path.toArray⟩, .slice A data.length c, .int .i64 fl, .int .i64 ve, .bool wa, .int .u8 so, .int .i64 la, .int .i64 ti, .int .i64 fr, .slice B ms.length d, .slice P np e'] 29)).drewN nq = W1 at HB F1 ⊢
  generalize w.heap.size = NB at HB ⊢
  have c4 := (cells_of HB.out 4).1
  have c5 := (cells_of HB.out 5).1
  have c6 := (cells_of HB.out 6).1
  have c7 := (cells_of HB.out 7).1
  have c9 := (cells_of HB.out 9).1
  have c10 := (cells_of HB.out 10).1
  have c11 := (cells_of HB.out 11).1
  have c12 := (cells_of HB.out 12).1
  have c13 := (cells_of HB.out 13).1
  have c14 := (cells_of HB.out 14).1
  simp only [List.getElem?_toArray, List.getElem?_cons_zero, List.getElem?_cons_succ] at c4 c5 c6 c7 c9 c10 c11 c12 c13 c14
  go_wp2_with (fail)
  go_quiet (first | (with_reducible exact Calls.quiet_of_same (kl_any hk255 _)) | (with_reducible exact Calls.quiet_of_same (only_calls _ _ _ h6 _)) | (with_reducible exact Calls.quiet_of_same (only_calls _ _ _ h7 _)) | (with_reducible exact Calls.quiet_of_same (only_calls _ _ _ h8 _)) | (with_reducible exact Calls.quiet_of_same (only_calls _ _ _ h9B _)) | (with_reducible exact Calls.quiet_of_same (only_calls _ _ _ h10 _)))
  clear h6 h7 h8 h9B h10 hfr
  go_wp2
  all_goals go_ret
  all_goals refine ⟨?_, F1.out.drewN _⟩
  all_goals rw [← HRR.out]
  all_goals first
    | (refine ret_bool (Eq.symm (decide_eq_false ?_)); rintro ⟨g1, g2, g3, g4, g5, g6, g7, g8, g9, g10⟩; simp only at g1 g2 g3 g4 g5 g6 g7 g8 g9 g10; omega)
    | (refine ret_bool (Eq.symm (decide_eq_true ?_)); refine ⟨?_, ?_, ?_, ?_, ?_, ?_, ?_, ?_, ?_, ?_⟩ <;> simp only <;> omega)
    | trace_state
theorem afits_calls (f : Fa) (p : Pl) (np : Nat) (w : World) : Calls Tryd.prog 36 #[aval f p np] w fun e w' => e = .returned (.bool (decide (FitsA f np))) ∧ Fr NoB w w' := by
  obtain ⟨k, x, s, t, path, data, fl, ve, wa, so, la, ti, fr, ms⟩ := f
  by_cases hk : 1 ≤ k ∧ k ≤ 14
  rotate_left
  · rw [decide_eq_false (fun h => hk h.1)]
    exact fits_k _ _ _ _ _ _ _ _ _ _ _ _ _ _ p np w (by omega)
  obtain ⟨hk1, hk2⟩ := hk
  by_cases c1 : hP k ∨ path = []
  rotate_left
  · rw [decide_eq_false (fun h => c1 h.2.1.1)]
    exact fits_1 _ _ _ _ _ _ _ _ _ _ _ _ _ _ p np w hk1 hk2  (by simpa using c1)
  have e1 : (decide (hP k) || path.isEmpty) = true := by simpa using c1
  by_cases c2 : hD k ∨ data = []
  rotate_left
  · rw [decide_eq_false (fun h => c2 h.2.1.2.1)]
    exact fits_2 _ _ _ _ _ _ _ _ _ _ _ _ _ _ p np w hk1 hk2 e1 (by simpa using c2)
  have e2 : (decide (hD k) || (data.length : Int) == 0) = true := by simpa using c2
  by_cases c3 : k = 3 ∨ fl = 0
  rotate_left
  · rw [decide_eq_false (fun h => c3 h.2.1.2.2.1)]
    exact fits_3 _ _ _ _ _ _ _ _ _ _ _ _ _ _ p np w hk1 hk2 e1 e2 (by simpa using c3)
  have e3 : (k == 3 || fl == 0) = true := by simpa using c3
  by_cases c4 : hV k ∨ ve = 0
  rotate_left
  · rw [decide_eq_false (fun h => c4 h.2.1.2.2.2.1)]
    exact fits_4 _ _ _ _ _ _ _ _ _ _ _ _ _ _ p np w hk1 hk2 e1 e2 e3 (by simpa using c4)
  have e4 : (decide (hV k) || ve == 0) = true := by simpa using c4
  by_cases c5 : hW k ∨ wa = false
  rotate_left
  · rw [decide_eq_false (fun h => c5 h.2.1.2.2.2.2.1)]
    exact fits_5 _ _ _ _ _ _ _ _ _ _ _ _ _ _ p np w hk1 hk2 e1 e2 e3 e4 (by simpa using c5)
  have e5 : (decide (hW k) || !wa) = true := by simpa using c5
  by_cases c6 : k = 14 ∨ so = 0
  rotate_left
  · rw [decide_eq_false (fun h => c6 h.2.1.2.2.2.2.2.1)]
    exact fits_6 _ _ _ _ _ _ _ _ _ _ _ _ _ _ p np w hk1 hk2 e1 e2 e3 e4 e5 (by simpa using c6)
  have e6 : (k == 14 || so == 0) = true := by simpa using c6
  by_cases c7 : hL k ∨ la = 0
  rotate_left
  · rw [decide_eq_false (fun h => c7 h.2.1.2.2.2.2.2.2.1)]
    exact fits_7 _ _ _ _ _ _ _ _ _ _ _ _ _ _ p np w hk1 hk2 e1 e2 e3 e4 e5 e6 (by simpa using c7)
  have e7 : (decide (hL k) || la == 0) = true := by simpa using c7
  by_cases c8 : k = 1 ∨ ti = 0
  rotate_left
  · rw [decide_eq_false (fun h => c8 h.2.1.2.2.2.2.2.2.2.1)]
    exact fits_8 _ _ _ _ _ _ _ _ _ _ _ _ _ _ p np w hk1 hk2 e1 e2 e3 e4 e5 e6 e7 (by simpa using c8)
  have e8 : (k == 1 || ti == 0) = true := by simpa using c8
  by_cases c9 : k = 12 ∨ (fr = 0 ∧ ms = [])
  rotate_left
  · rw [decide_eq_false (fun h => c9 h.2.1.2.2.2.2.2.2.2.2.1)]
    by_cases hfr : fr = 0
    · exact fits_9A _ _ _ _ _ _ _ _ _ _ _ _ _ _ p np w hk1 hk2 e1 e2 e3 e4 e5 e6 e7 e8 (by simp only [hfr, true_and] at c9; simpa using c9) (by simpa using hfr)
    · exact fits_9B _ _ _ _ _ _ _ _ _ _ _ _ _ _ p np w hk1 hk2 e1 e2 e3 e4 e5 e6 e7 e8 (by simp only [hfr, false_and, or_false] at c9; simpa using c9) (by simpa using hfr)
  by_cases c10 : k = 11 ∨ np = 0
  rotate_left
  · rw [decide_eq_false (fun h => c10 h.2.1.2.2.2.2.2.2.2.2.2)]
    by_cases hfr : fr = 0
    · exact fits_10A _ _ _ _ _ _ _ _ _ _ _ _ _ _ p np w hk1 hk2 e1 e2 e3 e4 e5 e6 e7 e8 (by simp only [hfr, true_and] at c9; simpa using c9) (by simpa using c10) (by simpa using hfr)
    · exact fits_10B _ _ _ _ _ _ _ _ _ _ _ _ _ _ p np w hk1 hk2 e1 e2 e3 e4 e5 e6 e7 e8 (by simp only [hfr, false_and, or_false] at c9; simpa using c9) (by simpa using c10) (by simpa using hfr)
  rw [show decide (FitsA ⟨k, x, s, t, path, data, fl, ve, wa, so, la, ti, fr, ms⟩ np) = decide (LimA ⟨k, x, s, t, path, data, fl, ve, wa, so, la, ti, fr, ms⟩) from decide_eq_decide.2 ⟨fun h => h.2.2, fun h => ⟨⟨hk1, hk2⟩, ⟨c1, c2, c3, c4, c5, c6, c7, c8, c9, c10⟩, h⟩⟩]
  by_cases hfr : fr = 0
  · exact fits_TA _ _ _ _ _ _ _ _ _ _ _ _ _ _ p np w hk1 hk2 e1 e2 e3 e4 e5 e6 e7 e8 (by simp only [hfr, true_and] at c9; simpa using c9) (by simpa using c10) (by simpa using hfr)
  · exact fits_TB _ _ _ _ _ _ _ _ _ _ _ _ _ _ p np w hk1 hk2 e1 e2 e3 e4 e5 e6 e7 e8 (by simp only [hfr, false_and, or_false] at c9; simpa using c9) (by simpa using c10) (by simpa using hfr)
end Go.Proofs.YtlckgkpgllhpbaaDoor
