/-
  Rao: the document's Of, fits.
-/
import Derived.Test.YtlckgkpgllhpbaaDoorAyw
namespace Go.Proofs.YtlckgkpgllhpbaaDoor
open Go.RowKit

theorem hsize10 : (Tryd.prog.info? 111).map (·.size) = some 10 := by kernel_rfl
/-- What a kind has. -/
def hasC (k : Int) : Array Value := #[.bool (decide (hP k)), .bool (decide (hD k)), .bool (decide (k = 3)), .bool (decide (hV k)), .bool (decide (hW k)), .bool (decide (k = 14)), .bool (decide (hL k)), .bool (decide (k = 1)), .bool (decide (k = 12)), .bool (decide (k = 11))]
set_option maxRecDepth 8000 in
theorem rof1 (w : World) : Calls Tryd.prog 68 #[.int .u8 1] w fun e w' => e = .returned (.tuple #[.agg #[.bool false, .bool false, .bool false, .bool false, .bool false, .bool false, .bool true, .bool true, .bool false, .bool false], .bool true]) ∧ Fr NoB w w' := by
  go_enter Tryd.func68, Tryd.ntmps68
  go_wp2_with (first | (with_reducible refine held_store (ty := 111) ?_) | fail)
  unfold Held
  refine wpList_store_row rfl 111 _ _ rfl w.heap.size #[.bool false, .bool false, .bool false, .bool false, .bool false, .bool false, .bool true, .bool true, .bool false, .bool false] ?_ ?_ _ _ (heap_alloc_new w _) hsize10 rfl (by simp [Value.oneCell']) ?_
  · rfl
  · rfl
  rw [World.setRow_alloc_new]
  go_wp2
  refine bodyPost_ret (v := .tuple #[.agg #[.bool false, .bool false, .bool false, .bool false, .bool false, .bool false, .bool true, .bool true, .bool false, .bool false], .bool true]) (results_row_tmp (fn := Tryd.f68) (p := 2) (u := 3) (ty := 111) (by kernel_rfl) _ _ w.heap.size 111 _ _ _ rfl (heap_alloc_new w _) Tryd.underlying111 rfl (by kernel_rfl)) rfl ?_
  exact ⟨rfl, (Fr.refl NoB w).alloc _⟩
set_option maxRecDepth 8000 in
theorem rof2 (w : World) : Calls Tryd.prog 68 #[.int .u8 2] w fun e w' => e = .returned (.tuple #[.agg #[.bool false, .bool false, .bool false, .bool false, .bool false, .bool false, .bool false, .bool false, .bool false, .bool false], .bool true]) ∧ Fr NoB w w' := by
  go_enter Tryd.func68, Tryd.ntmps68
  go_wp2_with (first | (with_reducible refine held_store (ty := 111) ?_) | fail)
  unfold Held
  refine wpList_store_row rfl 111 _ _ rfl w.heap.size #[.bool false, .bool false, .bool false, .bool false, .bool false, .bool false, .bool false, .bool false, .bool false, .bool false] ?_ ?_ _ _ (heap_alloc_new w _) hsize10 rfl (by simp [Value.oneCell']) ?_
  · rfl
  · rfl
  rw [World.setRow_alloc_new]
  go_wp2
  refine bodyPost_ret (v := .tuple #[.agg #[.bool false, .bool false, .bool false, .bool false, .bool false, .bool false, .bool false, .bool false, .bool false, .bool false], .bool true]) (results_row_tmp (fn := Tryd.f68) (p := 2) (u := 3) (ty := 111) (by kernel_rfl) _ _ w.heap.size 111 _ _ _ rfl (heap_alloc_new w _) Tryd.underlying111 rfl (by kernel_rfl)) rfl ?_
  exact ⟨rfl, (Fr.refl NoB w).alloc _⟩
set_option maxRecDepth 8000 in
theorem rof3 (w : World) : Calls Tryd.prog 68 #[.int .u8 3] w fun e w' => e = .returned (.tuple #[.agg #[.bool true, .bool true, .bool true, .bool false, .bool false, .bool false, .bool false, .bool false, .bool false, .bool false], .bool true]) ∧ Fr NoB w w' := by
  go_enter Tryd.func68, Tryd.ntmps68
  go_wp2_with (first | (with_reducible refine held_store (ty := 111) ?_) | fail)
  unfold Held
  refine wpList_store_row rfl 111 _ _ rfl w.heap.size #[.bool true, .bool true, .bool true, .bool false, .bool false, .bool false, .bool false, .bool false, .bool false, .bool false] ?_ ?_ _ _ (heap_alloc_new w _) hsize10 rfl (by simp [Value.oneCell']) ?_
  · rfl
  · rfl
  rw [World.setRow_alloc_new]
  go_wp2
  refine bodyPost_ret (v := .tuple #[.agg #[.bool true, .bool true, .bool true, .bool false, .bool false, .bool false, .bool false, .bool false, .bool false, .bool false], .bool true]) (results_row_tmp (fn := Tryd.f68) (p := 2) (u := 3) (ty := 111) (by kernel_rfl) _ _ w.heap.size 111 _ _ _ rfl (heap_alloc_new w _) Tryd.underlying111 rfl (by kernel_rfl)) rfl ?_
  exact ⟨rfl, (Fr.refl NoB w).alloc _⟩
set_option maxRecDepth 8000 in
theorem rof4 (w : World) : Calls Tryd.prog 68 #[.int .u8 4] w fun e w' => e = .returned (.tuple #[.agg #[.bool true, .bool false, .bool false, .bool true, .bool false, .bool false, .bool false, .bool false, .bool false, .bool false], .bool true]) ∧ Fr NoB w w' := by
  go_enter Tryd.func68, Tryd.ntmps68
  go_wp2_with (first | (with_reducible refine held_store (ty := 111) ?_) | fail)
  unfold Held
  refine wpList_store_row rfl 111 _ _ rfl w.heap.size #[.bool true, .bool false, .bool false, .bool true, .bool false, .bool false, .bool false, .bool false, .bool false, .bool false] ?_ ?_ _ _ (heap_alloc_new w _) hsize10 rfl (by simp [Value.oneCell']) ?_
  · rfl
  · rfl
  rw [World.setRow_alloc_new]
  go_wp2
  refine bodyPost_ret (v := .tuple #[.agg #[.bool true, .bool false, .bool false, .bool true, .bool false, .bool false, .bool false, .bool false, .bool false, .bool false], .bool true]) (results_row_tmp (fn := Tryd.f68) (p := 2) (u := 3) (ty := 111) (by kernel_rfl) _ _ w.heap.size 111 _ _ _ rfl (heap_alloc_new w _) Tryd.underlying111 rfl (by kernel_rfl)) rfl ?_
  exact ⟨rfl, (Fr.refl NoB w).alloc _⟩
set_option maxRecDepth 8000 in
theorem rof5 (w : World) : Calls Tryd.prog 68 #[.int .u8 5] w fun e w' => e = .returned (.tuple #[.agg #[.bool true, .bool true, .bool false, .bool true, .bool false, .bool false, .bool false, .bool false, .bool false, .bool false], .bool true]) ∧ Fr NoB w w' := by
  go_enter Tryd.func68, Tryd.ntmps68
  go_wp2_with (first | (with_reducible refine held_store (ty := 111) ?_) | fail)
  unfold Held
  refine wpList_store_row rfl 111 _ _ rfl w.heap.size #[.bool true, .bool true, .bool false, .bool true, .bool false, .bool false, .bool false, .bool false, .bool false, .bool false] ?_ ?_ _ _ (heap_alloc_new w _) hsize10 rfl (by simp [Value.oneCell']) ?_
  · rfl
  · rfl
  rw [World.setRow_alloc_new]
  go_wp2
  refine bodyPost_ret (v := .tuple #[.agg #[.bool true, .bool true, .bool false, .bool true, .bool false, .bool false, .bool false, .bool false, .bool false, .bool false], .bool true]) (results_row_tmp (fn := Tryd.f68) (p := 2) (u := 3) (ty := 111) (by kernel_rfl) _ _ w.heap.size 111 _ _ _ rfl (heap_alloc_new w _) Tryd.underlying111 rfl (by kernel_rfl)) rfl ?_
  exact ⟨rfl, (Fr.refl NoB w).alloc _⟩
set_option maxRecDepth 8000 in
theorem rof6 (w : World) : Calls Tryd.prog 68 #[.int .u8 6] w fun e w' => e = .returned (.tuple #[.agg #[.bool true, .bool false, .bool false, .bool true, .bool false, .bool false, .bool false, .bool false, .bool false, .bool false], .bool true]) ∧ Fr NoB w w' := by
  go_enter Tryd.func68, Tryd.ntmps68
  go_wp2_with (first | (with_reducible refine held_store (ty := 111) ?_) | fail)
  unfold Held
  refine wpList_store_row rfl 111 _ _ rfl w.heap.size #[.bool true, .bool false, .bool false, .bool true, .bool false, .bool false, .bool false, .bool false, .bool false, .bool false] ?_ ?_ _ _ (heap_alloc_new w _) hsize10 rfl (by simp [Value.oneCell']) ?_
  · rfl
  · rfl
  rw [World.setRow_alloc_new]
  go_wp2
  refine bodyPost_ret (v := .tuple #[.agg #[.bool true, .bool false, .bool false, .bool true, .bool false, .bool false, .bool false, .bool false, .bool false, .bool false], .bool true]) (results_row_tmp (fn := Tryd.f68) (p := 2) (u := 3) (ty := 111) (by kernel_rfl) _ _ w.heap.size 111 _ _ _ rfl (heap_alloc_new w _) Tryd.underlying111 rfl (by kernel_rfl)) rfl ?_
  exact ⟨rfl, (Fr.refl NoB w).alloc _⟩
set_option maxRecDepth 8000 in
theorem rof7 (w : World) : Calls Tryd.prog 68 #[.int .u8 7] w fun e w' => e = .returned (.tuple #[.agg #[.bool true, .bool false, .bool false, .bool false, .bool true, .bool false, .bool false, .bool false, .bool false, .bool false], .bool true]) ∧ Fr NoB w w' := by
  go_enter Tryd.func68, Tryd.ntmps68
  go_wp2_with (first | (with_reducible refine held_store (ty := 111) ?_) | fail)
  unfold Held
  refine wpList_store_row rfl 111 _ _ rfl w.heap.size #[.bool true, .bool false, .bool false, .bool false, .bool true, .bool false, .bool false, .bool false, .bool false, .bool false] ?_ ?_ _ _ (heap_alloc_new w _) hsize10 rfl (by simp [Value.oneCell']) ?_
  · rfl
  · rfl
  rw [World.setRow_alloc_new]
  go_wp2
  refine bodyPost_ret (v := .tuple #[.agg #[.bool true, .bool false, .bool false, .bool false, .bool true, .bool false, .bool false, .bool false, .bool false, .bool false], .bool true]) (results_row_tmp (fn := Tryd.f68) (p := 2) (u := 3) (ty := 111) (by kernel_rfl) _ _ w.heap.size 111 _ _ _ rfl (heap_alloc_new w _) Tryd.underlying111 rfl (by kernel_rfl)) rfl ?_
  exact ⟨rfl, (Fr.refl NoB w).alloc _⟩
set_option maxRecDepth 8000 in
theorem rof8 (w : World) : Calls Tryd.prog 68 #[.int .u8 8] w fun e w' => e = .returned (.tuple #[.agg #[.bool true, .bool false, .bool false, .bool false, .bool true, .bool false, .bool false, .bool false, .bool false, .bool false], .bool true]) ∧ Fr NoB w w' := by
  go_enter Tryd.func68, Tryd.ntmps68
  go_wp2_with (first | (with_reducible refine held_store (ty := 111) ?_) | fail)
  unfold Held
  refine wpList_store_row rfl 111 _ _ rfl w.heap.size #[.bool true, .bool false, .bool false, .bool false, .bool true, .bool false, .bool false, .bool false, .bool false, .bool false] ?_ ?_ _ _ (heap_alloc_new w _) hsize10 rfl (by simp [Value.oneCell']) ?_
  · rfl
  · rfl
  rw [World.setRow_alloc_new]
  go_wp2
  refine bodyPost_ret (v := .tuple #[.agg #[.bool true, .bool false, .bool false, .bool false, .bool true, .bool false, .bool false, .bool false, .bool false, .bool false], .bool true]) (results_row_tmp (fn := Tryd.f68) (p := 2) (u := 3) (ty := 111) (by kernel_rfl) _ _ w.heap.size 111 _ _ _ rfl (heap_alloc_new w _) Tryd.underlying111 rfl (by kernel_rfl)) rfl ?_
  exact ⟨rfl, (Fr.refl NoB w).alloc _⟩
set_option maxRecDepth 8000 in
theorem rof9 (w : World) : Calls Tryd.prog 68 #[.int .u8 9] w fun e w' => e = .returned (.tuple #[.agg #[.bool true, .bool false, .bool false, .bool false, .bool true, .bool false, .bool false, .bool false, .bool false, .bool false], .bool true]) ∧ Fr NoB w w' := by
  go_enter Tryd.func68, Tryd.ntmps68
  go_wp2_with (first | (with_reducible refine held_store (ty := 111) ?_) | fail)
  unfold Held
  refine wpList_store_row rfl 111 _ _ rfl w.heap.size #[.bool true, .bool false, .bool false, .bool false, .bool true, .bool false, .bool false, .bool false, .bool false, .bool false] ?_ ?_ _ _ (heap_alloc_new w _) hsize10 rfl (by simp [Value.oneCell']) ?_
  · rfl
  · rfl
  rw [World.setRow_alloc_new]
  go_wp2
  refine bodyPost_ret (v := .tuple #[.agg #[.bool true, .bool false, .bool false, .bool false, .bool true, .bool false, .bool false, .bool false, .bool false, .bool false], .bool true]) (results_row_tmp (fn := Tryd.f68) (p := 2) (u := 3) (ty := 111) (by kernel_rfl) _ _ w.heap.size 111 _ _ _ rfl (heap_alloc_new w _) Tryd.underlying111 rfl (by kernel_rfl)) rfl ?_
  exact ⟨rfl, (Fr.refl NoB w).alloc _⟩
set_option maxRecDepth 8000 in
theorem rof10 (w : World) : Calls Tryd.prog 68 #[.int .u8 10] w fun e w' => e = .returned (.tuple #[.agg #[.bool false, .bool false, .bool false, .bool false, .bool false, .bool false, .bool false, .bool false, .bool false, .bool false], .bool true]) ∧ Fr NoB w w' := by
  go_enter Tryd.func68, Tryd.ntmps68
  go_wp2_with (first | (with_reducible refine held_store (ty := 111) ?_) | fail)
  unfold Held
  refine wpList_store_row rfl 111 _ _ rfl w.heap.size #[.bool false, .bool false, .bool false, .bool false, .bool false, .bool false, .bool false, .bool false, .bool false, .bool false] ?_ ?_ _ _ (heap_alloc_new w _) hsize10 rfl (by simp [Value.oneCell']) ?_
  · rfl
  · rfl
  rw [World.setRow_alloc_new]
  go_wp2
  refine bodyPost_ret (v := .tuple #[.agg #[.bool false, .bool false, .bool false, .bool false, .bool false, .bool false, .bool false, .bool false, .bool false, .bool false], .bool true]) (results_row_tmp (fn := Tryd.f68) (p := 2) (u := 3) (ty := 111) (by kernel_rfl) _ _ w.heap.size 111 _ _ _ rfl (heap_alloc_new w _) Tryd.underlying111 rfl (by kernel_rfl)) rfl ?_
  exact ⟨rfl, (Fr.refl NoB w).alloc _⟩
set_option maxRecDepth 8000 in
theorem rof11 (w : World) : Calls Tryd.prog 68 #[.int .u8 11] w fun e w' => e = .returned (.tuple #[.agg #[.bool false, .bool false, .bool false, .bool false, .bool false, .bool false, .bool false, .bool false, .bool false, .bool true], .bool true]) ∧ Fr NoB w w' := by
  go_enter Tryd.func68, Tryd.ntmps68
  go_wp2_with (first | (with_reducible refine held_store (ty := 111) ?_) | fail)
  unfold Held
  refine wpList_store_row rfl 111 _ _ rfl w.heap.size #[.bool false, .bool false, .bool false, .bool false, .bool false, .bool false, .bool false, .bool false, .bool false, .bool true] ?_ ?_ _ _ (heap_alloc_new w _) hsize10 rfl (by simp [Value.oneCell']) ?_
  · rfl
  · rfl
  rw [World.setRow_alloc_new]
  go_wp2
  refine bodyPost_ret (v := .tuple #[.agg #[.bool false, .bool false, .bool false, .bool false, .bool false, .bool false, .bool false, .bool false, .bool false, .bool true], .bool true]) (results_row_tmp (fn := Tryd.f68) (p := 2) (u := 3) (ty := 111) (by kernel_rfl) _ _ w.heap.size 111 _ _ _ rfl (heap_alloc_new w _) Tryd.underlying111 rfl (by kernel_rfl)) rfl ?_
  exact ⟨rfl, (Fr.refl NoB w).alloc _⟩
set_option maxRecDepth 8000 in
theorem rof12 (w : World) : Calls Tryd.prog 68 #[.int .u8 12] w fun e w' => e = .returned (.tuple #[.agg #[.bool false, .bool false, .bool false, .bool false, .bool false, .bool false, .bool false, .bool false, .bool true, .bool false], .bool true]) ∧ Fr NoB w w' := by
  go_enter Tryd.func68, Tryd.ntmps68
  go_wp2_with (first | (with_reducible refine held_store (ty := 111) ?_) | fail)
  unfold Held
  refine wpList_store_row rfl 111 _ _ rfl w.heap.size #[.bool false, .bool false, .bool false, .bool false, .bool false, .bool false, .bool false, .bool false, .bool true, .bool false] ?_ ?_ _ _ (heap_alloc_new w _) hsize10 rfl (by simp [Value.oneCell']) ?_
  · rfl
  · rfl
  rw [World.setRow_alloc_new]
  go_wp2
  refine bodyPost_ret (v := .tuple #[.agg #[.bool false, .bool false, .bool false, .bool false, .bool false, .bool false, .bool false, .bool false, .bool true, .bool false], .bool true]) (results_row_tmp (fn := Tryd.f68) (p := 2) (u := 3) (ty := 111) (by kernel_rfl) _ _ w.heap.size 111 _ _ _ rfl (heap_alloc_new w _) Tryd.underlying111 rfl (by kernel_rfl)) rfl ?_
  exact ⟨rfl, (Fr.refl NoB w).alloc _⟩
set_option maxRecDepth 8000 in
theorem rof13 (w : World) : Calls Tryd.prog 68 #[.int .u8 13] w fun e w' => e = .returned (.tuple #[.agg #[.bool false, .bool false, .bool false, .bool false, .bool false, .bool false, .bool false, .bool false, .bool false, .bool false], .bool true]) ∧ Fr NoB w w' := by
  go_enter Tryd.func68, Tryd.ntmps68
  go_wp2_with (first | (with_reducible refine held_store (ty := 111) ?_) | fail)
  unfold Held
  refine wpList_store_row rfl 111 _ _ rfl w.heap.size #[.bool false, .bool false, .bool false, .bool false, .bool false, .bool false, .bool false, .bool false, .bool false, .bool false] ?_ ?_ _ _ (heap_alloc_new w _) hsize10 rfl (by simp [Value.oneCell']) ?_
  · rfl
  · rfl
  rw [World.setRow_alloc_new]
  go_wp2
  refine bodyPost_ret (v := .tuple #[.agg #[.bool false, .bool false, .bool false, .bool false, .bool false, .bool false, .bool false, .bool false, .bool false, .bool false], .bool true]) (results_row_tmp (fn := Tryd.f68) (p := 2) (u := 3) (ty := 111) (by kernel_rfl) _ _ w.heap.size 111 _ _ _ rfl (heap_alloc_new w _) Tryd.underlying111 rfl (by kernel_rfl)) rfl ?_
  exact ⟨rfl, (Fr.refl NoB w).alloc _⟩
set_option maxRecDepth 8000 in
theorem rof14 (w : World) : Calls Tryd.prog 68 #[.int .u8 14] w fun e w' => e = .returned (.tuple #[.agg #[.bool true, .bool false, .bool false, .bool false, .bool false, .bool true, .bool true, .bool false, .bool false, .bool false], .bool true]) ∧ Fr NoB w w' := by
  go_enter Tryd.func68, Tryd.ntmps68
  go_wp2_with (first | (with_reducible refine held_store (ty := 111) ?_) | fail)
  unfold Held
  refine wpList_store_row rfl 111 _ _ rfl w.heap.size #[.bool true, .bool false, .bool false, .bool false, .bool false, .bool true, .bool true, .bool false, .bool false, .bool false] ?_ ?_ _ _ (heap_alloc_new w _) hsize10 rfl (by simp [Value.oneCell']) ?_
  · rfl
  · rfl
  rw [World.setRow_alloc_new]
  go_wp2
  refine bodyPost_ret (v := .tuple #[.agg #[.bool true, .bool false, .bool false, .bool false, .bool false, .bool true, .bool true, .bool false, .bool false, .bool false], .bool true]) (results_row_tmp (fn := Tryd.f68) (p := 2) (u := 3) (ty := 111) (by kernel_rfl) _ _ w.heap.size 111 _ _ _ rfl (heap_alloc_new w _) Tryd.underlying111 rfl (by kernel_rfl)) rfl ?_
  exact ⟨rfl, (Fr.refl NoB w).alloc _⟩
set_option maxRecDepth 8000 in
theorem rof_no (k : Int) (hk : ¬ (1 ≤ k ∧ k ≤ 14)) (w : World) : Calls Tryd.prog 68 #[.int .u8 k] w fun e w' => e = .returned (.tuple #[.agg #[.bool false, .bool false, .bool false, .bool false, .bool false, .bool false, .bool false, .bool false, .bool false, .bool false], .bool false]) ∧ Fr NoB w w' := by
  have e1 : (k == 1) = false := by rw [beq_eq_false_iff_ne]; omega
  have e2 : (k == 2) = false := by rw [beq_eq_false_iff_ne]; omega
  have e3 : (k == 3) = false := by rw [beq_eq_false_iff_ne]; omega
  have e4 : (k == 4) = false := by rw [beq_eq_false_iff_ne]; omega
  have e5 : (k == 5) = false := by rw [beq_eq_false_iff_ne]; omega
  have e6 : (k == 6) = false := by rw [beq_eq_false_iff_ne]; omega
  have e7 : (k == 7) = false := by rw [beq_eq_false_iff_ne]; omega
  have e8 : (k == 8) = false := by rw [beq_eq_false_iff_ne]; omega
  have e9 : (k == 9) = false := by rw [beq_eq_false_iff_ne]; omega
  have e10 : (k == 10) = false := by rw [beq_eq_false_iff_ne]; omega
  have e11 : (k == 11) = false := by rw [beq_eq_false_iff_ne]; omega
  have e12 : (k == 12) = false := by rw [beq_eq_false_iff_ne]; omega
  have e13 : (k == 13) = false := by rw [beq_eq_false_iff_ne]; omega
  have e14 : (k == 14) = false := by rw [beq_eq_false_iff_ne]; omega
  clear hk
  go_enter Tryd.func68, Tryd.ntmps68
  go_wp2_with (first | (with_reducible refine held_store (ty := 111) ?_) | fail)
  unfold Held
  refine wpList_store_row rfl 111 _ _ rfl w.heap.size #[.bool false, .bool false, .bool false, .bool false, .bool false, .bool false, .bool false, .bool false, .bool false, .bool false] ?_ ?_ _ _ (heap_alloc_new w _) hsize10 rfl (by simp [Value.oneCell']) ?_
  · rfl
  · rfl
  rw [World.setRow_alloc_new]
  go_wp2
  refine bodyPost_ret (v := .tuple #[.agg #[.bool false, .bool false, .bool false, .bool false, .bool false, .bool false, .bool false, .bool false, .bool false, .bool false], .bool false]) (results_row_tmp (fn := Tryd.f68) (p := 2) (u := 3) (ty := 111) (by kernel_rfl) _ _ w.heap.size 111 _ _ _ rfl (heap_alloc_new w _) Tryd.underlying111 rfl (by kernel_rfl)) rfl ?_
  exact ⟨rfl, (Fr.refl NoB w).alloc _⟩
theorem rof_calls (k : Int) (hk : 1 ≤ k ∧ k ≤ 14) (w : World) : Calls Tryd.prog 68 #[.int .u8 k] w fun e w' => e = .returned (.tuple #[.agg (hasC k), .bool true]) ∧ Fr NoB w w' := by
  have h : k = 1 ∨ k = 2 ∨ k = 3 ∨ k = 4 ∨ k = 5 ∨ k = 6 ∨ k = 7 ∨ k = 8 ∨ k = 9 ∨ k = 10 ∨ k = 11 ∨ k = 12 ∨ k = 13 ∨ k = 14 := by omega
  rcases h with rfl | rfl | rfl | rfl | rfl | rfl | rfl | rfl | rfl | rfl | rfl | rfl | rfl | rfl
  · exact rof1 w
  · exact rof2 w
  · exact rof3 w
  · exact rof4 w
  · exact rof5 w
  · exact rof6 w
  · exact rof7 w
  · exact rof8 w
  · exact rof9 w
  · exact rof10 w
  · exact rof11 w
  · exact rof12 w
  · exact rof13 w
  · exact rof14 w

end Go.Proofs.YtlckgkpgllhpbaaDoor
