/-
  Sgd: a deed in a frame: the program's Put, the document's.
-/
import Derived.Test.YtmlmbahimklfiaaGreatDoorSgb
import Derived.Test.YtmlmbahimklfiaaGreatDoorFrn
namespace Go.Proofs.YtmlmbahimklfiaaGreatDoor
open Go.RowKit

/-- What Put answers. -/
def putS (f : Fd) (l : List (Fd × Nat)) : List UInt8 × Int := if Right f l then (frameB (deedB f l), 0) else ([], 4)
theorem putS_len (f : Fd) (l : List (Fd × Nat)) : (putS f l).1.length ≤ 700008 := by
  unfold putS
  split
  · rename_i h; have := deedB_len h; show (frameB (deedB f l)).length ≤ 700008; rw [frameB_len]; omega
  · simp
theorem framed_row {l : List UInt8} {w w' : World} {e : Ending} (h : Framed l w e w') : ∃ A c, e = .returned (.tuple #[.slice A (frameB l).length c, .int .i64 0]) ∧ (frameB l).length ≤ c ∧ c ≤ maxLen ∧ w'.ownsRow w.heap.size 5 1 (.slice A (frameB l).length c) (frameB l).length (bv (frameB l)) ∧ Fr NoB w w' := by
  obtain ⟨v, rfl, ho, hf⟩ := h
  obtain ⟨A, c, rfl, h1, h2⟩ := own_form ho
  exact ⟨A, c, rfl, h1, h2, ho, hf⟩

set_option maxRecDepth 8000 in
set_option maxHeartbeats 3200000 in
theorem sput_calls {w : World} {cs : Array Value} {f : Fd} {l : List (Fd × Nat)} (h : IsD w cs f l) (hl : l.length ≤ 140737488355328) (hf : f.Ok) (hok : ∀ q ∈ l, q.1.Ok ∧ q.2 ≤ 140737488355328) (hH : Has w) :
    Calls Tryz.prog 7 #[.agg cs] w fun e w' => ∃ A c, e = .returned (.tuple #[.slice A (putS f l).1.length c, .int .i64 (putS f l).2]) ∧ (putS f l).1.length ≤ c ∧ c ≤ maxLen ∧ Rd w' w.heap.size w'.heap.size A (putS f l).1 ∧ Fr NoB w w' := by
  have H16 := Lib.hid h.size
  have hp := fun W (F : Fr NoB w W) => b_put (h.fr F) hl hf hok (hH.fr F)
  have HW0 := Lib.hid (heap_alloc_new w (.cells cs 31))
  have F0 := Lib.hid ((Fr.refl NoB w).alloc (.cells cs 31))
  by_cases hR : Right f l
  · rw [show putD f l = (deedB f l, 0) from if_pos hR] at hp
    rw [show putS f l = (frameB (deedB f l), 0) from if_pos hR]
    have HLEN := Lib.hid (deedB_len hR)
    generalize deedB f l = B at *
    have HP := Lib.hid hp
    clear hp h hf hok hH hR
    go_enter Tryz.func7, Tryz.ntmps7
    go_wp2_with (first | (refine wpList_load_row rfl 31 _ rfl w.heap.size rfl _ _ _ _ HW0.out Tryz.underlying31 rfl (size_of H16.out) ?_) | fail)
    refine (HP.out _ F0.out).mono ?_
    rintro e w2 ⟨A, c, rfl, h1, h2, hr, f2⟩
    go_wp2_with (fail)
    refine (frame_calls A B c _ _ w2 hr (Nat.le_refl _) (by have := HLEN.out; omega)).mono ?_
    intro e w3 h3
    obtain ⟨A3, c3, rfl, h5, h6, ho, f3⟩ := framed_row h3
    go_wp2
    go_ret2
    exact ⟨A3, c3, rfl, h5, h6, (own_rd ho).wide (Nat.le_trans F0.out.size f2.size) (Nat.le_refl _), (F0.out.then f2).then f3⟩
  · rw [show putD f l = ([], 4) from if_neg hR] at hp
    rw [show putS f l = ([], 4) from if_neg hR]
    have HP := Lib.hid hp
    clear hp h hf hok hH hR
    go_enter Tryz.func7, Tryz.ntmps7
    go_wp2_with (first | (refine wpList_load_row rfl 31 _ rfl w.heap.size rfl _ _ _ _ HW0.out Tryz.underlying31 rfl (size_of H16.out) ?_) | fail)
    refine (HP.out _ F0.out).mono ?_
    rintro e w2 ⟨A, c, rfl, h1, h2, hr, f2⟩
    go_wp2
    go_ret2
    exact ⟨none, 0, rfl, Nat.le_refl _, Nat.zero_le _, Rd.nil _ _ _ _, F0.out.then f2⟩
end Go.Proofs.YtmlmbahimklfiaaGreatDoor
