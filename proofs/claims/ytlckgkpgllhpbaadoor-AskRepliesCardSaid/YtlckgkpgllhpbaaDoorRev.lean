/-
  Rev: the document's RightEvent, PutEvent.
-/
import Derived.Test.YtlckgkpgllhpbaaDoorRab
import Derived.Test.YtlckgkpgllhpbaaDoorAev
namespace Go.Proofs.YtlckgkpgllhpbaaDoor
open Go.RowKit

set_option maxHeartbeats 3200000 in
theorem rhappened_calls (f : Fe) (w : World) : Calls Tryd.prog 45 #[.agg (ecells f)] w fun e w' => e = .returned (.bool (decide (RightE f))) ∧ Fr NoB w w' := by
  obtain ⟨k, so, path, z⟩ := f
  have hR : decide (RightE ⟨k, so, path, z⟩) = (decide (1 ≤ k) && (decide (k ≤ 4) && (decide (1 ≤ so) && (decide (so ≤ 3) && (decide ((path.length : Int) ≤ 220) && decide (0 ≤ z)))))) := by
    rw [Bool.eq_iff_iff]
    simp only [Bool.and_eq_true, decide_eq_true_eq]
    unfold RightE
    simp only
    omega
  rw [hR]
  clear hR
  simp only [ecells]
  have F := Lib.hid ((Fr.refl NoB w).alloc (.cells #[.int .u8 k, .int .u8 so, .string ⟨path.toArray⟩, .int .i64 z] 46))
  by_cases q0 : 1 ≤ k
  rotate_left
  · have HZ := Lib.hid (decide_eq_false q0)
    go_enter Tryd.func45, Tryd.ntmps45
    go_wp2
    go_ret
    exact ⟨by simp only [HZ.out, Bool.false_and]; rfl, F.out⟩
  have E0 := Lib.hid (decide_eq_true q0)
  by_cases q1 : k ≤ 4
  rotate_left
  · have HZ := Lib.hid (decide_eq_false q1)
    go_enter Tryd.func45, Tryd.ntmps45
    go_wp2
    go_ret
    exact ⟨by simp only [HZ.out, Bool.false_and]; rfl, F.out⟩
  have E1 := Lib.hid (decide_eq_true q1)
  by_cases q2 : 1 ≤ so
  rotate_left
  · have HZ := Lib.hid (decide_eq_false q2)
    go_enter Tryd.func45, Tryd.ntmps45
    go_wp2
    go_ret
    exact ⟨by simp only [HZ.out, Bool.false_and]; rfl, F.out⟩
  have E2 := Lib.hid (decide_eq_true q2)
  by_cases q3 : so ≤ 3
  rotate_left
  · have HZ := Lib.hid (decide_eq_false q3)
    go_enter Tryd.func45, Tryd.ntmps45
    go_wp2
    go_ret
    exact ⟨by simp only [HZ.out, Bool.false_and]; rfl, F.out⟩
  have E3 := Lib.hid (decide_eq_true q3)
  by_cases q4 : (path.length : Int) ≤ 220
  rotate_left
  · have HZ := Lib.hid (decide_eq_false q4)
    go_enter Tryd.func45, Tryd.ntmps45
    go_wp2
    go_ret
    exact ⟨by simp only [HZ.out, Bool.false_and]; rfl, F.out⟩
  have E4 := Lib.hid (decide_eq_true q4)
  by_cases q5 : 0 ≤ z
  rotate_left
  · have HZ := Lib.hid (decide_eq_false q5)
    go_enter Tryd.func45, Tryd.ntmps45
    go_wp2
    go_ret
    exact ⟨by simp only [HZ.out]; rfl, F.out⟩
  have E5 := Lib.hid (decide_eq_true q5)
  · go_enter Tryd.func45, Tryd.ntmps45
    go_wp2
    go_ret
    exact ⟨by simp only [E0.out, E1.out, E2.out, E3.out, E4.out, E5.out, Bool.and_true]; rfl, F.out⟩
set_option maxHeartbeats 1600000 in
theorem reput_calls (f : Fe) (w : World) (hf : f.Ok) : Calls Tryd.prog 18 #[.agg (ecells f)] w fun e w' => ∃ v, e = .returned (.tuple #[v, .int .i64 (putEv f).2]) ∧ w'.ownsRow w.heap.size 5 1 v (putEv f).1.length (bv (putEv f).1) ∧ Fr NoB w w' := by
  have hc := fun W => rhappened_calls f W
  by_cases hR : RightE f
  rotate_left
  · rw [show putEv f = ([], 4) from if_neg hR]
    rw [decide_eq_false hR] at hc
    have HC := Lib.hid hc
    clear hc hR hf
    obtain ⟨k, so, path, z⟩ := f
    simp only [ecells] at *
    go_enter Tryd.func18, Tryd.ntmps18
    go_wp2_with (fail)
    refine (HC.out _).mono ?_
    rintro e w1 ⟨rfl, f1⟩
    go_wp2
    go_ret2
    exact ⟨.slice none 0 0, rfl, World.ownsRow_nil _ _ _ _, ((Fr.refl NoB w).alloc _).then f1⟩
  · rw [show putEv f = (evB f, 0) from if_pos hR]
    rw [decide_eq_true hR] at hc
    have HC := Lib.hid hc
    have HF := Lib.hid hf
    have HPL := Lib.hid hR.2.2.1
    have hev : evB f = ([kindB f.k] ++ [kindB f.so]) ++ textB f.path ++ intB f.z := by simp [evB]
    obtain ⟨Z, hZ⟩ : ∃ Z, evB f = Z := ⟨_, rfl⟩
    have hlen := evB_len hR
    rw [hZ] at hev hlen ⊢
    have HZ := Lib.hid hev
    have HLEN := Lib.hid hlen
    clear hc hR hf hZ hev hlen
    obtain ⟨k, so, path, z⟩ := f
    simp only at HZ HPL
    simp only [ecells] at *
    go_enter Tryd.func18, Tryd.ntmps18
    go_wp2_with (fail)
    have F0 := Lib.hid ((Fr.refl NoB w).alloc (.cells #[.int .u8 k, .int .u8 so, .string ⟨path.toArray⟩, .int .i64 z] 46))
    have HBX := Lib.hid (heap_alloc_new w (.cells #[.int .u8 k, .int .u8 so, .string ⟨path.toArray⟩, .int .i64 z] 46))
    generalize w.alloc (.cells #[.int .u8 k, .int .u8 so, .string ⟨path.toArray⟩, .int .i64 z] 46) = wb at F0 HBX ⊢
    generalize w.heap.size = NB at *
    refine (HC.out _).mono ?_
    rintro e w1 ⟨rfl, f1⟩
    have F1 := Lib.hid f1
    clear f1 HC
    go_wp2_with (fail)
    refine (rwNew _).mono ?_
    rintro e w2 ⟨rfl, a2, f2, -⟩
    have t2 : WRx wb w2 w1.heap.size [] none := ⟨a2, F1.out.then f2, fun k hk => by
      rcases hk with rfl | hk
      · exact F1.out.size
      · cases hk⟩
    have T2 := Lib.hid t2
    have d0 := (cells_of (t2.fr.at_ HBX.out (fun x => x)) 0).1
    simp only [List.getElem?_toArray, List.getElem?_cons_zero] at d0
    generalize w1.heap.size = pw at *
    clear a2 f2 t2 F1
    go_wp2_with (fail)
    refine (rwByteI pw none [] k _ HF.out.k T2.out.a (by simp)).mono ?_
    rintro e w3 ⟨rfl, G3, a3, f3, g3⟩
    rw [List.nil_append] at a3
    have T3 := Lib.hid (T2.out.next a3 f3 g3)
    clear a3 f3 g3 d0 T2
    have d1 := (cells_of (T3.out.fr.at_ HBX.out (fun x => x)) 1).1
    simp only [List.getElem?_toArray, List.getElem?_cons_zero, List.getElem?_cons_succ] at d1
    go_wp2_with (fail)
    refine (rwByteI pw G3 [kindB k] so _ HF.out.so T3.out.a (by simp)).mono ?_
    rintro e w4 ⟨rfl, G4, a4, f4, g4⟩
    have T4 := Lib.hid (T3.out.next a4 f4 g4)
    clear a4 f4 g4 d1 T3
    have d2 := (cells_of (T4.out.fr.at_ HBX.out (fun x => x)) 2).1
    simp only [List.getElem?_toArray, List.getElem?_cons_zero, List.getElem?_cons_succ] at d2
    go_wp2_with (fail)
    refine (rwText pw G4 _ ⟨path.toArray⟩ _ T4.out.a (by have := HPL.out; simp only [List.length_append, List.length_cons, List.length_nil, mk_size]; omega)).mono ?_
    rintro e w5 ⟨rfl, G5, a5, f5, g5⟩
    rw [show (⟨path.toArray⟩ : ByteArray).data.toList = path by simp] at a5
    have T5 := Lib.hid (T4.out.next a5 f5 g5)
    clear a5 f5 g5 d2 T4
    have d3 := (cells_of (T5.out.fr.at_ HBX.out (fun x => x)) 3).1
    simp only [List.getElem?_toArray, List.getElem?_cons_zero, List.getElem?_cons_succ] at d3
    go_wp2_with (fail)
    refine (rwInt pw G5 _ z _ HF.out.z.1 HF.out.z.2 T5.out.a (by have := HPL.out; have := textB_len path; simp only [List.length_append, List.length_cons, List.length_nil]; omega)).mono ?_
    rintro e w6 ⟨rfl, G6, a6, f6, g6⟩
    have T6 := Lib.hid (T5.out.next a6 f6 g6)
    rw [← HZ.out] at T6
    clear a6 f6 g6 d3 T5
    go_wp2_with (fail)
    refine (rwDone pw G6 _ _ T6.out.a (by have := HLEN.out; omega)).mono ?_
    rintro e w8 ⟨v8, rfl, o8, b8⟩
    obtain ⟨A8, c8, rfl, n1, n2⟩ := own_form o8
    go_wp2
    go_ret2
    exact ⟨.slice A8 Z.length c8, rfl, own_low o8 (Nat.le_trans F0.out.size T6.out.fr.size), (F0.out.then T6.out.fr).then (Fr.ofBelow b8)⟩
end Go.Proofs.YtlckgkpgllhpbaaDoor
