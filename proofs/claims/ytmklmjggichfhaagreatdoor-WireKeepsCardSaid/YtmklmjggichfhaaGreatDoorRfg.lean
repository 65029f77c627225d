/-
  Rfg: the reference's Frame, and Unframe of bytes that are too short or say too much.
-/
import Derived.Test.YtmklmjggichfhaaGreatDoorRff
namespace Go.Proofs.YtmklmjggichfhaaGreatDoor
open Go.RowKit

theorem rsum_fr (A : Option Addr) (l : List UInt8) (c lo hi : Nat) (w : World) (h : Rd w lo hi A l) (_ : hi ≤ w.heap.size) (hl : l.length ≤ 140737488355328) :
    Calls Tryz.prog 42 #[.slice A l.length c] w fun e w' => e = .returned (.int .u32 (crc l).toNat) ∧ Fr NoB w w' :=
  (rsum_calls A l c lo hi w h hl).mono fun _ _ ⟨a, b⟩ => ⟨a, b ▸ Fr.refl NoB w⟩

set_option maxRecDepth 8000 in
set_option maxHeartbeats 800000 in
theorem rframe_long (A : Option Addr) (n c : Nat) (w : World) (h : 1048576 < n) (hm : n ≤ 140737488355328) :
    Calls Tryz.prog 21 #[.slice A n c] w fun e w' => e = .returned (.tuple #[.slice none 0 0, .int .i64 3]) ∧ w = w' := by
  go_enter Tryz.func21, Tryz.ntmps21
  go_wp2
  go_ret2
  exact ⟨rfl, rfl⟩

set_option maxRecDepth 8000 in
set_option maxHeartbeats 1600000 in
theorem rframe_calls (A : Option Addr) (l : List UInt8) (c lo hi : Nat) (w : World) (h : Rd w lo hi A l) (hh : hi ≤ w.heap.size) (hl : l.length ≤ 1048576) :
    Calls Tryz.prog 21 #[.slice A l.length c] w (Framed l w) := by
  obtain ⟨i0, hi0, hz0, hz1, hz2⟩ := info_parts info_byte
  have hcr := (crc l).isLt
  go_enter Tryz.func21, Tryz.ntmps21
  go_wp2_with (go_at_call 41; refine (rfour_calls l.length (by omega) _).mono ?_)
  rintro e w1 ⟨v1, rfl, o1, b1⟩
  have f1 : Fr NoB w w1 := Fr.ofBelow b1
  have r1 := h.fr f1 hh (fun _ _ _ x => x)
  obtain ⟨A1, c1, rfl, _, _⟩ := own_form o1
  go_wp2_with (go_at_call 42; refine (rsum_fr A l c lo hi _ r1 (Nat.le_trans hh f1.size) (by omega)).mono ?_)
  rintro e w2 ⟨rfl, f2⟩
  have o2 := own_fr o1 f2 (fun _ _ x => x)
  have r2 := r1.fr f2 (Nat.le_trans hh f1.size) (fun _ _ _ x => x)
  have f12 := f1.then f2
  clear o1 r1 b1
  go_wp2_with (go_at_call 41; refine (rfour_calls (crc l).toNat (by omega) _).mono ?_)
  rintro e w3 ⟨v3, rfl, o3, b3⟩
  have f3 : Fr NoB w2 w3 := Fr.ofBelow b3
  have o4 := own_fr o2 f3 (fun _ _ x => x)
  have r3 := r2.fr f3 (Nat.le_trans hh f12.size) (fun _ _ _ x => x)
  have f13 := f12.then f3
  obtain ⟨A3, c3, rfl, _, _⟩ := own_form o3
  have hs3 := own_srcs o3
  clear o2 r2 b3 o3
  go_wp2_with (at_builtin; refine wpList_append_src _ rfl _ _ 22 rfl w.heap.size 5 i0 (.int .u8 0) 1 1 Tryz.underlying22 hi0 hz0 hz1 hz2 rfl (by decide) _ 4 (bv (fourB l.length)) rfl o4 A3 4 c3 (bv (fourB (crc l).toNat)) rfl rfl hs3 (bv_one _) (by unfold maxLen; omega) (by omega) f13.size ?_)
  intro v4 w4 hA4
  have f14 : Fr NoB w w4 := f13.trans hA4.fr fun k hk h1 => absurd (o4.lt k h1).1 (by omega)
  have o5 := hA4.own
  clear hA4 o4 hs3 f13 r3
  have r4 := h.fr f14 hh (fun _ _ _ x => x)
  obtain ⟨A4, c4, rfl, _, _⟩ := own_form o5
  go_wp2_with (at_builtin; refine wpList_append_src _ rfl _ _ 22 rfl w.heap.size 5 i0 (.int .u8 0) 1 1 Tryz.underlying22 hi0 hz0 hz1 hz2 rfl (by decide) _ _ _ rfl o5 A l.length c (bv l) rfl (by simp) r4.srcs (bv_one _) (by unfold maxLen; omega) (by omega) f14.size ?_)
  intro v5 w5 hA5
  have f15 : Fr NoB w w5 := f14.trans hA5.fr fun k hk h1 => absurd (o5.lt k h1).1 (by omega)
  have o6 := hA5.own
  clear hA5 o5 f14 r4
  obtain ⟨A5, c5, rfl, _, _⟩ := own_form o6
  have HF := Lib.hid f15
  clear f15
  go_wp2
  go_ret2
  refine ⟨_, rfl, ?_, HF.out⟩
  have e1 : (frameB l).length = 4 + 4 + l.length := by simp [frameB, fourB]; omega
  have e2 : bv (frameB l) = bv (fourB l.length) ++ bv (fourB (crc l).toNat) ++ bv l := by simp [frameB]
  rw [e1, e2]
  exact o6

set_option maxRecDepth 8000 in
set_option maxHeartbeats 1600000 in
theorem runframe_short (A : Option Addr) (l : List UInt8) (c : Nat) (w : World) (hl : l.length < 8) :
    Calls Tryz.prog 22 #[.slice A l.length c] w (Unframed l w) := by
  have q : Unframed l w (.returned (.tuple #[.slice none 0 0, .int .i64 0, .int .i64 4])) w := by
    refine ⟨?_, Fr.refl _ _⟩
    simp only [unframe, if_pos hl]
  go_enter Tryz.func22, Tryz.ntmps22
  go_wp2
  go_ret3
  exact q

set_option maxRecDepth 8000 in
set_option maxHeartbeats 1600000 in
theorem runframe_big (A : Option Addr) (l : List UInt8) (c lo hi : Nat) (w : World) (h : Rd w lo hi A l) (hm : l.length ≤ 140737488355328) (hl : 8 ≤ l.length) (hb : 1048576 < numB l ∨ l.length - 8 < numB l) :
    Calls Tryz.prog 22 #[.slice A l.length c] w (Unframed l w) := by
  have q : ∀ n, Unframed l w (.returned (.tuple #[.slice none 0 0, .int .i64 0, .int .i64 4])) (w.drewN n) := by
    intro n
    refine ⟨?_, (Fr.refl _ _).drewN _⟩
    simp only [unframe, if_neg (show ¬ l.length < 8 by omega), if_pos hb]
  have hnl := numB_lt l
  go_enter Tryz.func22, Tryz.ntmps22
  go_wp2_with (go_at_call 43; refine (rnumber_calls A l c lo hi _ h (by omega) hm).mono ?_)
  rintro e w1 ⟨rfl, n, rfl⟩
  generalize numB l = N at *
  go_wp2
  by_cases h1 : 1048576 < N
  · have d1 : decide (1048576 < N) = true := by simpa using h1
    have d1' : decide ((1048576 : Int) < (N : Int)) = true := by rw [decide_eq_true_iff]; omega
    clear hb h
    go_quiet (fail)
    go_wp2
    go_ret3
    have := q (n + nq)
    simpa using this
  · have d1 : decide (1048576 < N) = false := by simpa using h1
    have d1' : decide ((1048576 : Int) < (N : Int)) = false := by rw [decide_eq_false_iff_not]; omega
    have d2' : decide ((l.length : Int) - 8 < (N : Int)) = true := by rw [decide_eq_true_iff]; omega
    clear hb h
    go_quiet (fail)
    go_wp2
    go_ret3
    have := q (n + nq)
    simpa using this

end Go.Proofs.YtmklmjggichfhaaGreatDoor
