/-
  Aso: AskOne: what it does.
-/
import Derived.Test.YtlckgkpgllhpbaaDoorAbl
namespace Go.Proofs.YtlckgkpgllhpbaaDoor
open Go.RowKit

set_option maxHeartbeats 12800000 in
set_option maxRecDepth 8000 in
theorem one_walk (A : Option Addr) (b : List UInt8) (c : Nat) (w : World) (hb : Rd w 0 w.heap.size A b) (hbl : b.length ≤ 140737488355328) :
    Calls Tryd.prog 6 #[.slice A b.length c] w fun e w' => e = .returned (.bool true) ∧ Fr NoB w w' := by
  have HR := Lib.hid hb
  clear hb
  go_enter Tryd.func6, Tryd.ntmps6
  go_wp2_with (fail)
  refine (awake_calls _).mono ?_
  rintro e w1 ⟨rfl, f1⟩
  by_cases hlen : (60000 : Int) < (b.length : Int)
  · go_wp2
    go_ret
    exact ⟨rfl, f1⟩
  have F1 := Lib.hid f1
  have R1 := Lib.hid (HR.out.up f1)
  clear f1 HR
  go_wp2_with (fail)
  refine (b_get A b c 0 w1 R1.out hbl).mono ?_
  rintro e w2 ⟨cs, f, l, zz, rfl, hg, ha, f2⟩
  have HG := Lib.hid hg
  have HA := Lib.hid ha
  have F2 := Lib.hid (F1.out.then f2)
  have R2 := Lib.hid (R1.out.up f2)
  clear hg ha f2 F1 R1
  go_wp2_with (first | (with_reducible refine held_store (ty := 29) ?_) | fail)
  unfold Held
  refine wpList_store_row rfl 29 _ _ rfl w2.heap.size cs ?_ ?_ _ _ (heap_alloc_new w2 _) (asize_of HA.out.size) HA.out.size.symm HA.out.one ?_
  · rfl
  · rfl
  rw [World.setRow_alloc_new]
  have hb := heap_alloc_new w2 (.cells cs 29)
  have f0 : Fr NoB w2 (w2.alloc (.cells cs 29)) := (Fr.refl NoB w2).alloc _
  generalize w2.alloc (.cells cs 29) = w3 at hb f0 ⊢
  generalize w2.heap.size = B2 at hb ⊢
  have HB := Lib.hid hb
  have HA3 := Lib.hid (HA.out.fr f0)
  have F3 := Lib.hid (F2.out.then f0)
  have R3 := Lib.hid (R2.out.up f0)
  clear hb f0 HA F2 R2
  go_upto_if 24 with fail
  go_cut [] (fun W => Fr NoB w3 W)
  case first =>
    rcases HG.out with ⟨hg, rfl⟩ | ⟨hg, rfl, rfl, rfl⟩
    · as_aux_lemma =>
      obtain ⟨hbk, hR, hok, hoks⟩ := getA_back hg
      have hfine : FineA f l := ⟨hok.1, hok.2, by have := hR.2.2.2.2.2.1; omega, fun q hq => (hoks q hq).1.1⟩
      have hp : putA f l = (b, 0) := by rw [putA, if_pos hR, hbk]
      have HP := Lib.hid (fun W (F : Fr NoB w3 W) => b_put (HA3.out.fr F) hfine)
      have hr := fun W (F : Fr NoB w3 W) => b_right (HA3.out.fr F)
      rw [decide_eq_true hR] at hr
      rw [hp] at HP
      have HRR := Lib.hid hr
      clear hg hbk hR hok hoks hfine hp hr HG
      go_wp2_with (first | (with_reducible refine held_load (ty := 29) ?_) | fail)
      unfold Held
      refine wpList_load_row rfl 29 (.tmp 3) rfl B2 rfl 29 cs (0, 0) _ HB.out Tryd.underlying29 rfl (asize_of HA3.out.size) ?_
      go_wp2_with (fail)
      refine (HP.out _ (Fr.refl NoB w3)).mono ?_
      rintro e w4 ⟨A4, c4, rfl, -, -, o4, f4⟩
      have r4 := own_rd o4
      have F4 := Lib.hid f4
      have R4 := Lib.hid (Rd.low0 r4)
      have HB4 := Lib.hid (f4.at_ HB.out (fun x => x))
      clear o4 r4 f4 HP
      go_wp2_with (first | (with_reducible refine held_load_on (ty := 29) ?_) | fail)
      unfold Held
      refine wpList_load_on (by rfl) 29 _ rfl B2 rfl _ _ _ _ HB4.out Tryd.underlying29 rfl (asize_of HA3.out.size) ?_
      go_wp2_with (fail)
      refine (HRR.out _ F4.out).mono ?_
      rintro e w5 ⟨rfl, f5⟩
      have F5 := Lib.hid (F4.out.then f5)
      have R5 := Lib.hid (R4.out.up f5)
      clear f5 HRR
      go_wp2_with (fail)
      refine (same_again A A4 b c c4 0 w5.heap.size 0 w5.heap.size w5 (R3.out.up F5.out) R5.out hbl).mono ?_
      rintro e w6 ⟨rfl, f6⟩
      have F6 := Lib.hid (F5.out.then f6)
      go_wp2
      all_goals go_meet
      all_goals exact F6.out
    · as_aux_lemma =>
      have HS := Lib.hid (fun W (F : Fr NoB w3 W) => b_same (HA3.out.fr F) (zeroA_is W) zeroA_fine (fun q hq => absurd hq (by simp)))
      clear hg HG
      go_wp2_with (first | (with_reducible refine held_load_on (ty := 29) ?_) | fail)
      unfold Held
      refine wpList_load_on (by rfl) 29 _ rfl B2 rfl _ _ _ _ HB.out Tryd.underlying29 rfl (asize_of HA3.out.size) ?_
      go_wp2_with (fail)
      refine (HS.out _ (Fr.refl NoB w3)).mono ?_
      rintro e w6 ⟨rfl, f6⟩
      have F6 := Lib.hid f6
      go_wp2
      all_goals go_meet
      all_goals exact F6.out
  case rest =>
  have F4 := Lib.hid (F3.out.then hcut)
  have R4 := Lib.hid (R3.out.up hcut)
  clear hcut HG HA3 HB F3 R3
  go_wp2_with (fail)
  refine (y_get A b c 0 wc R4.out hbl).mono ?_
  rintro e w5 ⟨cy, fy, ly, zy, rfl, hg, ha, f5⟩
  have HG := Lib.hid hg
  have HA := Lib.hid ha
  have F5 := Lib.hid (F4.out.then f5)
  have R5 := Lib.hid (R4.out.up f5)
  clear hg ha f5 F4 R4
  go_wp2_with (first | (with_reducible refine held_store (ty := 43) ?_) | fail)
  unfold Held
  refine wpList_store_row rfl 43 _ _ rfl w5.heap.size cy ?_ ?_ _ _ (heap_alloc_new w5 _) (ysize_of HA.out.size) HA.out.size.symm HA.out.one ?_
  · rfl
  · rfl
  rw [World.setRow_alloc_new]
  have hb := heap_alloc_new w5 (.cells cy 43)
  have f0 : Fr NoB w5 (w5.alloc (.cells cy 43)) := (Fr.refl NoB w5).alloc _
  generalize w5.alloc (.cells cy 43) = w6 at hb f0 ⊢
  generalize w5.heap.size = B5 at hb ⊢
  have HB := Lib.hid hb
  have HA6 := Lib.hid (HA.out.fr f0)
  have F6 := Lib.hid (F5.out.then f0)
  have R6 := Lib.hid (R5.out.up f0)
  clear hb f0 HA F5 R5
  go_upto_if 57 with fail
  go_cut [] (fun W => Fr NoB w6 W)
  case first =>
    rcases HG.out with ⟨hg, rfl⟩ | ⟨hg, rfl, rfl, rfl⟩
    · as_aux_lemma =>
      obtain ⟨hbk, hR, hok, hoks⟩ := getY_back hg
      have hfine : FineY fy ly := ⟨hok, by have := hR.1.2.2.2.2.2.2.2.2.2; omega, fun q hq => (hoks q hq).1⟩
      have hp : putY fy ly = (b, 0) := by rw [putY, if_pos hR, hbk]
      have HP := Lib.hid (fun W (F : Fr NoB w6 W) => y_put (HA6.out.fr F) hfine)
      rw [hp] at HP
      clear hg hbk hR hok hoks hfine hp HG
      go_wp2_with (first | (with_reducible refine held_load (ty := 43) ?_) | fail)
      unfold Held
      refine wpList_load_row rfl 43 (.tmp 7) rfl B5 rfl 43 cy (0, 0) _ HB.out Tryd.underlying43 rfl (ysize_of HA6.out.size) ?_
      go_wp2_with (fail)
      refine (HP.out _ (Fr.refl NoB w6)).mono ?_
      rintro e w7 ⟨A4, c4, rfl, -, -, o4, f4⟩
      have r4 := own_rd o4
      have F4 := Lib.hid f4
      have R4 := Lib.hid (Rd.low0 r4)
      clear o4 r4 f4 HP
      go_wp2_with (fail)
      refine (same_again A A4 b c c4 0 w7.heap.size 0 w7.heap.size w7 (R6.out.up F4.out) R4.out hbl).mono ?_
      rintro e w8 ⟨rfl, f6⟩
      have F7 := Lib.hid (F4.out.then f6)
      go_wp2
      all_goals go_meet
      all_goals exact F7.out
    · as_aux_lemma =>
      have HS := Lib.hid (fun W (F : Fr NoB w6 W) => y_same (HA6.out.fr F) (zeroY_is W) zeroY_fine (fun t ht => absurd ht (by simp [fy0])) (fun q hq => absurd hq (by simp)))
      clear hg HG
      go_wp2_with (first | (with_reducible refine held_load_on (ty := 43) ?_) | fail)
      unfold Held
      refine wpList_load_on (by rfl) 43 _ rfl B5 rfl _ _ _ _ HB.out Tryd.underlying43 rfl (ysize_of HA6.out.size) ?_
      go_wp2_with (fail)
      refine (HS.out _ (Fr.refl NoB w6)).mono ?_
      rintro e w7 ⟨rfl, f6⟩
      have F7 := Lib.hid f6
      go_wp2
      all_goals go_meet
      all_goals exact F7.out
  case rest =>
  have F7 := Lib.hid (F6.out.then hcut)
  have R7 := Lib.hid (R6.out.up hcut)
  clear hcut HG HA6 HB F6 R6
  go_wp2_with (fail)
  refine (eget_calls A b c 0 wc.heap.size wc R7.out (Nat.le_refl _) hbl).mono ?_
  rintro e w8 ⟨fe, ze, rfl, hg, f8⟩
  have F8 := Lib.hid (F7.out.then f8)
  have R8 := Lib.hid (R7.out.up f8)
  clear f8 F7 R7
  rcases hg with ⟨hg, rfl⟩ | ⟨hg, rfl, rfl⟩
  · obtain ⟨hbk, hR, hok⟩ := getEv_back hg
    have hp : putEv fe = (b, 0) := by rw [putEv, if_pos hR, hbk]
    have HP := Lib.hid (fun W => eput_calls fe W hok)
    rw [hp] at HP
    clear hg hbk hR hok hp
    obtain ⟨k, so, path, z⟩ := fe
    simp only [ecells] at *
    go_wp2_with (fail)
    have f9 : Fr NoB w8 (w8.alloc (.cells #[.int .u8 k, .int .u8 so, .string ⟨path.toArray⟩, .int .i64 z] 46)) := (Fr.refl NoB w8).alloc _
    refine (HP.out _).mono ?_
    rintro e w10 ⟨v, rfl, o10, f10⟩
    obtain ⟨A4, c4, rfl, -, -⟩ := own_form o10
    have r10 := Rd.low0 (own_rd o10)
    have R10 := Lib.hid r10
    have R11 := Lib.hid ((R8.out.up f9).up f10)
    have F10 := Lib.hid ((F8.out.then f9).then f10)
    clear o10 r10 f9 f10 HP
    go_wp2_with (fail)
    refine (same_again A A4 b c c4 0 w10.heap.size 0 w10.heap.size w10 R11.out R10.out hbl).mono ?_
    rintro e w11 ⟨rfl, f11⟩
    go_wp2
    go_ret
    exact ⟨rfl, F10.out.then f11⟩
  · have he := fun W => ev_eql 0 0 0 ⟨#[]⟩ W
    clear hg
    simp only [ecells, bareE] at *
    go_wp2
    go_ret
    exact ⟨rfl, F8.out.alloc _⟩
end Go.Proofs.YtlckgkpgllhpbaaDoor
