/-
  Frn: wire.Unframe where the length fits: the sum decides.
-/
import Derived.Test.YtmklmjggichfhaaGreatDoorFrm
import Derived.Deep.RegionHeld3
namespace Go.Proofs.YtmklmjggichfhaaGreatDoor
open Go.RowKit

set_option maxRecDepth 8000 in
set_option maxHeartbeats 3200000 in
theorem unframe_fits (A : Option Addr) (l : List UInt8) (c lo hi : Nat) (w : World) (h : Rd w lo hi A l) (hh : hi ≤ w.heap.size) (hlc : l.length ≤ c) (hcm : c ≤ maxLen) (hm : l.length ≤ 140737488355328) (hl : 8 ≤ l.length) (h1 : numB l ≤ 1048576) (h2 : numB l + 8 ≤ l.length) :
    Calls Tryz.prog 10 #[.slice A l.length c] w (Unframed l w) := by
  have hq : ∀ w', Fr NoB w w' → (crc ((l.drop 8).take (numB l))).toNat ≠ numB (l.drop 4) → Unframed l w (.returned (.tuple #[.slice none 0 0, .int .i64 0, .int .i64 4])) w' := by
    intro w' hf hne
    refine ⟨?_, hf⟩
    simp only [unframe, if_neg (show ¬ l.length < 8 by omega), if_neg (show ¬ (1048576 < numB l ∨ l.length - 8 < numB l) by omega), if_neg hne]
  have hy : ∀ w' v, Fr NoB w w' → (crc ((l.drop 8).take (numB l))).toNat = numB (l.drop 4) → w'.ownsRow w.heap.size 5 1 v (numB l) (bv ((l.drop 8).take (numB l))) → Unframed l w (.returned (.tuple #[v, .int .i64 (8 + numB l : Nat), .int .i64 0])) w' := by
    intro w' v hf he ho
    have e : ((l.drop 8).take (numB l)).length = numB l := by simp; omega
    refine ⟨?_, hf⟩
    simp only [unframe, if_neg (show ¬ l.length < 8 by omega), if_neg (show ¬ (1048576 < numB l ∨ l.length - 8 < numB l) by omega), if_pos he, e]
    exact ⟨v, rfl, ho⟩
  have r4 : Rd w lo hi (A.map (·.add 4)) (l.drop 4) := by
    have := Rd.drop (n := 4) h (by omega) hlc
    rwa [if_neg (by omega)] at this
  have r8 : ∀ B : Option Addr, (c = 8 → B = A) → (c ≠ 8 → B = A.map (·.add 8)) → Rd w lo hi B ((l.drop 8).take (numB l)) := by
    intro B b1 b2
    have := Rd.drop (n := 8) h (by omega) hlc
    by_cases h8 : c = 8
    · rw [b1 h8]; rw [if_pos h8] at this; exact this.take
    · rw [b2 h8]; rw [if_neg h8] at this; exact this.take
  have hnl := numB_lt l
  have hc' := hcm
  unfold maxLen at hc'
  have e8 : ((l.drop 8).take (numB l)).length = numB l := by simp; omega
  have e4 : (l.drop 4).length = l.length - 4 := by simp
  have hsum := fun B c W (hW : Rd W lo hi B ((l.drop 8).take (numB l))) (hs : hi ≤ W.heap.size) => sum_calls B ((l.drop 8).take (numB l)) c lo hi W hW hs (by omega)
  have hnum := fun B c W (hW : Rd W lo hi B (l.drop 4)) => number_calls B (l.drop 4) c lo hi W hW (by omega) (by omega)
  have hcl := fun B c W (hW : Rd W lo hi B ((l.drop 8).take (numB l))) => clone_any B ((l.drop 8).take (numB l)) c lo hi W hW (by omega)
  rw [e8] at hsum hcl
  rw [e4] at hnum
  have hn2 := numB_lt (l.drop 4)
  have hcr := (crc ((l.drop 8).take (numB l))).isLt
  generalize (crc ((l.drop 8).take (numB l))).toNat = C at *
  generalize numB (l.drop 4) = D at *
  generalize hN : numB l = N at *
  generalize hX : (l.drop 8).take N = X at *
  generalize l.drop 4 = Y at *
  have HS := Lib.hid hsum
  have HM := Lib.hid hnum
  have HC := Lib.hid hcl
  have HQ := Lib.hid hq
  have HY := Lib.hid hy
  have R4 := Lib.hid r4
  have R8 := Lib.hid r8
  clear e8 e4 hsum hnum hcl hq hy r4 r8 hX
  have hnm := number_calls A l c lo hi w h (by omega) hm
  rw [hN] at hnm
  have HNM := Lib.hid hnm
  clear hnm hN
  have d1 : decide (1048576 < N) = false := by rw [decide_eq_false_iff_not]; omega
  have d1' : decide ((1048576 : Int) < (N : Int)) = false := by rw [decide_eq_false_iff_not]; omega
  have d2' : decide ((l.length : Int) - 8 < (N : Int)) = false := by rw [decide_eq_false_iff_not]; omega
  have hi1 : (8 : Int) ≤ 8 + (N : Int) := by omega
  have hi2 : 8 + (N : Int) ≤ (c : Int) := by omega
  have hi3 : (4 : Int) ≤ (l.length : Int) := by omega
  have hi4 : (l.length : Int) ≤ (c : Int) := by omega
  have hi5 : ¬ c = 4 := by omega
  have hw8 : IntKind.i64.wrap ((l.length : Int) - 8) = (l.length : Int) - 8 := by rw [IntKind.wrap_i64]; omega
  have hw1 : IntKind.i64.wrap (8 + (N : Int)) = 8 + N := by rw [IntKind.wrap_i64]; omega
  have hw2 : (8 + (N : Int)).toNat = 8 + N := by omega
  by_cases h8 : c = 8
  · subst h8
    obtain rfl : N = 0 := by omega
    have hl8 : l.length = 8 := by omega
    have HM8 := HM.out
    have HN8 := HNM.out
    rw [hl8] at HM8 HN8
    simp only [Nat.reduceSub] at HM8
    rw [hl8]
    clear HM HNM d1 d1' d2' hi1 hi2 hi3 hi4 hi5 hw8 hw1 hw2 hl8 hl hm hlc hcm hc' h1 h2 hnl h
    have HM := Lib.hid HM8
    have HNM := Lib.hid HN8
    clear HM8 HN8
    have hw8 : IntKind.i64.wrap 8 = 8 := by rw [IntKind.wrap_i64]; omega
    have hw0 : IntKind.i64.wrap 0 = 0 := by rw [IntKind.wrap_i64]; omega
    go_enter Tryz.func10, Tryz.ntmps10
    go_wp2_with (go_at_call 34; refine HNM.out.mono ?_; rintro e w1 ⟨rfl, n, rfl⟩)
    go_wp2
    go_region_held3 (fun _ => True) (exact True.intro) (first
      | (go_at_call 11; refine (HS.out _ _ _ ?_ ?_).mono ?_; exact R8.out _ (fun _ => rfl) (fun x => absurd rfl x); exact hh; rintro e w2 ⟨rfl, f2⟩)
      | (go_at_call 34; refine (HM.out _ _ _ ?_).mono ?_; exact (R4.out.fr (M := NoB) (Fr.undrewN f2) hh (fun _ _ _ x => x)); rintro e w3 ⟨rfl, n3, rfl⟩))
    clear hw8 hw0
    have F2 := Lib.hid (Fr.undrewN f2)
    clear f2
    by_cases hCD : C = D
    · have hb : ((C : Int) != (D : Int)) = false := by simp [hCD]
      go_wp2_with (go_at_call 32; refine (HC.out _ _ _ ?_).mono ?_; exact ((R8.out _ (fun _ => rfl) (fun x => absurd rfl x)).fr (F2.out.drewN n3) hh (fun _ _ _ x => x)); rintro e w4 ⟨v, rfl, o4, b4⟩; obtain ⟨A4, c4, rfl, _, _⟩ := own_form o4)
      go_ret3
      have f4 : Fr NoB w w4 := (F2.out.drewN n3).then (Fr.ofBelow b4)
      refine HY.out _ _ f4 hCD ?_
      refine ⟨o4.1, ?_⟩
      rcases o4.2 with o | ⟨g, cap, cur, hv, hg, r⟩
      · exact .inl o
      · exact .inr ⟨g, cap, cur, hv, Nat.le_trans F2.out.size hg, r⟩
    · have hb : ((C : Int) != (D : Int)) = true := by rw [bne_iff_ne]; omega
      have HCD := Lib.hid hCD
      clear hCD
      go_wp2
      go_ret3
      exact HQ.out _ (F2.out.drewN n3) HCD.out
  · have HW8 := Lib.hid hw8
    have HW1 := Lib.hid hw1
    have HW2 := Lib.hid hw2
    clear hw8 hw1 hw2
    go_enter Tryz.func10, Tryz.ntmps10
    go_wp2_with (go_at_call 34; refine HNM.out.mono ?_; rintro e w1 ⟨rfl, n, rfl⟩)
    go_wp2
    have hw8 := HW8.out
    have hw1 := HW1.out
    have hw2 := HW2.out
    go_region_held3 (fun _ => True) (exact True.intro) (first
      | (go_at_call 11; refine (HS.out _ _ _ ?_ ?_).mono ?_; exact R8.out _ (fun x => absurd x h8) (fun _ => rfl); exact hh; rintro e w2 ⟨rfl, f2⟩)
      | (go_at_call 34; refine (HM.out _ _ _ ?_).mono ?_; exact (R4.out.fr (M := NoB) (Fr.undrewN f2) hh (fun _ _ _ x => x)); rintro e w3 ⟨rfl, n3, rfl⟩))
    clear hw8 hw1 hw2
    have F2 := Lib.hid (Fr.undrewN f2)
    clear f2
    by_cases hCD : C = D
    · have hb : ((C : Int) != (D : Int)) = false := by simp [hCD]
      go_wp2_with (go_at_call 32; refine (HC.out _ _ _ ?_).mono ?_; exact ((R8.out _ (fun x => absurd x h8) (fun _ => rfl)).fr (F2.out.drewN n3) hh (fun _ _ _ x => x)); rintro e w4 ⟨v, rfl, o4, b4⟩; obtain ⟨A4, c4, rfl, _, _⟩ := own_form o4)
      go_ret3
      have f4 : Fr NoB w w4 := (F2.out.drewN n3).then (Fr.ofBelow b4)
      refine HY.out _ _ f4 hCD ?_
      refine ⟨o4.1, ?_⟩
      rcases o4.2 with o | ⟨g, cap, cur, hv, hg, r⟩
      · exact .inl o
      · exact .inr ⟨g, cap, cur, hv, Nat.le_trans F2.out.size hg, r⟩
    · have hb : ((C : Int) != (D : Int)) = true := by rw [bne_iff_ne]; omega
      have HCD := Lib.hid hCD
      clear hCD
      go_wp2
      go_ret3
      exact HQ.out _ (F2.out.drewN n3) HCD.out

theorem unframe_calls (A : Option Addr) (l : List UInt8) (c lo hi : Nat) (w : World) (h : Rd w lo hi A l) (hh : hi ≤ w.heap.size) (hlc : l.length ≤ c) (hcm : c ≤ maxLen) (hm : l.length ≤ 140737488355328) :
    Calls Tryz.prog 10 #[.slice A l.length c] w (Unframed l w) := by
  by_cases h8 : l.length < 8
  · exact unframe_short A l c w h8
  · by_cases hb : 1048576 < numB l ∨ l.length - 8 < numB l
    · exact unframe_big A l c lo hi w h hm (by omega) hb
    · exact unframe_fits A l c lo hi w h hh hlc hcm hm (by omega) (by omega) (by omega)

end Go.Proofs.YtmklmjggichfhaaGreatDoor
