/-
  Rfh: the reference's Unframe where the length fits.
-/
import Derived.Test.YtmklmjggichfhaaGreatDoorRfg
import Derived.Deep.RegionHeld3
namespace Go.Proofs.YtmklmjggichfhaaGreatDoor
open Go.RowKit

set_option maxRecDepth 8000 in
set_option maxHeartbeats 3200000 in
theorem runframe_fits (A : Option Addr) (l : List UInt8) (c lo hi : Nat) (w : World) (h : Rd w lo hi A l) (hh : hi ≤ w.heap.size) (hlc : l.length ≤ c) (hcm : c ≤ maxLen) (hm : l.length ≤ 140737488355328) (hl : 8 ≤ l.length) (h1 : numB l ≤ 1048576) (h2 : numB l + 8 ≤ l.length) :
    Calls Tryz.prog 22 #[.slice A l.length c] w (Unframed l w) := by
  have hq : ∀ w', Fr NoB w w' → (crc ((l.drop 8).take (numB l))).toNat ≠ numB (l.drop 4) → Unframed l w (.returned (.tuple #[.slice none 0 0, .int .i64 0, .int .i64 4])) w' := by
    intro w' hf hne
    refine ⟨?_, hf⟩
    simp only [unframe, if_neg (show ¬ l.length < 8 by omega), if_neg (show ¬ (1048576 < numB l ∨ l.length - 8 < numB l) by omega), if_neg hne]
  have hy : ∀ w' v, Fr NoB w w' → (crc ((l.drop 8).take (numB l))).toNat = numB (l.drop 4) → w'.ownsRow w.heap.size 5 1 v (numB l) (bv ((l.drop 8).take (numB l))) → Unframed l w (.returned (.tuple #[v, .int .i64 (8 + numB l : Nat), .int .i64 0])) w' := by
    intro w' v hf he ho
    have e : ((l.drop 8).take (numB l)).length = numB l := by simp; omega
    refine ⟨?_, hf⟩
    simp only [unframe, if_neg (show ¬ l.length < 8 by omega), if_neg (show ¬ (1048576 < numB l ∨ l.length - 8 < numB l) by omega), if_pos he, e]
    exact ⟨v, rfl, ho⟩
  have r4 : Rd w lo hi (A.map (·.add 4)) (l.drop 4) := by
    have := Rd.drop (n := 4) h (by omega) hlc
    rwa [if_neg (by omega)] at this
  have r8 : ∀ B : Option Addr, (c = 8 → B = A) → (c ≠ 8 → B = A.map (·.add 8)) → Rd w lo hi B ((l.drop 8).take (numB l)) := by
    intro B b1 b2
    have := Rd.drop (n := 8) h (by omega) hlc
    by_cases h8 : c = 8
    · rw [b1 h8]; rw [if_pos h8] at this; exact this.take
    · rw [b2 h8]; rw [if_neg h8] at this; exact this.take
  have hnl := numB_lt l
  obtain ⟨i0, hi0, hz0, hz1, hz2⟩ := info_parts info_byte
  have hc' := hcm
  unfold maxLen at hc'
  have e8 : ((l.drop 8).take (numB l)).length = numB l := by simp; omega
  have e4 : (l.drop 4).length = l.length - 4 := by simp
  have hsum := fun B c W (hW : Rd W lo hi B ((l.drop 8).take (numB l))) (hs : hi ≤ W.heap.size) => rsum_fr B ((l.drop 8).take (numB l)) c lo hi W hW hs (by omega)
  have hnum := fun B c W (hW : Rd W lo hi B (l.drop 4)) => rnumber_calls B (l.drop 4) c lo hi W hW (by omega) (by omega)
  rw [e8] at hsum
  rw [e4] at hnum
  have hn2 := numB_lt (l.drop 4)
  have hcr := (crc ((l.drop 8).take (numB l))).isLt
  generalize (crc ((l.drop 8).take (numB l))).toNat = C at *
  generalize numB (l.drop 4) = D at *
  generalize hN : numB l = N at *
  generalize hX : (l.drop 8).take N = X at *
  generalize l.drop 4 = Y at *
  have HS := Lib.hid hsum
  have HM := Lib.hid hnum
  have E8 := Lib.hid e8
  have HQ := Lib.hid hq
  have HY := Lib.hid hy
  have R4 := Lib.hid r4
  have R8 := Lib.hid r8
  clear e8 e4 hsum hnum hq hy r4 r8 hX
  have hnm := rnumber_calls A l c lo hi w h (by omega) hm
  rw [hN] at hnm
  have HNM := Lib.hid hnm
  clear hnm hN
  have d1 : decide (1048576 < N) = false := by rw [decide_eq_false_iff_not]; omega
  have d1' : decide ((1048576 : Int) < (N : Int)) = false := by rw [decide_eq_false_iff_not]; omega
  have d2' : decide ((l.length : Int) - 8 < (N : Int)) = false := by rw [decide_eq_false_iff_not]; omega
  have hi1 : (8 : Int) ≤ 8 + (N : Int) := by omega
  have hi2 : 8 + (N : Int) ≤ (c : Int) := by omega
  have hi3 : (4 : Int) ≤ (l.length : Int) := by omega
  have hi4 : (l.length : Int) ≤ (c : Int) := by omega
  have hi5 : ¬ c = 4 := by omega
  have hw8 : IntKind.i64.wrap ((l.length : Int) - 8) = (l.length : Int) - 8 := by rw [IntKind.wrap_i64]; omega
  have hw1 : IntKind.i64.wrap (8 + (N : Int)) = 8 + N := by rw [IntKind.wrap_i64]; omega
  have hw2 : (8 + (N : Int)).toNat = 8 + N := by omega
  have hw3 : (8 + (N : Int)) % 4294967296 = 8 + N := by omega
  have hw4 : IntKind.u32.wrap (8 + (N : Int)) = 8 + N := by rw [IntKind.wrap_u32]; omega
  have hw5 : IntKind.i64.wrap (N : Int) = N := by rw [IntKind.wrap_i64]; omega
  by_cases h8 : c = 8
  · subst h8
    obtain rfl : N = 0 := by omega
    have hl8 : l.length = 8 := by omega
    have HM8 := HM.out
    have HN8 := HNM.out
    rw [hl8] at HM8 HN8
    simp only [Nat.reduceSub] at HM8
    rw [hl8]
    clear HM HNM d1 d1' d2' hi1 hi2 hi3 hi4 hi5 hw8 hw1 hw2 hw3 hw4 hw5 hl8 hl hm hlc hcm hc' h1 h2 hnl h
    have HM := Lib.hid HM8
    have HNM := Lib.hid HN8
    clear HM8 HN8
    have hw8 : IntKind.i64.wrap 8 = 8 := by rw [IntKind.wrap_i64]; omega
    have hwu : IntKind.u32.wrap 8 = 8 := by rw [IntKind.wrap_u32]; omega
    have hw0 : IntKind.i64.wrap 0 = 0 := by rw [IntKind.wrap_i64]; omega
    go_enter Tryz.func22, Tryz.ntmps22
    go_wp2_with (go_at_call 43; refine HNM.out.mono ?_; rintro e w1 ⟨rfl, n, rfl⟩)
    go_wp2
    go_region_held3 (fun _ => True) (exact True.intro) (first
      | (go_at_call 42; refine (HS.out _ _ _ ?_ ?_).mono ?_; exact R8.out _ (fun _ => rfl) (fun x => absurd rfl x); exact hh; rintro e w2 ⟨rfl, f2⟩)
      | (go_at_call 43; refine (HM.out _ _ _ ?_).mono ?_; exact (R4.out.fr (M := NoB) (Fr.undrewN f2) hh (fun _ _ _ x => x)); rintro e w3 ⟨rfl, n3, rfl⟩))
    have F2 := Lib.hid (Fr.undrewN f2)
    clear f2
    by_cases hCD : C = D
    · have hb : ((C : Int) != (D : Int)) = false := by simp [hCD]
      have F3 : Fr NoB w (w2.drewN n3) := F2.out.drewN n3
      have ho2 := World.ownsRow_lit (size := 1) (base := w.heap.size) (e := 5) (w2.drewN n3) #[] 0 F3.size (by unfold maxLen; omega) rfl
      have HO := Lib.hid ho2
      have hs8 := ((R8.out _ (fun _ => rfl) (fun x => absurd rfl x)).fr (F3.alloc (.cells #[] 5)) hh (fun _ _ _ x => x)).srcs
      rw [E8.out] at hs8
      have HS8 := Lib.hid hs8
      have HF3 := Lib.hid F3
      clear ho2 hs8 F3
      go_wp2_with (at_builtin; refine wpList_append_src _ rfl _ _ 22 rfl w.heap.size 5 i0 (.int .u8 0) 1 1 Tryz.underlying22 hi0 hz0 hz1 hz2 rfl (by decide) _ _ _ rfl HO.out _ 0 _ (bv X) rfl (by rw [bv_length, E8.out]; try omega) HS8.out (bv_one _) (by unfold maxLen; omega) (by omega) (by have := HF3.out.size; simp at this ⊢; omega) ?_)
      intro v4 w4 ha
      have f4 : Fr NoB w w4 := (HF3.out.alloc _).trans ha.fr fun k hk h => by have := HF3.out.size; have q : (w2.drewN n3).heap.size = w2.heap.size := rfl; simp only [Value.ownBlock, Option.some.injEq] at h; omega
      have o4 : w4.ownsRow w.heap.size 5 1 v4 0 (bv X) := by simpa using ha.own
      obtain ⟨A4, c4, rfl, _, _⟩ := own_form o4
      have HF4 := Lib.hid f4
      have HO4 := Lib.hid o4
      clear ha f4 o4
      go_wp2
      go_ret3
      exact HY.out _ _ HF4.out hCD HO4.out
    · have hb : ((C : Int) != (D : Int)) = true := by rw [bne_iff_ne]; omega
      have HCD := Lib.hid hCD
      clear hCD
      go_wp2
      go_ret3
      exact HQ.out _ (F2.out.drewN n3) HCD.out
  · have HW3 := Lib.hid hw3
    have HW4 := Lib.hid hw4
    have HW5 := Lib.hid hw5
    have HW8 := Lib.hid hw8
    have HW1 := Lib.hid hw1
    have HW2 := Lib.hid hw2
    clear hw8 hw1 hw2 hw3 hw4 hw5
    go_enter Tryz.func22, Tryz.ntmps22
    go_wp2_with (go_at_call 43; refine HNM.out.mono ?_; rintro e w1 ⟨rfl, n, rfl⟩)
    go_wp2
    have hw8 := HW8.out
    have hw1 := HW1.out
    have hw2 := HW2.out
    have hw3 := HW3.out
    have hw4 := HW4.out
    have hw5 := HW5.out
    go_region_held3 (fun _ => True) (exact True.intro) (first
      | (go_at_call 42; refine (HS.out _ _ _ ?_ ?_).mono ?_; exact R8.out _ (fun x => absurd x h8) (fun _ => rfl); exact hh; rintro e w2 ⟨rfl, f2⟩)
      | (go_at_call 43; refine (HM.out _ _ _ ?_).mono ?_; exact (R4.out.fr (M := NoB) (Fr.undrewN f2) hh (fun _ _ _ x => x)); rintro e w3 ⟨rfl, n3, rfl⟩))
    have F2 := Lib.hid (Fr.undrewN f2)
    clear f2
    by_cases hCD : C = D
    · have hb : ((C : Int) != (D : Int)) = false := by simp [hCD]
      have F3 : Fr NoB w (w2.drewN n3) := F2.out.drewN n3
      have ho2 := World.ownsRow_lit (size := 1) (base := w.heap.size) (e := 5) (w2.drewN n3) #[] 0 F3.size (by unfold maxLen; omega) rfl
      have HO := Lib.hid ho2
      have hs8 := ((R8.out _ (fun x => absurd x h8) (fun _ => rfl)).fr (F3.alloc (.cells #[] 5)) hh (fun _ _ _ x => x)).srcs
      rw [E8.out] at hs8
      have HS8 := Lib.hid hs8
      have HF3 := Lib.hid F3
      clear ho2 hs8 F3
      go_wp2_with (at_builtin; refine wpList_append_src _ rfl _ _ 22 rfl w.heap.size 5 i0 (.int .u8 0) 1 1 Tryz.underlying22 hi0 hz0 hz1 hz2 rfl (by decide) _ _ _ rfl HO.out _ N _ (bv X) rfl (by rw [bv_length, E8.out]; try omega) HS8.out (bv_one _) (by unfold maxLen; omega) (by omega) (by have := HF3.out.size; simp at this ⊢; omega) ?_)
      intro v4 w4 ha
      have f4 : Fr NoB w w4 := (HF3.out.alloc _).trans ha.fr fun k hk h => by have := HF3.out.size; have q : (w2.drewN n3).heap.size = w2.heap.size := rfl; simp only [Value.ownBlock, Option.some.injEq] at h; omega
      have o4 : w4.ownsRow w.heap.size 5 1 v4 N (bv X) := by simpa using ha.own
      obtain ⟨A4, c4, rfl, _, _⟩ := own_form o4
      have HF4 := Lib.hid f4
      have HO4 := Lib.hid o4
      clear ha f4 o4
      go_wp2
      go_ret3
      exact HY.out _ _ HF4.out hCD HO4.out
    · have hb : ((C : Int) != (D : Int)) = true := by rw [bne_iff_ne]; omega
      have HCD := Lib.hid hCD
      clear hCD
      go_wp2
      go_ret3
      exact HQ.out _ (F2.out.drewN n3) HCD.out

theorem runframe_calls (A : Option Addr) (l : List UInt8) (c lo hi : Nat) (w : World) (h : Rd w lo hi A l) (hh : hi ≤ w.heap.size) (hlc : l.length ≤ c) (hcm : c ≤ maxLen) (hm : l.length ≤ 140737488355328) :
    Calls Tryz.prog 22 #[.slice A l.length c] w (Unframed l w) := by
  by_cases h8 : l.length < 8
  · exact runframe_short A l c w h8
  · by_cases hb : 1048576 < numB l ∨ l.length - 8 < numB l
    · exact runframe_big A l c lo hi w h hm (by omega) hb
    · exact runframe_fits A l c lo hi w h hh hlc hcm hm (by omega) (by omega) (by omega)

end Go.Proofs.YtmklmjggichfhaaGreatDoor
