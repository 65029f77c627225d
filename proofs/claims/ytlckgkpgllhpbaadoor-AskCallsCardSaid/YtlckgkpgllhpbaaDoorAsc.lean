/-
  Asc: AskCalls: what it does.
-/
import Derived.Test.YtlckgkpgllhpbaaDoorAbl
import Derived.Test.YtlckgkpgllhpbaaDoorRad
import Derived.Deep.RegionHeld3
namespace Go.Proofs.YtlckgkpgllhpbaaDoor
open Go.RowKit

theorem b_rright {w : World} {cs : Array Value} {f : Fa} {l : List (Fa × Nat)} (h : IsA w cs f l) : Calls Tryd.prog 12 #[.agg cs] w fun e w' => e = .returned (.bool (decide (RightA f l))) ∧ Fr NoB w w' := by
  obtain ⟨p, lo, hi, rfl, h2, h3⟩ := h
  exact rright_calls f p l lo hi w h3.parts h2
theorem b_rput {w : World} {cs : Array Value} {f : Fa} {l : List (Fa × Nat)} (h : IsA w cs f l) (hf : FineA f l) : Calls Tryd.prog 10 #[.agg cs] w fun e w' => ∃ A c, e = .returned (.tuple #[.slice A (putA f l).1.length c, .int .i64 (putA f l).2]) ∧ Rd w' w.heap.size w'.heap.size A (putA f l).1 ∧ Fr NoB w w' := by
  obtain ⟨p, lo, hi, rfl, h2, h3⟩ := h
  refine (raput_calls f p l lo hi w hf.ok hf.ms hf.oks h3 h2).mono ?_
  rintro e w' ⟨v, rfl, ho, hf⟩
  obtain ⟨A, c, rfl, n1, n2⟩ := own_form ho
  exact ⟨A, c, rfl, own_rd ho, hf⟩
theorem atoms {cs : Array Value} (h : cs.size = 15) : ∃ x0 x1 x2 x3 x4 x5 x6 x7 x8 x9 x10 x11 x12 x13 x14, cs = #[x0, x1, x2, x3, x4, x5, x6, x7, x8, x9, x10, x11, x12, x13, x14] := by
  obtain ⟨l⟩ := cs
  simp only [List.size_toArray] at h
  match l, h with
  | [x0, x1, x2, x3, x4, x5, x6, x7, x8, x9, x10, x11, x12, x13, x14], _ => exact ⟨x0, x1, x2, x3, x4, x5, x6, x7, x8, x9, x10, x11, x12, x13, x14, rfl⟩
set_option maxRecDepth 8000 in
set_option maxHeartbeats 6400000 in
theorem calls_walk (f : Fa) (l : List (Fa × Nat)) (cs : Array Value) (w : World) (hf : FineA f l) (hD : IsA w cs f l) :
    Calls Tryd.prog 3 #[.agg cs] w fun e w' => e = .returned (.bool true) ∧ Fr NoB w w' := by
  have H16 := Lib.hid hD.size
  have hplen := putA_len f l
  have HA := Lib.hid (fun W (F : Fr NoB w W) => awake_calls W)
  have HG := Lib.hid (fun W (F : Fr NoB w W) => b_great (hD.fr F) hf)
  have HP := Lib.hid (fun W (F : Fr NoB w W) => b_put (hD.fr F) hf)
  have HQ := Lib.hid (fun W (F : Fr NoB w W) => b_rput (hD.fr F) hf)
  have hr := fun W (F : Fr NoB w W) => b_right (hD.fr F)
  have hs := fun W (F : Fr NoB w W) => b_rright (hD.fr F)
  generalize putA f l = PD at *
  generalize decide (RightA f l) = R at *
  have HR := Lib.hid hr
  have HS := Lib.hid hs
  clear hr hs hD hf
  have HW0 := Lib.hid (heap_alloc_new w (.cells cs 29))
  go_enter Tryd.func3, Tryd.ntmps3
  go_wp2_with (first | (refine wpList_load_row rfl 29 _ rfl w.heap.size rfl _ _ _ _ HW0.out Tryd.underlying29 rfl (asize_of H16.out) ?_) | fail)
  clear HW0
  have F0 := Lib.hid ((Fr.refl NoB w).alloc (.cells cs 29))
  have HB0 := Lib.hid (heap_alloc_new w (.cells cs 29))
  generalize w.alloc (.cells cs 29) = wb at F0 HB0 ⊢
  obtain ⟨N, hN⟩ : ∃ N, w.heap.size = N := ⟨_, rfl⟩
  rw [hN] at HB0 ⊢
  clear hN
  refine (HG.out _ F0.out).mono ?_
  rintro e w2 ⟨⟨g, rfl⟩, f2⟩
  have F2 := Lib.hid (F0.out.then f2)
  have HB2 := Lib.hid (f2.at_ HB0.out (fun x => x))
  clear f2 HG F0 HB0
  cases g with
  | true => as_aux_lemma =>
    go_wp2_with (fail)
    refine (HA.out _ F2.out).mono ?_
    rintro e w3 ⟨rfl, f3⟩
    go_wp2
    go_ret
    exact ⟨rfl, F2.out.then f3⟩
  | false =>
  go_wp2_with (first | (refine wpList_load_row rfl 29 _ rfl N rfl _ _ _ _ HB2.out Tryd.underlying29 rfl (asize_of H16.out) ?_) | fail)
  refine (HP.out _ F2.out).mono ?_
  rintro e w3 ⟨PA, pc, rfl, -, -, ho3, f3⟩
  have hr3 := own_rd ho3
  have F3 := Lib.hid (F2.out.then f3)
  have HB3 := Lib.hid (f3.at_ HB2.out (fun x => x))
  have R3 := Lib.hid (hr3.wide (Nat.zero_le _) (Nat.le_refl _))
  clear f3 F2 HB2 HP hr3 ho3
  go_wp2_with (first | (refine wpList_load_row rfl 29 _ rfl N rfl _ _ _ _ HB3.out Tryd.underlying29 rfl (asize_of H16.out) ?_) | fail)
  refine (HQ.out _ F3.out).mono ?_
  rintro e w4 ⟨QA, qc, rfl, hr4, f4⟩
  have F4 := Lib.hid (F3.out.then f4)
  have HB4 := Lib.hid (f4.at_ HB3.out (fun x => x))
  have R4 := Lib.hid (R3.out.step f4)
  have S4 := Lib.hid (hr4.wide (Nat.zero_le _) (Nat.le_refl _))
  clear f4 F3 HB3 HQ hr4 R3
  obtain ⟨x0, x1, x2, x3, x4, x5, x6, x7, x8, x9, x10, x11, x12, x13, x14, rfl⟩ := atoms H16.out
  have HRG : Hid (∀ W, Fr NoB w4 W → W.cell? ⟨N, 0, none⟩ = some x0 ∧ W.cell? ⟨N, 1, none⟩ = some x1 ∧ W.cell? ⟨N, 2, none⟩ = some x2 ∧ W.cell? ⟨N, 3, none⟩ = some x3 ∧ W.cell? ⟨N, 4, none⟩ = some x4 ∧ W.cell? ⟨N, 5, none⟩ = some x5 ∧ W.cell? ⟨N, 6, none⟩ = some x6 ∧ W.cell? ⟨N, 7, none⟩ = some x7 ∧ W.cell? ⟨N, 8, none⟩ = some x8 ∧ W.cell? ⟨N, 9, none⟩ = some x9 ∧ W.cell? ⟨N, 10, none⟩ = some x10 ∧ W.cell? ⟨N, 11, none⟩ = some x11 ∧ W.cell? ⟨N, 12, none⟩ = some x12 ∧ W.cell? ⟨N, 13, none⟩ = some x13 ∧ W.cell? ⟨N, 14, none⟩ = some x14) := fun W G => by
    have hb := G.at_ HB4.out (fun x => x)
    exact ⟨(cells_of hb 0).1, (cells_of hb 1).1, (cells_of hb 2).1, (cells_of hb 3).1, (cells_of hb 4).1, (cells_of hb 5).1, (cells_of hb 6).1, (cells_of hb 7).1, (cells_of hb 8).1, (cells_of hb 9).1, (cells_of hb 10).1, (cells_of hb 11).1, (cells_of hb 12).1, (cells_of hb 13).1, (cells_of hb 14).1⟩
  have hpi : PD.1.length ≤ 140737488355328 := by omega
  have HB := Lib.hid (fun W (G : Fr NoB w4 W) => same_again PA QA PD.1 pc qc 0 w4.heap.size 0 w4.heap.size W (R4.out.fr G (Nat.le_refl _) (fun _ _ _ x => x)) (S4.out.fr G (Nat.le_refl _) (fun _ _ _ x => x)) hpi)
  have D4 := Lib.hid ((Fr.refl NoB w4).drew)
  clear HB4 R4 S4 H16 hplen
  go_wp2
  go_region_held3 (fun W => W.cell? ⟨N, 0, none⟩ = some x0 ∧ W.cell? ⟨N, 1, none⟩ = some x1 ∧ W.cell? ⟨N, 2, none⟩ = some x2 ∧ W.cell? ⟨N, 3, none⟩ = some x3 ∧ W.cell? ⟨N, 4, none⟩ = some x4 ∧ W.cell? ⟨N, 5, none⟩ = some x5 ∧ W.cell? ⟨N, 6, none⟩ = some x6 ∧ W.cell? ⟨N, 7, none⟩ = some x7 ∧ W.cell? ⟨N, 8, none⟩ = some x8 ∧ W.cell? ⟨N, 9, none⟩ = some x9 ∧ W.cell? ⟨N, 10, none⟩ = some x10 ∧ W.cell? ⟨N, 11, none⟩ = some x11 ∧ W.cell? ⟨N, 12, none⟩ = some x12 ∧ W.cell? ⟨N, 13, none⟩ = some x13 ∧ W.cell? ⟨N, 14, none⟩ = some x14) (first
    | with_reducible exact HRG.out _ D4.out
    | with_reducible exact HRG.out _ (D4.out.then f5)
    | with_reducible exact HRG.out _ ((D4.out.then f5).then f6)
    | with_reducible exact HRG.out _ (((D4.out.then f5).then f6).then f7)
    | with_reducible exact HRG.out _ ((((D4.out.then f5).then f6).then f7).then f8)) (first
    | ((with_reducible refine (HR.out _ (F4.out.then D4.out)).mono ?_); rintro e w5 ⟨rfl, f5⟩)
    | ((with_reducible refine (HS.out _ (F4.out.then (D4.out.then f5))).mono ?_); rintro e w6 ⟨rfl, f6⟩)
    | ((with_reducible refine (HB.out _ ((D4.out.then f5).then f6)).mono ?_); rintro e w7 ⟨rfl, f7⟩)
    | ((with_reducible refine (HA.out _ (F4.out.then (((D4.out.then f5).then f6).then f7))).mono ?_); rintro e w8 ⟨rfl, f8⟩))
  all_goals
    go_wp2
    go_ret
    exact ⟨rfl, F4.out.then ((((D4.out.then f5).then f6).then f7).then f8)⟩
end Go.Proofs.YtlckgkpgllhpbaaDoor
