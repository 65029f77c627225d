/-
  Asp: AskReplies: what it does.
-/
import Derived.Test.YtlckgkpgllhpbaaDoorAbl
import Derived.Test.YtlckgkpgllhpbaaDoorReq
import Derived.Test.YtlckgkpgllhpbaaDoorRev
namespace Go.Proofs.YtlckgkpgllhpbaaDoor
open Go.RowKit

theorem y_rput {w : World} {cs : Array Value} {f : Fy} {l : List (Fy × Nat)} (h : IsY w cs f l) (hf : FineY f l) : Calls Tryd.prog 16 #[.agg cs] w fun e w' => ∃ A c, e = .returned (.tuple #[.slice A (putY f l).1.length c, .int .i64 (putY f l).2]) ∧ Rd w' w.heap.size w'.heap.size A (putY f l).1 ∧ Fr NoB w w' := by
  obtain ⟨p, lo, hi, rfl, h2, h3⟩ := h
  refine (ryput_calls f p l lo hi w hf.ok hf.oks hf.len h3 h2).mono ?_
  rintro e w' ⟨v, rfl, ho, hf⟩
  obtain ⟨A, c, rfl, n1, n2⟩ := own_form ho
  exact ⟨A, c, rfl, own_rd ho, hf⟩
theorem putY_len (f : Fy) (l : List (Fy × Nat)) (hf : f.Ok) (hok : ∀ q ∈ l, q.1.Ok) : (putY f l).1.length ≤ 140737488355328 := by
  unfold putY
  split
  · rename_i h
    have := replyB_len h hf hok
    simp only
    omega
  · simp
set_option maxHeartbeats 12800000 in
set_option maxRecDepth 8000 in
theorem replies_walk (fy : Fy) (ly : List (Fy × Nat)) (cy : Array Value) (fe : Fe) (w : World) (hf : FineY fy ly) (hD : IsY w cy fy ly) (he : fe.Ok) :
    Calls Tryd.prog 4 #[.agg cy, .agg (ecells fe)] w fun e w' => e = .returned (.bool true) ∧ Fr NoB w w' := by
  have H22 := Lib.hid hD.size
  have hl1 := putY_len fy ly hf.ok hf.oks
  have hl2 := putEv_len fe
  have HW := Lib.hid (fun W (F : Fr NoB w W) => y_wide (hD.fr F) hf)
  have HP := Lib.hid (fun W (F : Fr NoB w W) => y_put (hD.fr F) hf)
  have HQ := Lib.hid (fun W (F : Fr NoB w W) => y_rput (hD.fr F) hf)
  have HE := Lib.hid (fun W => eput_calls fe W he)
  have HE2 := Lib.hid (fun W => reput_calls fe W he)
  generalize putY fy ly = PY at *
  generalize putEv fe = PE at *
  have HL1 := Lib.hid hl1
  have HL2 := Lib.hid hl2
  clear hD hf he hl1 hl2
  obtain ⟨k, so, path, z⟩ := fe
  simp only [ecells] at *
  have HY0 := Lib.hid (heap_alloc_new w (.cells cy 43))
  have F0 := Lib.hid ((Fr.refl NoB w).alloc (.cells cy 43))
  go_enter Tryd.func4, Tryd.ntmps4
  go_wp2_with (first | (with_reducible refine held_load (ty := 43) ?_) | fail)
  unfold Held
  have hsz : (w.alloc (.cells cy 43)).heap.size = w.heap.size + 1 := by simp
  generalize w.alloc (.cells cy 43) = wa at HY0 F0 hsz ⊢
  obtain ⟨NY, hNY⟩ : ∃ NY, w.heap.size = NY := ⟨_, rfl⟩
  rw [hNY] at HY0 hsz ⊢
  clear hNY
  have F1 := Lib.hid (F0.out.alloc (.cells #[.int .u8 k, .int .u8 so, .string ⟨path.toArray⟩, .int .i64 z] 46))
  have HY1 := Lib.hid (((Fr.refl NoB wa).alloc (.cells #[.int .u8 k, .int .u8 so, .string ⟨path.toArray⟩, .int .i64 z] 46)).at_ HY0.out (fun x => x))
  have hv1 := heap_alloc_new wa (.cells #[.int .u8 k, .int .u8 so, .string ⟨path.toArray⟩, .int .i64 z] 46)
  rw [hsz] at hv1
  have HV1 := Lib.hid hv1
  clear hv1 hsz
  generalize wa.alloc (.cells #[.int .u8 k, .int .u8 so, .string ⟨path.toArray⟩, .int .i64 z] 46) = wb at F1 HY1 HV1 ⊢
  obtain ⟨NV, hNV⟩ : ∃ NV, NY + 1 = NV := ⟨_, rfl⟩
  rw [hNV] at HV1 ⊢
  clear hNV
  clear F0 HY0
  refine wpList_load_row rfl 43 (.tmp 2) rfl NY rfl 43 cy (0, 0) _ HY1.out Tryd.underlying43 rfl (ysize_of H22.out) ?_
  go_wp2_with (fail)
  refine (HW.out _ F1.out).mono ?_
  rintro e w2 ⟨⟨g, rfl⟩, f2⟩
  have F2 := Lib.hid (F1.out.then f2)
  have HY2 := Lib.hid (f2.at_ HY1.out (fun x => x))
  have HV2 := Lib.hid (f2.at_ HV1.out (fun x => x))
  clear f2 HW F1 HY1 HV1
  cases g with
  | true => as_aux_lemma =>
    go_wp2_with (fail)
    refine (awake_calls _).mono ?_
    rintro e w3 ⟨rfl, f3⟩
    go_wp2
    go_ret
    exact ⟨rfl, F2.out.then f3⟩
  | false =>
  go_wp2_with (first | (with_reducible refine held_load (ty := 43) ?_) | fail)
  unfold Held
  refine wpList_load_row rfl 43 (.tmp 2) rfl NY rfl 43 cy (0, 0) _ HY2.out Tryd.underlying43 rfl (ysize_of H22.out) ?_
  go_wp2_with (fail)
  refine (HP.out _ F2.out).mono ?_
  rintro e w3 ⟨A3, c3, rfl, -, -, o3, f3⟩
  have r3 := Rd.low0 (own_rd o3)
  have R3 := Lib.hid r3
  have F3 := Lib.hid (F2.out.then f3)
  have HY3 := Lib.hid (f3.at_ HY2.out (fun x => x))
  have HV3 := Lib.hid (f3.at_ HV2.out (fun x => x))
  clear o3 r3 f3 HP F2 HY2 HV2
  go_wp2_with (first | (with_reducible refine held_load (ty := 43) ?_) | fail)
  unfold Held
  refine wpList_load_row rfl 43 (.tmp 2) rfl NY rfl 43 cy (0, 0) _ HY3.out Tryd.underlying43 rfl (ysize_of H22.out) ?_
  go_wp2_with (fail)
  refine (HQ.out _ F3.out).mono ?_
  rintro e w4 ⟨A4, c4, rfl, r4, f4⟩
  have R4 := Lib.hid (Rd.low0 r4)
  have R3b := Lib.hid (R3.out.up f4)
  have F4 := Lib.hid (F3.out.then f4)
  have v0 := (cells_of (f4.at_ HV3.out (fun x => x)) 0).1
  have v1 := (cells_of (f4.at_ HV3.out (fun x => x)) 1).1
  have v2 := (cells_of (f4.at_ HV3.out (fun x => x)) 2).1
  have v3 := (cells_of (f4.at_ HV3.out (fun x => x)) 3).1
  simp only [List.getElem?_toArray, List.getElem?_cons_zero, List.getElem?_cons_succ] at v0 v1 v2 v3
  have HV4 := Lib.hid (f4.at_ HV3.out (fun x => x))
  clear r4 f4 HQ F3 HY3 HV3 R3
  go_wp2_with (fail)
  refine (HE.out _).mono ?_
  rintro e w5 ⟨v, rfl, o5, f5⟩
  obtain ⟨A5, c5, rfl, -, -⟩ := own_form o5
  have R5 := Lib.hid (Rd.low0 (own_rd o5))
  have R3c := Lib.hid (R3b.out.up f5)
  have R4b := Lib.hid (R4.out.up f5)
  have F5 := Lib.hid (F4.out.then f5)
  clear v0 v1 v2 v3
  have v0 := (cells_of (f5.at_ HV4.out (fun x => x)) 0).1
  have v1 := (cells_of (f5.at_ HV4.out (fun x => x)) 1).1
  have v2 := (cells_of (f5.at_ HV4.out (fun x => x)) 2).1
  have v3 := (cells_of (f5.at_ HV4.out (fun x => x)) 3).1
  simp only [List.getElem?_toArray, List.getElem?_cons_zero, List.getElem?_cons_succ] at v0 v1 v2 v3
  clear o5 f5 HE F4 HV4 R3b R4
  go_wp2_with (fail)
  refine (HE2.out _).mono ?_
  rintro e w6 ⟨v, rfl, o6, f6⟩
  obtain ⟨A6, c6, rfl, -, -⟩ := own_form o6
  have R6 := Lib.hid (Rd.low0 (own_rd o6))
  have R3d := Lib.hid (R3c.out.up f6)
  have R4c := Lib.hid (R4b.out.up f6)
  have R5b := Lib.hid (R5.out.up f6)
  have F6 := Lib.hid (F5.out.then f6)
  clear v0 v1 v2 v3 o6 f6 HE2 F5 R3c R4b R5
  go_wp2_with (fail)
  refine (same_again A3 A4 PY.1 c3 c4 0 w6.heap.size 0 w6.heap.size w6 R3d.out R4c.out HL1.out).mono ?_
  rintro e w7 ⟨rfl, f7⟩
  go_wp2_with (fail)
  refine (same_again A5 A6 PE.1 c5 c6 0 w7.heap.size 0 w7.heap.size w7 (R5b.out.up f7) (R6.out.up f7) (by have := HL2.out; omega)).mono ?_
  rintro e w8 ⟨rfl, f8⟩
  have F8 := Lib.hid ((F6.out.then f7).then f8)
  clear f7 f8
  go_wp2_with (fail)
  refine (awake_calls _).mono ?_
  rintro e w9 ⟨rfl, f9⟩
  go_wp2
  go_ret
  exact ⟨rfl, F8.out.then f9⟩
end Go.Proofs.YtlckgkpgllhpbaaDoor
