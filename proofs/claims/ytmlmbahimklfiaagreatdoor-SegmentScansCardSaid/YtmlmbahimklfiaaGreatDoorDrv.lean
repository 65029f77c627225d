/-
  Drv: the document's Put of any deed.
-/
import Derived.Test.YtmlmbahimklfiaaGreatDoorDru
import Derived.Test.YtmlmbahimklfiaaGreatDoorDrt
namespace Go.Proofs.YtmlmbahimklfiaaGreatDoor
open Go.RowKit

set_option maxRecDepth 8000 in
set_option maxHeartbeats 6400000 in
theorem rdput_yes (f : Fd) (p : Pl) (l : List (Fd × Nat)) (lo hi : Nat) (w : World) (hf : f.Ok) (hok : ∀ q ∈ l, q.1.Ok ∧ q.2 ≤ 140737488355328) (hn : l.length ≤ 140737488355328) (hD : RdD w lo hi f p l) (hh : hi ≤ w.heap.size) (hM : Max w) (hR : Right f l) :
    Calls Tryz.prog 27 #[dval f p l.length] w fun e w' => ∃ v, e = .returned (.tuple #[v, .int .i64 0]) ∧ w'.ownsRow w.heap.size 5 1 v (deedB f l).length (bv (deedB f l)) ∧ Fr NoB w w' := by
  have hcr := fun W (F : Fr NoB w W) => rright_calls f p l lo hi W hf hn hok (hD.fr F hh (fun _ _ _ x => x)) (Nat.le_trans hh F.size) (hM.fr F)
  rw [decide_eq_true hR] at hcr
  have hcb := fun pw G L W (F : Fr NoB w W) (hw : RWt W pw G L) (hi2 : ∀ k, WF pw G k → w.heap.size ≤ k) (hlim : L.length ≤ 100000) => rbody_right f p l pw G L lo hi W hR hf hok hw (fun k hk => hw.lt hk) hlim (hD.fr F hh (fun _ _ _ x => x)) (Nat.le_trans hh F.size) (fun k _ h2 h3 => by have := hi2 k h3; omega)
  have hZ : deedB f l = [kindB f.k] ++ intB f.z ++ intB f.s ++ intB f.t ++ intB f.x ++ intB f.m ++ tailB f l := by simp [deedB, headB, tailB]
  have hlen := deedB_len hR
  rw [hZ] at hlen ⊢
  have HLEN := Lib.hid hlen
  have HF := Lib.hid hf
  have hkr := hf.k
  have HKR := Lib.hid hkr
  have HCB := Lib.hid hcb
  have HCR := Lib.hid hcr
  generalize tailB f l = TB at *
  clear hM hD hok hR hcr hcb hZ hlen hf hkr
  obtain ⟨z, k, s, t, x, m, path, data, ow, ve, cv, ti, er, cver, ms⟩ := f
  obtain ⟨A, c, B, d, P, e'⟩ := p
  simp only at *
  simp only [dval, dcells] at *
  obtain ⟨Z, hZZ⟩ : ∃ Z, [kindB k] ++ intB z ++ intB s ++ intB t ++ intB x ++ intB m ++ TB = Z := ⟨_, rfl⟩
  rw [hZZ] at HLEN ⊢
  have HZZ := Lib.hid hZZ
  clear hZZ
  go_enter Tryz.func27, Tryz.ntmps27
  go_wp2_with (fail)
  have F0 := Lib.hid ((Fr.refl NoB w).alloc (.cells #[.int .i64 z, .int .u8 k, .int .i64 s, .int .i64 t, .int .i64 x, .int .i64 m, .string ⟨path.toArray⟩, .slice A data.length c, .int .i64 ow, .int .i64 ve, .int .i64 cv, .int .i64 ti, .int .i64 er, .int .i64 cver, .slice B ms.length d, .slice P l.length e'] 31))
  have HBX := Lib.hid (heap_alloc_new w (.cells #[.int .i64 z, .int .u8 k, .int .i64 s, .int .i64 t, .int .i64 x, .int .i64 m, .string ⟨path.toArray⟩, .slice A data.length c, .int .i64 ow, .int .i64 ve, .int .i64 cv, .int .i64 ti, .int .i64 er, .int .i64 cver, .slice B ms.length d, .slice P l.length e'] 31))
  generalize w.alloc (.cells #[.int .i64 z, .int .u8 k, .int .i64 s, .int .i64 t, .int .i64 x, .int .i64 m, .string ⟨path.toArray⟩, .slice A data.length c, .int .i64 ow, .int .i64 ve, .int .i64 cv, .int .i64 ti, .int .i64 er, .int .i64 cver, .slice B ms.length d, .slice P l.length e'] 31) = wb at F0 HBX ⊢
  have HSZ := Lib.hid F0.out.size
  generalize w.heap.size = NB at *
  refine (HCR.out _ F0.out).mono ?_
  rintro e w1 ⟨rfl, f1⟩
  have F1 := Lib.hid f1
  clear f1 HCR
  go_wp2_with (fail)
  refine (rwNew _).mono ?_
  rintro e w2 ⟨rfl, a2, f2, -⟩
  have t2 : WR wb w2 w1.heap.size [] none := ⟨a2, F1.out.then f2, fun k hk => by
    rcases hk with rfl | hk
    · exact F1.out.size
    · cases hk⟩
  have T2 := Lib.hid t2
  have HB2 := Lib.hid (show Prot w2 w1.heap.size none NB _ from ⟨t2.fr.at_ HBX.out (fun x => x), fun hx => by
    have h1 := Lib.lt_of_heap HBX.out
    have h2 := F1.out.size
    rcases hx with hx | hx
    · omega
    · cases hx⟩)
  generalize w1.heap.size = pw at *
  clear a2 f2 t2 F1
  have d1 := (cells_of HB2.out.at_ 1).1
  simp only [List.getElem?_toArray, List.getElem?_cons_zero, List.getElem?_cons_succ] at d1
  go_wp2_with (fail)
  refine (rwByteI pw none [] k _ HKR.out T2.out.a (by simp)).mono ?_
  rintro e w3 ⟨rfl, q3⟩
  rw [List.nil_append] at q3
  obtain ⟨G3, t3, p3⟩ := T2.out.next q3
  have T3 := Lib.hid t3
  have HB3 := Lib.hid (p3 _ _ HB2.out)
  clear q3 t3 p3 d1 HB2 T2
  have d0 := (cells_of HB3.out.at_ 0).1
  simp only [List.getElem?_toArray, List.getElem?_cons_zero] at d0
  go_wp2_with (fail)
  refine (rwInt pw G3 ([kindB k]) z _ HF.out.z.1 HF.out.z.2 T3.out.a (by simp only [List.length_cons, List.length_nil]; omega)).mono ?_
  rintro e w4 ⟨rfl, q4⟩
  obtain ⟨G4, t4, p4⟩ := T3.out.next q4
  have T4 := Lib.hid t4
  have HB4 := Lib.hid (p4 _ _ HB3.out)
  clear q4 t4 p4 d0 HB3 T3
  have d2 := (cells_of HB4.out.at_ 2).1
  simp only [List.getElem?_toArray, List.getElem?_cons_zero, List.getElem?_cons_succ] at d2
  go_wp2_with (fail)
  refine (rwInt pw G4 ([kindB k] ++ intB z) s _ HF.out.s.1 HF.out.s.2 T4.out.a (by have := intB_len z; simp only [List.length_append, List.length_cons, List.length_nil]; omega)).mono ?_
  rintro e w5 ⟨rfl, q5⟩
  obtain ⟨G5, t5, p5⟩ := T4.out.next q5
  have T5 := Lib.hid t5
  have HB5 := Lib.hid (p5 _ _ HB4.out)
  clear q5 t5 p5 d2 HB4 T4
  have d3 := (cells_of HB5.out.at_ 3).1
  simp only [List.getElem?_toArray, List.getElem?_cons_zero, List.getElem?_cons_succ] at d3
  go_wp2_with (fail)
  refine (rwInt pw G5 ([kindB k] ++ intB z ++ intB s) t _ HF.out.t.1 HF.out.t.2 T5.out.a (by have := intB_len z; have := intB_len s; simp only [List.length_append, List.length_cons, List.length_nil]; omega)).mono ?_
  rintro e w6 ⟨rfl, q6⟩
  obtain ⟨G6, t6, p6⟩ := T5.out.next q6
  have T6 := Lib.hid t6
  have HB6 := Lib.hid (p6 _ _ HB5.out)
  clear q6 t6 p6 d3 HB5 T5
  have d4 := (cells_of HB6.out.at_ 4).1
  simp only [List.getElem?_toArray, List.getElem?_cons_zero, List.getElem?_cons_succ] at d4
  go_wp2_with (fail)
  refine (rwInt pw G6 ([kindB k] ++ intB z ++ intB s ++ intB t) x _ HF.out.x.1 HF.out.x.2 T6.out.a (by have := intB_len z; have := intB_len s; have := intB_len t; simp only [List.length_append, List.length_cons, List.length_nil]; omega)).mono ?_
  rintro e w7 ⟨rfl, q7⟩
  obtain ⟨G7, t7, p7⟩ := T6.out.next q7
  have T7 := Lib.hid t7
  have HB7 := Lib.hid (p7 _ _ HB6.out)
  clear q7 t7 p7 d4 HB6 T6
  have d5 := (cells_of HB7.out.at_ 5).1
  simp only [List.getElem?_toArray, List.getElem?_cons_zero, List.getElem?_cons_succ] at d5
  go_wp2_with (fail)
  refine (rwInt pw G7 ([kindB k] ++ intB z ++ intB s ++ intB t ++ intB x) m _ HF.out.m.1 HF.out.m.2 T7.out.a (by have := intB_len z; have := intB_len s; have := intB_len t; have := intB_len x; simp only [List.length_append, List.length_cons, List.length_nil]; omega)).mono ?_
  rintro e w8 ⟨rfl, q8⟩
  obtain ⟨G8, t8, p8⟩ := T7.out.next q8
  have T8 := Lib.hid t8
  have HB8 := Lib.hid (p8 _ _ HB7.out)
  clear q8 t8 p8 d5 HB7 T7
  have HL5 : Hid (([kindB k] ++ intB z ++ intB s ++ intB t ++ intB x ++ intB m).length ≤ 100000) := by
    show _ ≤ _
    have := intB_len z; have := intB_len s; have := intB_len t; have := intB_len x; have := intB_len m; simp only [List.length_append, List.length_cons, List.length_nil]; omega
  obtain ⟨LH, hLH⟩ : ∃ LH, [kindB k] ++ intB z ++ intB s ++ intB t ++ intB x ++ intB m = LH := ⟨_, rfl⟩
  rw [hLH] at T8 HL5 HZZ
  clear hLH
  go_wp2_with (first | (refine wpList_load_row rfl 31 _ rfl NB rfl _ _ _ _ HB8.out.at_ Tryz.underlying31 rfl size16 ?_) | fail)
  refine (HCB.out pw G8 LH _ (F0.out.then T8.out.fr) T8.out.a (fun k hk => Nat.le_trans HSZ.out (T8.out.i k hk)) HL5.out).mono ?_
  rintro e w20 ⟨rfl, q20⟩
  obtain ⟨G20, t20, -⟩ := T8.out.next q20
  have T20 := Lib.hid t20
  clear q20 t20 T8 HB8 HCB
  rw [HZZ.out] at T20
  go_wp2_with (fail)
  refine (rwDone pw G20 _ _ T20.out.a (by have := HLEN.out; omega)).mono ?_
  rintro e w8 ⟨v8, rfl, o8, b8⟩
  obtain ⟨A8, c8, rfl, n1, n2⟩ := own_form o8
  go_wp2
  go_ret2
  exact ⟨.slice A8 Z.length c8, rfl, own_low o8 (Nat.le_trans F0.out.size T20.out.fr.size), (F0.out.then T20.out.fr).then (Fr.ofBelow b8)⟩

set_option maxRecDepth 8000 in
set_option maxHeartbeats 3200000 in
theorem rdput_calls (f : Fd) (p : Pl) (l : List (Fd × Nat)) (lo hi : Nat) (w : World) (hf : f.Ok) (hok : ∀ q ∈ l, q.1.Ok ∧ q.2 ≤ 140737488355328) (hn : l.length ≤ 140737488355328) (hD : RdD w lo hi f p l) (hh : hi ≤ w.heap.size) (hM : Max w) :
    Calls Tryz.prog 27 #[dval f p l.length] w fun e w' => ∃ v, e = .returned (.tuple #[v, .int .i64 (putD f l).2]) ∧ w'.ownsRow w.heap.size 5 1 v (putD f l).1.length (bv (putD f l).1) ∧ Fr NoB w w' := by
  by_cases hR : Right f l
  · rw [show putD f l = (deedB f l, 0) from if_pos hR]
    exact rdput_yes f p l lo hi w hf hok hn hD hh hM hR
  · rw [show putD f l = ([], 4) from if_neg hR]
    have hcr := fun W (F : Fr NoB w W) => rright_calls f p l lo hi W hf hn hok (hD.fr F hh (fun _ _ _ x => x)) (Nat.le_trans hh F.size) (hM.fr F)
    rw [decide_eq_false hR] at hcr
    have HCR := Lib.hid hcr
    clear hcr hM hD hok hR hf
    obtain ⟨z, k, s, t, x, m, path, data, ow, ve, cv, ti, er, cver, ms⟩ := f
    obtain ⟨A, c, B, d, P, e'⟩ := p
    simp only [dval, dcells] at *
    go_enter Tryz.func27, Tryz.ntmps27
    go_wp2_with (fail)
    refine (HCR.out _ ((Fr.refl NoB w).alloc _)).mono ?_
    rintro e w1 ⟨rfl, f1⟩
    go_wp2
    go_ret2
    exact ⟨.slice none 0 0, rfl, World.ownsRow_nil _ _ _ _, ((Fr.refl NoB w).alloc _).then f1⟩
end Go.Proofs.YtmlmbahimklfiaaGreatDoor
