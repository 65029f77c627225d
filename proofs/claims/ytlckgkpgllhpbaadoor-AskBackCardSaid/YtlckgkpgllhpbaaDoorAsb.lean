/-
  Asb: AskBack: what it does.
-/
import Derived.Test.YtlckgkpgllhpbaaDoorAsh
namespace Go.Proofs.YtlckgkpgllhpbaaDoor
open Go.RowKit

set_option maxHeartbeats 25600000 in
set_option maxRecDepth 8000 in
theorem back_walk (f : Fa) (l : List (Fa × Nat)) (ca : Array Value) (fy : Fy) (ly : List (Fy × Nat)) (cy : Array Value) (fe : Fe) (cut : Int) (A2 : Option Addr) (more : List UInt8) (c2 : Nat) (w : World)
    (hf : FineA f l) (hfo : (∀ q ∈ l, q.1.OkMs) ∧ ∀ q ∈ l, q.1.Ok) (hA : IsA w ca f l) (hfy : FineY fy ly) (hty : (∀ t ∈ fy.ls, t.length ≤ 140737488351232) ∧ ∀ q ∈ ly, ∀ t ∈ q.1.ls, t.length ≤ 140737488351232) (hY : IsY w cy fy ly) (hfe : fe.Ok) (hm : Rd w 0 w.heap.size A2 more) (hml : more.length ≤ 140737488355328) :
    Calls Tryd.prog 5 #[.agg ca, .agg cy, .agg (ecells fe), .int .i64 cut, .slice A2 more.length c2] w fun e w' => e = .returned (.bool true) ∧ Fr NoB w w' := by
  have Hca := Lib.hid hA.size
  have Hcy := Lib.hid hY.size
  have HG := Lib.hid (fun W (F : Fr NoB w W) => b_great (hA.fr F) hf)
  have HWI := Lib.hid (fun W (F : Fr NoB w W) => y_wide (hY.fr F) hfy)
  have hp := fun W (F : Fr NoB w W) => b_put (hA.fr F) hf
  have hr := fun W (F : Fr NoB w W) => b_right (hA.fr F)
  have hyp := fun W (F : Fr NoB w W) => y_put (hY.fr F) hfy
  have hep := fun W => eput_calls fe W hfe
  have HSA := Lib.hid (fun (hR : RightA f l) W xs (h : IsA W xs f l) (F : Fr NoB w W) => b_same h (hA.fr F) hf (fun q hq => (hR.2.2.2.2.2.2.1 q hq).low.1))
  have HSY := Lib.hid (fun (hR : RightY fy ly) W xs (h : IsY W xs fy ly) (F : Fr NoB w W) => y_same h (hY.fr F) hfy hty.1 (fun q hq => ⟨(hR.2 q hq).2.1, hty.2 q hq⟩))
  obtain ⟨C, z, hPD⟩ : ∃ C z, putA f l = (C, z) := ⟨_, _, rfl⟩
  obtain ⟨D, y, hPY⟩ : ∃ D y, putY fy ly = (D, y) := ⟨_, _, rfl⟩
  obtain ⟨E, x, hPE⟩ : ∃ E x, putEv fe = (E, x) := ⟨_, _, rfl⟩
  rw [hPD] at hp
  rw [hPY] at hyp
  rw [hPE] at hep
  obtain ⟨R, hRR⟩ : ∃ R, decide (RightA f l) = R := ⟨_, rfl⟩
  rw [hRR] at hr
  have hzR : (z == 0) = R := by
    unfold putA at hPD
    rw [← hRR]
    by_cases h : RightA f l
    · rw [if_pos h] at hPD; cases hPD; rw [decide_eq_true h]; rfl
    · rw [if_neg h] at hPD; cases hPD; rw [decide_eq_false h]; rfl
  have HP := Lib.hid hp
  have HR := Lib.hid hr
  have HYP := Lib.hid hyp
  have HEP := Lib.hid hep
  have HPD := Lib.hid hPD
  have HPY := Lib.hid hPY
  have HPE := Lib.hid hPE
  have HRR := Lib.hid hRR
  have HZR := Lib.hid hzR
  have HMR := Lib.hid hm
  have HFA := Lib.hid (And.intro hf hfo)
  have HFY := Lib.hid hfy
  have HFE := Lib.hid hfe
  clear hp hr hyp hep hPD hPY hPE hRR hzR hm hA hY hf hfo hfy hty hfe
  obtain ⟨k, so, path, z0⟩ := fe
  simp only [ecells] at *
  obtain ⟨wa, hwa⟩ : ∃ wa, w.alloc (.cells ca 29) = wa := ⟨_, rfl⟩
  obtain ⟨wb, hwb⟩ : ∃ wb, wa.alloc (.cells cy 43) = wb := ⟨_, rfl⟩
  obtain ⟨w0, hw0⟩ : ∃ w0, wb.alloc (.cells #[.int .u8 k, .int .u8 so, .string ⟨path.toArray⟩, .int .i64 z0] 46) = w0 := ⟨_, rfl⟩
  have fa : Fr NoB w wa := by rw [← hwa]; exact (Fr.refl NoB w).alloc _
  have fb : Fr NoB wa wb := by rw [← hwb]; exact (Fr.refl NoB wa).alloc _
  have fc : Fr NoB wb w0 := by rw [← hw0]; exact (Fr.refl NoB wb).alloc _
  have ba : wa.heap[w.heap.size]? = some (.cells ca 29 (0, 0)) := by rw [← hwa]; exact heap_alloc_new w _
  have bb : wb.heap[wa.heap.size]? = some (.cells cy 43 (0, 0)) := by rw [← hwb]; exact heap_alloc_new wa _
  have bc : w0.heap[wb.heap.size]? = some (.cells #[.int .u8 k, .int .u8 so, .string ⟨path.toArray⟩, .int .i64 z0] 46 (0, 0)) := by rw [← hw0]; exact heap_alloc_new wb _
  have HA0 := Lib.hid ((fb.then fc).at_ ba (fun x => x))
  have HY0 := Lib.hid (fc.at_ bb (fun x => x))
  have HV0 := Lib.hid bc
  have F0 := Lib.hid ((fa.then fb).then fc)
  clear fa fb fc ba bb bc
  go_enter Tryd.func5, Tryd.ntmps5
  go_wp2_with (fail)
  clear hwa hwb hw0
  generalize w.heap.size = NA at HA0 HY0 HV0 ⊢
  generalize wa.heap.size = NY at HY0 ⊢
  generalize wb.heap.size = NV at HV0 ⊢
  refine (awake_calls _).mono ?_
  rintro e w1 ⟨rfl, f1⟩
  have Fw1 := Lib.hid (F0.out.then f1)
  have HA1 := Lib.hid (f1.at_ HA0.out (fun x => x))
  have HY1 := Lib.hid (f1.at_ HY0.out (fun x => x))
  have HV1 := Lib.hid (f1.at_ HV0.out (fun x => x))
  clear f1 F0 HA0 HY0 HV0
  go_wp2_with (first | (with_reducible refine held_load (ty := 29) ?_) | fail)
  unfold Held
  refine wpList_load_row rfl 29 (.tmp 5) rfl NA rfl 29 ca (0, 0) _ HA1.out Tryd.underlying29 rfl (asize_of Hca.out) ?_
  go_wp2_with (fail)
  refine (HG.out _ Fw1.out).mono ?_
  rintro e w2 ⟨⟨g, rfl⟩, f2⟩
  have Fw2 := Lib.hid (Fw1.out.then f2)
  have HA2 := Lib.hid (f2.at_ HA1.out (fun x => x))
  have HY2 := Lib.hid (f2.at_ HY1.out (fun x => x))
  have HV2 := Lib.hid (f2.at_ HV1.out (fun x => x))
  clear f2 HG Fw1 HA1 HY1 HV1
  cases g with
  | true => as_aux_lemma =>
    go_wp2
    go_ret
    exact ⟨rfl, Fw2.out⟩
  | false =>
  go_wp2_with (first | (with_reducible refine held_load_on (ty := 43) ?_) | fail)
  unfold Held
  refine wpList_load_on (by rfl) 43 _ rfl NY rfl _ _ _ _ HY2.out Tryd.underlying43 rfl (ysize_of Hcy.out) ?_
  go_wp2_with (fail)
  refine (HWI.out _ Fw2.out).mono ?_
  rintro e w3 ⟨⟨g, rfl⟩, f3⟩
  have Fw3 := Lib.hid (Fw2.out.then f3)
  have HA3 := Lib.hid (f3.at_ HA2.out (fun x => x))
  have HY3 := Lib.hid (f3.at_ HY2.out (fun x => x))
  have HV3 := Lib.hid (f3.at_ HV2.out (fun x => x))
  clear f3 HWI Fw2 HA2 HY2 HV2
  cases g with
  | true => as_aux_lemma =>
    go_wp2
    go_ret
    exact ⟨rfl, Fw3.out⟩
  | false =>
  by_cases k2 : (1000 : Int) < (more.length : Int)
  · as_aux_lemma =>
    go_wp2
    go_ret
    exact ⟨rfl, Fw3.out⟩
  go_wp2_with (first | (with_reducible refine held_load (ty := 29) ?_) | fail)
  unfold Held
  refine wpList_load_row rfl 29 (.tmp 5) rfl NA rfl 29 ca (0, 0) _ HA3.out Tryd.underlying29 rfl (asize_of Hca.out) ?_
  go_wp2_with (fail)
  refine (HP.out _ Fw3.out).mono ?_
  rintro e w4 ⟨PA, pc, rfl, hn1, hn2, o4, f4⟩
  have R4 := Lib.hid (Rd.low0 (own_rd o4))
  have Fw4 := Lib.hid (Fw3.out.then f4)
  have HA4 := Lib.hid (f4.at_ HA3.out (fun x => x))
  have HY4 := Lib.hid (f4.at_ HY3.out (fun x => x))
  have HV4 := Lib.hid (f4.at_ HV3.out (fun x => x))
  clear f4 o4 HP Fw3 HA3 HY3 HV3
  go_wp2_with (first | (with_reducible refine held_load (ty := 29) ?_) | fail)
  unfold Held
  refine wpList_load_row rfl 29 (.tmp 5) rfl NA rfl 29 ca (0, 0) _ HA4.out Tryd.underlying29 rfl (asize_of Hca.out) ?_
  go_wp2_with (fail)
  refine (HR.out _ Fw4.out).mono ?_
  rintro e w5 ⟨rfl, f5⟩
  have R5 := Lib.hid (R4.out.up f5)
  have Fw5 := Lib.hid (Fw4.out.then f5)
  have HA5 := Lib.hid (f5.at_ HA4.out (fun x => x))
  have HY5 := Lib.hid (f5.at_ HY4.out (fun x => x))
  have HV5 := Lib.hid (f5.at_ HV4.out (fun x => x))
  clear f5 HR Fw4 HA4 HY4 HV4 R4
  go_upto_if 53 with fail
  go_cut [] (fun W => w5 = W)
  case first =>
    have hzr : (z = 0 ∧ R = true) ∨ (z = 4 ∧ R = false) := by
      have h := HPD.out
      have h2 := HRR.out
      unfold putA at h
      by_cases hR : RightA f l
      · rw [if_pos hR] at h; cases h; rw [decide_eq_true hR] at h2; exact .inl ⟨rfl, h2.symm⟩
      · rw [if_neg hR] at h; cases h; rw [decide_eq_false hR] at h2; exact .inr ⟨rfl, h2.symm⟩
    clear HZR HRR
    rcases hzr with ⟨rfl, rfl⟩ | ⟨rfl, rfl⟩
    · go_wp2
      all_goals go_meet
      all_goals exact rfl
    · go_wp2
      all_goals go_meet
      all_goals exact rfl
  case rest =>
  subst hcut
  go_upto_if 55 with fail
  go_cut [] (fun W => Fr NoB w5 W)
  case first =>
    by_cases hR : RightA f l
    rotate_left
    · as_aux_lemma =>
      have hz4 : z = 4 := by have h := HPD.out; rw [putA, if_neg hR] at h; cases h; rfl
      subst hz4
      go_wp2
      all_goals go_meet
      all_goals exact Fr.refl _ _
    · as_aux_lemma =>
      obtain ⟨hzz0, hC⟩ : z = 0 ∧ askB f l = C := by have h := HPD.out; rw [putA, if_pos hR] at h; cases h; exact ⟨rfl, rfl⟩
      subst hzz0
      have hpos : 0 < C.length := by rw [← hC]; simp [askB, headA]
      have hlen : C.length ≤ 22000 := by rw [← hC]; exact askB_len hR
      have HBK := Lib.hid (fun PA pc W (h : Rd W 0 W.heap.size PA (askB f l)) => a_back hR HFA.out.1 HFA.out.2.1 PA pc W h (by rw [hC]; omega))
      have HCU := Lib.hid (fun PA pc q W (h : Rd W 0 W.heap.size PA (askB f l)) (hq : q < (askB f l).length) => a_cut hR HFA.out.1 HFA.out.2.1 PA pc q W h hq (by rw [hC]; omega))
      have HMO := Lib.hid (fun PA pc W (h : Rd W 0 W.heap.size PA (askB f l ++ more)) => a_more hR HFA.out.1 HFA.out.2.1 more PA pc W h (by rw [List.length_append, hC]; omega))
      have HSM := Lib.hid (fun W xs (h : IsA W xs f l) (F : Fr NoB w5 W) => HSA.out hR W xs h (Fw5.out.then F))
      rw [hC] at HBK HCU HMO
      have hclen : ¬ (1048576 : Int) < (C.length : Int) := by omega
      clear HSA HSY HYP HEP HPD HPY HPE HRR HZR hC HFA HFY HFE HY5 HV5
      go_wp2_with (fail)
      refine (HBK.out PA pc w5 R5.out).mono ?_
      rintro e v5 ⟨xa, rfl, hd, f5⟩
      have A16 := Lib.hid hd.size
      have AON := Lib.hid hd.one
      have FA := (Fr.refl NoB v5).alloc (.cells xa 29)
      have F5 := Lib.hid (f5.then FA)
      have R5 := Lib.hid ((R5.out.up f5).up FA)
      have XA := Lib.hid (hd.fr FA)
      have HXA := Lib.hid (heap_alloc_new v5 (.cells xa 29))
      clear f5 hd FA
      go_wp2_with (first | (with_reducible refine held_store (ty := 29) ?_) | fail)
      unfold Held
      refine wpList_store_row rfl 29 _ _ rfl v5.heap.size xa ?_ ?_ _ _ (heap_alloc_new v5 _) (asize_of A16.out) A16.out.symm AON.out ?_
      · rfl
      · rfl
      rw [World.setRow_alloc_new]
      generalize v5.alloc (.cells xa 29) = v6 at *
      obtain ⟨NX, hNX⟩ : ∃ NX, v5.heap.size = NX := ⟨_, rfl⟩
      rw [hNX] at HXA ⊢
      clear hNX
      go_wp2_with (fail)
      have hq0 : 0 ≤ cut % (C.length : Int) := Int.emod_nonneg _ (by omega)
      have hq1 : cut % (C.length : Int) < (C.length : Int) := Int.emod_lt_of_pos _ (by omega)
      refine (pick_calls cut C.length v6 (by omega) (by omega)).mono ?_
      rintro e v7 ⟨rfl, rfl⟩
      obtain ⟨q, hq⟩ : ∃ q : Nat, cut % (C.length : Int) = (q : Int) := ⟨(cut % (C.length : Int)).toNat, by omega⟩
      rw [hq] at hq0 hq1 ⊢
      clear hq
      have hqc : (q : Int) ≤ (pc : Int) := by omega
      go_wp2_with (fail)
      refine (HCU.out PA pc q v6 R5.out (by omega)).mono ?_
      rintro e v8 ⟨xb, rfl, hb16, hbone, f8⟩
      have B16 := Lib.hid hb16
      have BON := Lib.hid hbone
      have FA := (Fr.refl NoB v8).alloc (.cells xb 29)
      have G8 := f8.then FA
      have F8 := Lib.hid (F5.out.then G8)
      have HXA8 := Lib.hid (G8.at_ HXA.out (fun x => x))
      have R8 := Lib.hid (R5.out.up G8)
      have XA8 := Lib.hid (XA.out.fr G8)
      clear f8 F5 HXA R5 XA FA G8 hq0 hq1 hqc hb16 hbone
      go_wp2_with (first | (with_reducible refine held_store (ty := 29) ?_) | fail)
      unfold Held
      refine wpList_store_row rfl 29 _ _ rfl v8.heap.size xb ?_ ?_ _ _ (heap_alloc_new v8 _) (asize_of B16.out) B16.out.symm BON.out ?_
      · rfl
      · rfl
      rw [World.setRow_alloc_new]
      generalize v8.alloc (.cells xb 29) = v9 at *
      go_wp2_with (fail)
      refine (copy_calls PA C pc _ _ v9 R8.out (by omega)).mono ?_
      rintro e v10 ⟨vv, rfl, o10, b10⟩
      obtain ⟨CA, cc, rfl, n1, n2⟩ := own_form o10
      have f10 : Fr NoB v9 v10 := Fr.ofBelow b10
      have O10 := Lib.hid o10
      have HSZ9 := Lib.hid f10.size
      have HF910 := Lib.hid f10
      clear b10 f10 o10
      obtain ⟨i0, hi0, hz0, hz1, hz2⟩ := info_parts info_byte
      have MR10 := Lib.hid (HMR.out.fr (Fw5.out.then (F8.out.then HF910.out)) (Nat.le_refl _) (fun _ _ _ x => x)).srcs
      go_wp2_with (at_builtin; go_loud (refine wpList_append_src _ rfl _ _ 23 rfl v9.heap.size 5 i0 (.int .u8 0) 1 1 Tryd.underlying23 hi0 hz0 hz1 hz2 rfl (by decide) (.slice CA C.length cc) C.length (bv C) rfl O10.out A2 more.length c2 (bv more) rfl (by simp) MR10.out (bv_one more) (by unfold maxLen; omega) (by omega) HSZ9.out ?_))
      intro v' v11 hA
      rw [show bv C ++ bv more = bv (C ++ more) by simp [bv]] at hA
      obtain ⟨MA, mc, rfl, n3, n4, hr11⟩ := App.rd hA
      simp only [List.length_append] at n3 ⊢
      have f11 : Fr NoB v9 v11 := HF910.out.trans hA.fr (fun k hk hx => absurd (O10.out.lt k hx).1 (by omega))
      have R11 := Lib.hid (hr11.wide (Nat.zero_le _) (Nat.le_refl _))
      have F11 := Lib.hid (F8.out.then f11)
      have HXA11 := Lib.hid (f11.at_ HXA8.out (fun x => x))
      have XA11 := Lib.hid (XA8.out.fr f11)
      clear hA hr11 f11 HF910 O10 MR10 F8 HXA8 XA8 R8 hi0 hz0 hz1 hz2 HSZ9
      go_wp2_with (fail)
      refine (HMO.out MA mc v11 R11.out).mono ?_
      rintro e v12 ⟨xc, zz, rfl, hzz, hc16, hcone, f12⟩
      have C16 := Lib.hid hc16
      have CON := Lib.hid hcone
      have HZZ := Lib.hid hzz
      have FA := (Fr.refl NoB v12).alloc (.cells xc 29)
      have G12 := f12.then FA
      have F12 := Lib.hid (F11.out.then G12)
      have HB12 := Lib.hid ((F12.out).at_ HA5.out (fun x => x))
      have HXA12 := Lib.hid (G12.at_ HXA11.out (fun x => x))
      have XA12 := Lib.hid (XA11.out.fr G12)
      clear f12 F11 HXA11 XA11 R11 FA G12 hc16 hcone hzz
      go_wp2_with (first | (with_reducible refine held_store (ty := 29) ?_) | fail)
      unfold Held
      refine wpList_store_row rfl 29 _ _ rfl v12.heap.size xc ?_ ?_ _ _ (heap_alloc_new v12 _) (asize_of C16.out) C16.out.symm CON.out ?_
      · rfl
      · rfl
      rw [World.setRow_alloc_new]
      generalize v12.alloc (.cells xc 29) = v13 at *
      go_wp2_with (first | (with_reducible refine held_load_on (ty := 29) ?_) | fail)
      unfold Held
      refine wpList_load_on (by rfl) 29 _ rfl NX rfl _ _ _ _ HXA12.out Tryd.underlying29 rfl (asize_of A16.out) ?_
      go_wp2_with (first | (with_reducible refine held_load_on (ty := 29) ?_) | fail)
      unfold Held
      refine wpList_load_on (by rfl) 29 _ rfl NA rfl _ _ _ _ HB12.out Tryd.underlying29 rfl (asize_of Hca.out) ?_
      go_wp2_with (fail)
      refine (HSM.out v13 xa XA12.out F12.out).mono ?_
      rintro e v14 ⟨rfl, f14⟩
      have F14 := Lib.hid (F12.out.then f14)
      clear f14 XA12
      have hzz := HZZ.out
      generalize hbm : ((more.length : Int) == 0) = bm at hzz
      cases bm
      · go_wp2
        all_goals go_meet
        all_goals exact F14.out
      · go_wp2
        all_goals go_meet
        all_goals exact F14.out
  case rest =>
  have Fw6 := Lib.hid (Fw5.out.then hcut)
  have HY6 := Lib.hid (hcut.at_ HY5.out (fun x => x))
  have HV6 := Lib.hid (hcut.at_ HV5.out (fun x => x))
  clear hcut Fw5 HA5 HY5 HV5 R5 HPD HRR HZR HSA HFA
  go_wp2_with (first | (with_reducible refine held_load (ty := 43) ?_) | fail)
  unfold Held
  refine wpList_load_row rfl 43 (.tmp 6) rfl NY rfl 43 cy (0, 0) _ HY6.out Tryd.underlying43 rfl (ysize_of Hcy.out) ?_
  go_wp2_with (fail)
  refine (HYP.out _ Fw6.out).mono ?_
  rintro e w7 ⟨PA, pc, rfl, hn1, hn2, o7, f7⟩
  have R7 := Lib.hid (Rd.low0 (own_rd o7))
  have Fw7 := Lib.hid (Fw6.out.then f7)
  have HY7 := Lib.hid (f7.at_ HY6.out (fun x => x))
  have HV7 := Lib.hid (f7.at_ HV6.out (fun x => x))
  clear f7 o7 HYP Fw6 HY6 HV6
  go_upto_if 110 with fail
  go_cut [] (fun W => Fr NoB w7 W)
  case first =>
    by_cases hR : RightY fy ly
    rotate_left
    · as_aux_lemma =>
      have hz4 : y = 4 := by have h := HPY.out; rw [putY, if_neg hR] at h; cases h; rfl
      subst hz4
      go_wp2
      all_goals go_meet
      all_goals exact Fr.refl _ _
    · as_aux_lemma =>
      obtain ⟨hzz0, hC⟩ : y = 0 ∧ replyB fy ly = D := by have h := HPY.out; rw [putY, if_pos hR] at h; cases h; exact ⟨rfl, rfl⟩
      subst hzz0
      have hpos : 0 < D.length := by rw [← hC]; simp [replyB, bodyY]
      have hlen : D.length ≤ 170000 := by rw [← hC]; exact replyB_len hR HFY.out.ok HFY.out.oks
      have HBK := Lib.hid (fun PA pc W (h : Rd W 0 W.heap.size PA (replyB fy ly)) => y_back hR HFY.out PA pc W h (by rw [hC]; omega))
      have HCU := Lib.hid (fun PA pc q W (h : Rd W 0 W.heap.size PA (replyB fy ly)) (hq : q < (replyB fy ly).length) => y_cut hR HFY.out PA pc q W h hq (by rw [hC]; omega))
      have HMO := Lib.hid (fun PA pc W (h : Rd W 0 W.heap.size PA (replyB fy ly ++ more)) => y_more hR HFY.out more PA pc W h (by rw [List.length_append, hC]; omega))
      have HSM := Lib.hid (fun W xs (h : IsY W xs fy ly) (F : Fr NoB w7 W) => HSY.out hR W xs h (Fw7.out.then F))
      rw [hC] at HBK HCU HMO
      have hclen : ¬ (1048576 : Int) < (D.length : Int) := by omega
      clear HSY HEP HPY HPE hC HFY HFE HV7
      go_wp2_with (fail)
      refine (HBK.out PA pc w7 R7.out).mono ?_
      rintro e v5 ⟨xa, rfl, hd, f5⟩
      have A16 := Lib.hid hd.size
      have AON := Lib.hid hd.one
      have FA := (Fr.refl NoB v5).alloc (.cells xa 43)
      have F5 := Lib.hid (f5.then FA)
      have R5 := Lib.hid ((R7.out.up f5).up FA)
      have XA := Lib.hid (hd.fr FA)
      have HXA := Lib.hid (heap_alloc_new v5 (.cells xa 43))
      clear f5 hd FA
      go_wp2_with (first | (with_reducible refine held_store (ty := 43) ?_) | fail)
      unfold Held
      refine wpList_store_row rfl 43 _ _ rfl v5.heap.size xa ?_ ?_ _ _ (heap_alloc_new v5 _) (ysize_of A16.out) A16.out.symm AON.out ?_
      · rfl
      · rfl
      rw [World.setRow_alloc_new]
      generalize v5.alloc (.cells xa 43) = v6 at *
      obtain ⟨NX, hNX⟩ : ∃ NX, v5.heap.size = NX := ⟨_, rfl⟩
      rw [hNX] at HXA ⊢
      clear hNX
      go_wp2_with (fail)
      have hq0 : 0 ≤ cut % (D.length : Int) := Int.emod_nonneg _ (by omega)
      have hq1 : cut % (D.length : Int) < (D.length : Int) := Int.emod_lt_of_pos _ (by omega)
      refine (pick_calls cut D.length v6 (by omega) (by omega)).mono ?_
      rintro e v7 ⟨rfl, rfl⟩
      obtain ⟨q, hq⟩ : ∃ q : Nat, cut % (D.length : Int) = (q : Int) := ⟨(cut % (D.length : Int)).toNat, by omega⟩
      rw [hq] at hq0 hq1 ⊢
      clear hq
      have hqc : (q : Int) ≤ (pc : Int) := by omega
      go_wp2_with (fail)
      refine (HCU.out PA pc q v6 R5.out (by omega)).mono ?_
      rintro e v8 ⟨xb, rfl, hb16, hbone, f8⟩
      have B16 := Lib.hid hb16
      have BON := Lib.hid hbone
      have FA := (Fr.refl NoB v8).alloc (.cells xb 43)
      have G8 := f8.then FA
      have F8 := Lib.hid (F5.out.then G8)
      have HXA8 := Lib.hid (G8.at_ HXA.out (fun x => x))
      have R8 := Lib.hid (R5.out.up G8)
      have XA8 := Lib.hid (XA.out.fr G8)
      clear f8 F5 HXA R5 XA FA G8 hq0 hq1 hqc hb16 hbone
      go_wp2_with (first | (with_reducible refine held_store (ty := 43) ?_) | fail)
      unfold Held
      refine wpList_store_row rfl 43 _ _ rfl v8.heap.size xb ?_ ?_ _ _ (heap_alloc_new v8 _) (ysize_of B16.out) B16.out.symm BON.out ?_
      · rfl
      · rfl
      rw [World.setRow_alloc_new]
      generalize v8.alloc (.cells xb 43) = v9 at *
      go_wp2_with (fail)
      refine (copy_calls PA D pc _ _ v9 R8.out (by omega)).mono ?_
      rintro e v10 ⟨vv, rfl, o10, b10⟩
      obtain ⟨CA, cc, rfl, n1, n2⟩ := own_form o10
      have f10 : Fr NoB v9 v10 := Fr.ofBelow b10
      have O10 := Lib.hid o10
      have HSZ9 := Lib.hid f10.size
      have HF910 := Lib.hid f10
      clear b10 f10 o10
      obtain ⟨i0, hi0, hz0, hz1, hz2⟩ := info_parts info_byte
      have MR10 := Lib.hid (HMR.out.fr (Fw7.out.then (F8.out.then HF910.out)) (Nat.le_refl _) (fun _ _ _ x => x)).srcs
      go_wp2_with (at_builtin; go_loud (refine wpList_append_src _ rfl _ _ 23 rfl v9.heap.size 5 i0 (.int .u8 0) 1 1 Tryd.underlying23 hi0 hz0 hz1 hz2 rfl (by decide) (.slice CA D.length cc) D.length (bv D) rfl O10.out A2 more.length c2 (bv more) rfl (by simp) MR10.out (bv_one more) (by unfold maxLen; omega) (by omega) HSZ9.out ?_))
      intro v' v11 hA
      rw [show bv D ++ bv more = bv (D ++ more) by simp [bv]] at hA
      obtain ⟨MA, mc, rfl, n3, n4, hr11⟩ := App.rd hA
      simp only [List.length_append] at n3 ⊢
      have f11 : Fr NoB v9 v11 := HF910.out.trans hA.fr (fun k hk hx => absurd (O10.out.lt k hx).1 (by omega))
      have R11 := Lib.hid (hr11.wide (Nat.zero_le _) (Nat.le_refl _))
      have F11 := Lib.hid (F8.out.then f11)
      have HXA11 := Lib.hid (f11.at_ HXA8.out (fun x => x))
      have XA11 := Lib.hid (XA8.out.fr f11)
      clear hA hr11 f11 HF910 O10 MR10 F8 HXA8 XA8 R8 hi0 hz0 hz1 hz2 HSZ9
      go_wp2_with (fail)
      refine (HMO.out MA mc v11 R11.out).mono ?_
      rintro e v12 ⟨xc, zz, rfl, hzz, hc16, hcone, f12⟩
      have C16 := Lib.hid hc16
      have CON := Lib.hid hcone
      have HZZ := Lib.hid hzz
      have FA := (Fr.refl NoB v12).alloc (.cells xc 43)
      have G12 := f12.then FA
      have F12 := Lib.hid (F11.out.then G12)
      have HB12 := Lib.hid ((F12.out).at_ HY7.out (fun x => x))
      have HXA12 := Lib.hid (G12.at_ HXA11.out (fun x => x))
      have XA12 := Lib.hid (XA11.out.fr G12)
      clear f12 F11 HXA11 XA11 R11 FA G12 hc16 hcone hzz
      go_wp2_with (first | (with_reducible refine held_store (ty := 43) ?_) | fail)
      unfold Held
      refine wpList_store_row rfl 43 _ _ rfl v12.heap.size xc ?_ ?_ _ _ (heap_alloc_new v12 _) (ysize_of C16.out) C16.out.symm CON.out ?_
      · rfl
      · rfl
      rw [World.setRow_alloc_new]
      generalize v12.alloc (.cells xc 43) = v13 at *
      go_wp2_with (first | (with_reducible refine held_load_on (ty := 43) ?_) | fail)
      unfold Held
      refine wpList_load_on (by rfl) 43 _ rfl NX rfl _ _ _ _ HXA12.out Tryd.underlying43 rfl (ysize_of A16.out) ?_
      go_wp2_with (first | (with_reducible refine held_load_on (ty := 43) ?_) | fail)
      unfold Held
      refine wpList_load_on (by rfl) 43 _ rfl NY rfl _ _ _ _ HB12.out Tryd.underlying43 rfl (ysize_of Hcy.out) ?_
      go_wp2_with (fail)
      refine (HSM.out v13 xa XA12.out F12.out).mono ?_
      rintro e v14 ⟨rfl, f14⟩
      have F14 := Lib.hid (F12.out.then f14)
      clear f14 XA12
      have hzz := HZZ.out
      generalize hbm : ((more.length : Int) == 0) = bm at hzz
      cases bm
      · go_wp2
        all_goals go_meet
        all_goals exact F14.out
      · go_wp2
        all_goals go_meet
        all_goals exact F14.out
  case rest =>
  have Fw8 := Lib.hid (Fw7.out.then hcut)
  have HV8 := Lib.hid (hcut.at_ HV7.out (fun x => x))
  clear hcut Fw7 HY7 HV7 R7 HPY HSY HFY
  have v0 := (cells_of HV8.out 0).1
  have v1 := (cells_of HV8.out 1).1
  have v2 := (cells_of HV8.out 2).1
  have v3 := (cells_of HV8.out 3).1
  simp only [List.getElem?_toArray, List.getElem?_cons_zero, List.getElem?_cons_succ] at v0 v1 v2 v3
  go_wp2_with (fail)
  refine (HEP.out _).mono ?_
  rintro e w9 ⟨vv, rfl, o9, f9⟩
  obtain ⟨PA, pc, rfl, hn1, hn2⟩ := own_form o9
  have R9 := Lib.hid (Rd.low0 (own_rd o9))
  have Fw9 := Lib.hid (Fw8.out.then f9)
  have HV9 := Lib.hid (f9.at_ HV8.out (fun x => x))
  clear v0 v1 v2 v3 o9 f9 HEP Fw8 HV8
  by_cases hR : RightE ⟨k, so, path, z0⟩
  rotate_left
  · as_aux_lemma =>
    obtain ⟨hz4, hE⟩ : x = 4 ∧ E = [] := by have h := HPE.out; rw [putEv, if_neg hR] at h; cases h; exact ⟨rfl, rfl⟩
    subst hz4 hE
    go_wp2
    go_ret
    exact ⟨rfl, Fw9.out⟩
  as_aux_lemma =>
  obtain ⟨hx0, hE⟩ : x = 0 ∧ evB ⟨k, so, path, z0⟩ = E := by have h := HPE.out; rw [putEv, if_pos hR] at h; cases h; exact ⟨rfl, rfl⟩
  subst hx0
  have hpos : 0 < E.length := by rw [← hE]; simp [evB]
  have hlen : E.length ≤ 242 := by rw [← hE]; exact evB_len hR
  have hbk := fun PA pc W (h : Rd W 0 W.heap.size PA (evB ⟨k, so, path, z0⟩)) => e_back hR HFE.out PA pc W h (by rw [hE]; omega)
  have hcu := fun PA pc q W (h : Rd W 0 W.heap.size PA (evB ⟨k, so, path, z0⟩)) (hq : q < (evB ⟨k, so, path, z0⟩).length) => e_cut hR HFE.out PA pc q W h hq (by rw [hE]; omega)
  have hmo := fun PA pc W (h : Rd W 0 W.heap.size PA (evB ⟨k, so, path, z0⟩ ++ more)) => e_more hR HFE.out more PA pc W h (by rw [List.length_append, hE]; omega)
  rw [hE] at hbk hcu hmo
  simp only [ecells] at hbk
  have HBK := Lib.hid hbk
  have HCU := Lib.hid hcu
  have HMO := Lib.hid hmo
  clear hbk hcu hmo hE HPE HFE hR
  go_wp2_with (fail)
  refine (HBK.out PA pc w9 R9.out).mono ?_
  rintro e w10 ⟨rfl, f10⟩
  go_wp2_with (fail)
  have hb11 := heap_alloc_new w10 (.cells #[.int .u8 k, .int .u8 so, .string ⟨path.toArray⟩, .int .i64 z0] 46)
  have fa := (Fr.refl NoB w10).alloc (.cells #[.int .u8 k, .int .u8 so, .string ⟨path.toArray⟩, .int .i64 z0] 46)
  generalize w10.alloc (.cells #[.int .u8 k, .int .u8 so, .string ⟨path.toArray⟩, .int .i64 z0] 46) = w11 at hb11 fa ⊢
  generalize w10.heap.size = NX at hb11 ⊢
  have HX11 := Lib.hid hb11
  have F11 := Lib.hid (f10.then fa)
  have R11 := Lib.hid (R9.out.up (f10.then fa))
  clear f10 fa hb11
  have hq0 : 0 ≤ cut % (E.length : Int) := Int.emod_nonneg _ (by omega)
  have hq1 : cut % (E.length : Int) < (E.length : Int) := Int.emod_lt_of_pos _ (by omega)
  refine (pick_calls cut E.length w11 (by omega) (by omega)).mono ?_
  rintro e v7 ⟨rfl, rfl⟩
  obtain ⟨q, hq⟩ : ∃ q : Nat, cut % (E.length : Int) = (q : Int) := ⟨(cut % (E.length : Int)).toNat, by omega⟩
  rw [hq] at hq0 hq1 ⊢
  clear hq
  have hqc : (q : Int) ≤ (pc : Int) := by omega
  go_wp2_with (fail)
  refine (HCU.out PA pc q w11 R11.out (by omega)).mono ?_
  rintro e w12 ⟨fe2, rfl, f12⟩
  obtain ⟨k2', so2, path2, z2⟩ := fe2
  simp only [ecells]
  go_wp2_with (fail)
  have fb := f12.alloc (.cells #[.int .u8 k2', .int .u8 so2, .string ⟨path2.toArray⟩, .int .i64 z2] 46)
  generalize w12.alloc (.cells #[.int .u8 k2', .int .u8 so2, .string ⟨path2.toArray⟩, .int .i64 z2] 46) = w13 at fb ⊢
  have R13 := Lib.hid (R11.out.up fb)
  have F13 := Lib.hid (F11.out.then fb)
  have HX13 := Lib.hid (fb.at_ HX11.out (fun x => x))
  clear fb f12 R11 F11 HX11 HBK HCU hq0 hq1 hqc
  refine (copy_calls PA E pc _ _ w13 R13.out (by omega)).mono ?_
  rintro e v10 ⟨vv, rfl, o10, b10⟩
  obtain ⟨CA, cc, rfl, n1, n2⟩ := own_form o10
  have f10 : Fr NoB w13 v10 := Fr.ofBelow b10
  have O10 := Lib.hid o10
  have HSZ9 := Lib.hid f10.size
  have HF910 := Lib.hid f10
  clear b10 f10 o10
  obtain ⟨i0, hi0, hz0, hz1, hz2⟩ := info_parts info_byte
  have MR10 := Lib.hid (HMR.out.fr (Fw9.out.then (F13.out.then HF910.out)) (Nat.le_refl _) (fun _ _ _ x => x)).srcs
  go_wp2_with (at_builtin; go_loud (refine wpList_append_src _ rfl _ _ 23 rfl w13.heap.size 5 i0 (.int .u8 0) 1 1 Tryd.underlying23 hi0 hz0 hz1 hz2 rfl (by decide) (.slice CA E.length cc) E.length (bv E) rfl O10.out A2 more.length c2 (bv more) rfl (by simp) MR10.out (bv_one more) (by unfold maxLen; omega) (by omega) HSZ9.out ?_))
  intro v' v11 hA
  rw [show bv E ++ bv more = bv (E ++ more) by simp [bv]] at hA
  obtain ⟨MA, mc, rfl, n3, n4, hr11⟩ := App.rd hA
  simp only [List.length_append] at n3 ⊢
  have f11 : Fr NoB w13 v11 := HF910.out.trans hA.fr (fun k hk hx => absurd (O10.out.lt k hx).1 (by omega))
  have R11 := Lib.hid (hr11.wide (Nat.zero_le _) (Nat.le_refl _))
  have F11 := Lib.hid (F13.out.then f11)
  have HX14 := Lib.hid (f11.at_ HX13.out (fun x => x))
  clear hA hr11 f11 HF910 O10 MR10 F13 HX13 hi0 hz0 hz1 hz2
  go_wp2_with (fail)
  refine (HMO.out MA mc v11 R11.out).mono ?_
  rintro e v12 ⟨fe3, zz, rfl, hzz, f12⟩
  obtain ⟨k3, so3, path3, z3⟩ := fe3
  simp only [ecells]
  go_wp2_with (first | (with_reducible refine held_load_on (ty := 46) ?_) | fail)
  have fb := f12.alloc (.cells #[.int .u8 k3, .int .u8 so3, .string ⟨path3.toArray⟩, .int .i64 z3] 46)
  generalize v12.alloc (.cells #[.int .u8 k3, .int .u8 so3, .string ⟨path3.toArray⟩, .int .i64 z3] 46) = v13 at fb ⊢
  have F14 := Lib.hid (F11.out.then fb)
  have HX15 := fb.at_ HX14.out (fun x => x)
  have HV15 := F14.out.at_ HV9.out (fun x => x)
  have HZZ := Lib.hid hzz
  clear fb f12 R11 F11 HMO hzz
  have he := ev_eql k so z0 ⟨path.toArray⟩ v13
  unfold Held
  refine wpList_load_on (by rfl) 46 _ rfl NX rfl _ _ _ _ HX15 Tryd.underlying46 rfl (by kernel_rfl) ?_
  go_wp2_with (first | (with_reducible refine held_load_on (ty := 46) ?_) | fail)
  unfold Held
  refine wpList_load_on (by rfl) 46 _ rfl NV rfl _ _ _ _ HV15 Tryd.underlying46 rfl (by kernel_rfl) ?_
  have hzz := HZZ.out
  generalize hbm : ((more.length : Int) == 0) = bm at hzz
  cases bm
  · go_wp2
    go_ret
    exact ⟨rfl, Fw9.out.then F14.out⟩
  · go_wp2
    go_ret
    exact ⟨rfl, Fw9.out.then F14.out⟩
end Go.Proofs.YtlckgkpgllhpbaaDoor
