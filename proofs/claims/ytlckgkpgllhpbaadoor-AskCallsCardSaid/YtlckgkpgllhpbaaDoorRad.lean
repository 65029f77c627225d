/-
  Rad: the document's PutAsk.
-/
import Derived.Test.YtlckgkpgllhpbaaDoorRac
import Derived.Test.YtlckgkpgllhpbaaDoorRar
import Derived.Test.YtlckgkpgllhpbaaDoorApk
namespace Go.Proofs.YtlckgkpgllhpbaaDoor
open Go.RowKit

theorem rabody_right (f : Fa) (p : Pl) (l : List (Fa × Nat)) (pw : Nat) (G : Option Nat) (L : List UInt8) (lo hi : Nat) (w : World) (hR : RightA f l) (hf : f.Ok) (hm : f.OkMs) (hok : ∀ q ∈ l, q.1.Ok) (hw : RWt w pw G L) (hlim : L.length ≤ 100000) (hD : RdA w lo hi f p l) (hh : hi ≤ w.heap.size) (hpn : ∀ k, lo ≤ k → k < hi → ¬ WF pw G k) :
    Calls Tryd.prog 34 #[.pointer (some ⟨pw, 0, none⟩), aval f p l.length] w fun e w' => e = .returned (.tuple #[]) ∧ RPut pw G (L ++ tailA f l) w w' := by
  obtain ⟨⟨hk, hz, hl1, hl2, hl3⟩, h6, -, -, -, h16, hps, -⟩ := hR
  have h7 : f.ms.length ≤ 7 := hl3.2.2.2.2.2.1
  have hpl : f.path.length ≤ 1000 ∧ f.data.length ≤ 1000 := ⟨by omega, by omega⟩
  have hL1 : L.length ≤ 1000000 := by omega
  have key : ∀ T, tailA f l = T → (Calls Tryd.prog 34 #[.pointer (some ⟨pw, 0, none⟩), aval f p l.length] w fun e w' => e = .returned (.tuple #[]) ∧ RPut pw G (L ++ T) w w') → Calls Tryd.prog 34 #[.pointer (some ⟨pw, 0, none⟩), aval f p l.length] w fun e w' => e = .returned (.tuple #[]) ∧ RPut pw G (L ++ tailA f l) w w' := fun T h hc => by rw [h]; exact hc
  have hno : f.k ≠ 11 → tailA f l = bodyA f := fun h => by unfold tailA; rw [if_neg h, List.append_nil]
  rcases (show f.k = 1 ∨ f.k = 2 ∨ f.k = 3 ∨ f.k = 4 ∨ f.k = 5 ∨ f.k = 7 ∨ f.k = 8 ∨ f.k = 9 ∨ f.k = 10 ∨ f.k = 11 ∨ f.k = 12 ∨ f.k = 13 ∨ f.k = 14 by omega) with h | h | h | h | h | h | h | h | h | h | h | h | h
  · exact key _ (hno (by omega)) (rabody1_calls f p l.length pw G L lo hi w hf hw hpl hL1 hD.data hh hpn h)
  · exact key _ (hno (by omega)) (rabody2_calls f p l.length pw G L lo hi w hf hw hpl hL1 hD.data hh hpn h)
  · exact key _ (hno (by omega)) (rabody3_calls f p l.length pw G L lo hi w hf hw hpl hL1 hD.data hh hpn h)
  · exact key _ (hno (by omega)) (rabody4_calls f p l.length pw G L lo hi w hf hw hpl hL1 hD.data hh hpn h)
  · exact key _ (hno (by omega)) (rabody5_calls f p l.length pw G L lo hi w hf hw hpl hL1 hD.data hh hpn h)
  · exact key _ (hno (by omega)) (rabody7_calls f p l.length pw G L lo hi w hf hw hpl hL1 hD.data hh hpn h)
  · exact key _ (hno (by omega)) (rabody8_calls f p l.length pw G L lo hi w hf hw hpl hL1 hD.data hh hpn h)
  · exact key _ (hno (by omega)) (rabody9_calls f p l.length pw G L lo hi w hf hw hpl hL1 hD.data hh hpn h)
  · exact key _ (hno (by omega)) (rabody10_calls f p l.length pw G L lo hi w hf hw hpl hL1 hD.data hh hpn h)
  · exact key _ (by unfold tailA; rw [if_pos h, show bodyA f = [] by simp [bodyA, h], List.nil_append]) (rabody11_calls f p l pw G L lo hi w hok hw hlim hD.parts h16 hps hh hpn h)
  · exact key _ (hno (by omega)) (rabody12_calls f p l.length pw G L lo hi w hf hm hw hlim hD.ms h7 hh hpn h)
  · exact key _ (hno (by omega)) (rabody13_calls f p l.length pw G L lo hi w hf hw hpl hL1 hD.data hh hpn h)
  · exact key _ (hno (by omega)) (rabody14_calls f p l.length pw G L lo hi w hf hw hpl hL1 hD.data hh hpn h)

set_option maxRecDepth 8000 in
set_option maxHeartbeats 6400000 in
theorem raput_yes (f : Fa) (p : Pl) (l : List (Fa × Nat)) (lo hi : Nat) (w : World) (hf : f.Ok) (hm : f.OkMs) (hok : ∀ q ∈ l, q.1.Ok) (hD : RdA w lo hi f p l) (hh : hi ≤ w.heap.size) (hR : RightA f l) :
    Calls Tryd.prog 10 #[aval f p l.length] w fun e w' => ∃ v, e = .returned (.tuple #[v, .int .i64 0]) ∧ w'.ownsRow w.heap.size 5 1 v (askB f l).length (bv (askB f l)) ∧ Fr NoB w w' := by
  have hcr := fun W (F : Fr NoB w W) => rright_calls f p l lo hi W (hD.parts.fr F hh (fun _ _ _ x => x)) (Nat.le_trans hh F.size)
  rw [decide_eq_true hR] at hcr
  have hcb := fun pw G L W (F : Fr NoB w W) (hw : RWt W pw G L) (hi2 : ∀ k, WF pw G k → w.heap.size ≤ k) (hlim : L.length ≤ 100000) => rabody_right f p l pw G L lo hi W hR hf hm hok hw hlim (hD.fr F hh (fun _ _ _ x => x)) (Nat.le_trans hh F.size) (fun k _ h2 h3 => by have := hi2 k h3; omega)
  have hlen := askB_len hR
  have hZ : [kindB f.k] ++ intB f.x ++ intB f.s ++ intB f.t ++ tailA f l = askB f l := by unfold askB tailA headA; simp
  obtain ⟨Z, hZZ⟩ : ∃ Z, askB f l = Z := ⟨_, rfl⟩
  rw [hZZ] at hlen hZ ⊢
  have HLEN := Lib.hid hlen
  have HZZ := Lib.hid hZ
  have HKR := Lib.hid hf.k
  have HXR := Lib.hid (And.intro hf.x (And.intro hf.s hf.t))
  have HCB := Lib.hid hcb
  have HCR := Lib.hid hcr
  generalize tailA f l = TB at *
  clear hZZ hlen hZ hD hok hR hcr hcb hf hm
  obtain ⟨k, x, s, t, path, data, fl, ve, wa, so, la, ti, fr, ms⟩ := f
  obtain ⟨A, c, B, d, P, e'⟩ := p
  simp only at *
  simp only [aval, acells] at *
  go_enter Tryd.func10, Tryd.ntmps10
  go_wp2_with (fail)
  have F0 := Lib.hid ((Fr.refl NoB w).alloc (.cells #[.int .u8 k, .int .i64 x, .int .i64 s, .int .i64 t, .string ⟨path.toArray⟩, .slice A data.length c, .int .i64 fl, .int .i64 ve, .bool wa, .int .u8 so, .int .i64 la, .int .i64 ti, .int .i64 fr, .slice B ms.length d, .slice P l.length e'] 29))
  have HBX := Lib.hid (heap_alloc_new w (.cells #[.int .u8 k, .int .i64 x, .int .i64 s, .int .i64 t, .string ⟨path.toArray⟩, .slice A data.length c, .int .i64 fl, .int .i64 ve, .bool wa, .int .u8 so, .int .i64 la, .int .i64 ti, .int .i64 fr, .slice B ms.length d, .slice P l.length e'] 29))
  generalize w.alloc (.cells #[.int .u8 k, .int .i64 x, .int .i64 s, .int .i64 t, .string ⟨path.toArray⟩, .slice A data.length c, .int .i64 fl, .int .i64 ve, .bool wa, .int .u8 so, .int .i64 la, .int .i64 ti, .int .i64 fr, .slice B ms.length d, .slice P l.length e'] 29) = wb at F0 HBX ⊢
  have HSZ := Lib.hid F0.out.size
  generalize w.heap.size = NB at *
  refine (HCR.out _ F0.out).mono ?_
  rintro e w1 ⟨rfl, f1⟩
  have F1 := Lib.hid f1
  clear f1 HCR
  go_wp2_with (fail)
  refine (rwNew _).mono ?_
  rintro e w2 ⟨rfl, a2, f2, -⟩
  have T2 := Lib.hid (show WRx wb w2 w1.heap.size [] none from ⟨a2, F1.out.then f2, fun k hk => by
    rcases hk with rfl | hk
    · exact F1.out.size
    · cases hk⟩)
  have HB2 := Lib.hid (T2.out.fr.at_ HBX.out (fun x => x))
  have d1 := (cells_of HB2.out 0).1
  simp only [List.getElem?_toArray, List.getElem?_cons_zero] at d1
  generalize w1.heap.size = pw at *
  clear a2 f2 F1
  go_wp2_with (fail)
  refine (rwByteI pw none [] k _ HKR.out T2.out.a (by simp)).mono ?_
  rintro e w3 ⟨rfl, G3, a3, f3, g3⟩
  rw [List.nil_append] at a3
  have T3 := Lib.hid (T2.out.next a3 f3 g3)
  clear a3 f3 g3 d1 HB2 T2
  have HB3 := Lib.hid (T3.out.fr.at_ HBX.out (fun x => x))
  have d1 := (cells_of HB3.out 1).1
  simp only [List.getElem?_toArray, List.getElem?_cons_zero, List.getElem?_cons_succ] at d1
  go_wp2_with (fail)
  refine (rwInt pw G3 ([kindB k]) x _ HXR.out.1.1 HXR.out.1.2 T3.out.a (by simp only [List.length_cons, List.length_nil]; omega)).mono ?_
  rintro e w4 ⟨rfl, G4, a4, f4, g4⟩
  have T4 := Lib.hid (T3.out.next a4 f4 g4)
  clear a4 f4 g4 d1 HB3 T3
  have HB4 := Lib.hid (T4.out.fr.at_ HBX.out (fun x => x))
  have d1 := (cells_of HB4.out 2).1
  simp only [List.getElem?_toArray, List.getElem?_cons_zero, List.getElem?_cons_succ] at d1
  go_wp2_with (fail)
  refine (rwInt pw G4 ([kindB k] ++ intB x) s _ HXR.out.2.1.1 HXR.out.2.1.2 T4.out.a (by have := intB_len x; simp only [List.length_append, List.length_cons, List.length_nil]; omega)).mono ?_
  rintro e w5 ⟨rfl, G5, a5, f5, g5⟩
  have T5 := Lib.hid (T4.out.next a5 f5 g5)
  clear a5 f5 g5 d1 HB4 T4
  have HB5 := Lib.hid (T5.out.fr.at_ HBX.out (fun x => x))
  have d1 := (cells_of HB5.out 3).1
  simp only [List.getElem?_toArray, List.getElem?_cons_zero, List.getElem?_cons_succ] at d1
  go_wp2_with (fail)
  refine (rwInt pw G5 ([kindB k] ++ intB x ++ intB s) t _ HXR.out.2.2.1 HXR.out.2.2.2 T5.out.a (by have := intB_len x; have := intB_len s; simp only [List.length_append, List.length_cons, List.length_nil]; omega)).mono ?_
  rintro e w6 ⟨rfl, G6, a6, f6, g6⟩
  have T6 := Lib.hid (T5.out.next a6 f6 g6)
  clear a6 f6 g6 d1 HB5 T5
  have HB5 := Lib.hid (T6.out.fr.at_ HBX.out (fun x => x))
  have HL5 : Hid (([kindB k] ++ intB x ++ intB s ++ intB t).length ≤ 100000) := by show _ ≤ _; have := intB_len x; have := intB_len s; have := intB_len t; simp only [List.length_append, List.length_cons, List.length_nil]; omega
  generalize [kindB k] ++ intB x ++ intB s ++ intB t = LH at *
  go_wp2_with (first | (refine wpList_load_row rfl 29 _ rfl NB rfl _ _ _ _ HB5.out Tryd.underlying29 rfl asize15 ?_) | fail)
  refine (HCB.out pw G6 LH _ (F0.out.then T6.out.fr) T6.out.a (fun k hk => Nat.le_trans HSZ.out (T6.out.i k hk)) HL5.out).mono ?_
  rintro e w7 ⟨rfl, G7, a7, f7, g7⟩
  have T7 := Lib.hid (T6.out.next a7 f7 g7)
  rw [HZZ.out] at T7
  clear a7 f7 g7 T6 HB5 HCB
  go_wp2_with (fail)
  refine (rwDone pw G7 _ _ T7.out.a (by have := HLEN.out; omega)).mono ?_
  rintro e w8 ⟨v8, rfl, o8, b8⟩
  obtain ⟨A8, c8, rfl, n1, n2⟩ := own_form o8
  go_wp2
  go_ret2
  exact ⟨.slice A8 Z.length c8, rfl, own_low o8 (Nat.le_trans F0.out.size T7.out.fr.size), (F0.out.then T7.out.fr).then (Fr.ofBelow b8)⟩
set_option maxRecDepth 8000 in
set_option maxHeartbeats 3200000 in
theorem raput_calls (f : Fa) (p : Pl) (l : List (Fa × Nat)) (lo hi : Nat) (w : World) (hf : f.Ok) (hm : f.OkMs) (hok : ∀ q ∈ l, q.1.Ok) (hD : RdA w lo hi f p l) (hh : hi ≤ w.heap.size) :
    Calls Tryd.prog 10 #[aval f p l.length] w fun e w' => ∃ v, e = .returned (.tuple #[v, .int .i64 (putA f l).2]) ∧ w'.ownsRow w.heap.size 5 1 v (putA f l).1.length (bv (putA f l).1) ∧ Fr NoB w w' := by
  by_cases hR : RightA f l
  · rw [show putA f l = (askB f l, 0) from if_pos hR]
    exact raput_yes f p l lo hi w hf hm hok hD hh hR
  · rw [show putA f l = ([], 4) from if_neg hR]
    have hcr := fun W (F : Fr NoB w W) => rright_calls f p l lo hi W (hD.parts.fr F hh (fun _ _ _ x => x)) (Nat.le_trans hh F.size)
    rw [decide_eq_false hR] at hcr
    have HCR := Lib.hid hcr
    clear hcr hD hok hR hf hm
    obtain ⟨k, x, s, t, path, data, fl, ve, wa, so, la, ti, fr, ms⟩ := f
    obtain ⟨A, c, B, d, P, e'⟩ := p
    simp only [aval, acells] at *
    go_enter Tryd.func10, Tryd.ntmps10
    go_wp2_with (fail)
    refine (HCR.out _ ((Fr.refl NoB w).alloc _)).mono ?_
    rintro e w1 ⟨rfl, f1⟩
    go_wp2
    go_ret2
    exact ⟨.slice none 0 0, rfl, World.ownsRow_nil _ _ _ _, ((Fr.refl NoB w).alloc _).then f1⟩
end Go.Proofs.YtlckgkpgllhpbaaDoor
