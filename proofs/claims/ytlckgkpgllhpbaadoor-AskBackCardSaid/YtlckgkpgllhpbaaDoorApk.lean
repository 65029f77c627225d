/-
  Apk: Ari, Apk.
-/
import Derived.Test.YtlckgkpgllhpbaaDoorAfu
import Derived.Test.YtlckgkpgllhpbaaDoorAbe
import Derived.Test.YtlckgkpgllhpbaaDoorEne
/- Ari -/
namespace Go.Proofs.YtlckgkpgllhpbaaDoor
open Go.RowKit

/-- What is asked ahead of the parts. -/
def HeadA (f : Fa) (np : Nat) : Prop := FitsA f np ∧ f.k ≠ 6 ∧ 0 ≤ f.x ∧ 0 ≤ f.s ∧ 0 ≤ f.t ∧ np ≤ 16
instance (f : Fa) (np : Nat) : Decidable (HeadA f np) := by unfold HeadA; infer_instance
set_option maxHeartbeats 3200000 in
set_option maxRecDepth 8000 in
theorem aright_no (f : Fa) (p : Pl) (np : Nat) (w : World) (hno : ¬ HeadA f np) :
    Calls Tryd.prog 11 #[aval f p np] w fun e w' => e = .returned (.bool false) ∧ Fr NoB w w' := by
  have hcf := fun W => afits_calls f p np W
  by_cases hfit : FitsA f np
  rotate_left
  · rw [decide_eq_false hfit] at hcf
    have HCF := Lib.hid hcf
    clear hno hfit hcf
    obtain ⟨k, x, s, t, path, data, fl, ve, wa, so, la, ti, fr, ms⟩ := f
    obtain ⟨A, c, B, d, P, e'⟩ := p
    simp only [aval, acells] at *
    go_enter Tryd.func11, Tryd.ntmps11
    go_wp2_with (first | ((with_reducible refine (HCF.out _).mono ?_); rintro e w1 ⟨rfl, f1⟩) | fail)
    go_ret
    exact ⟨rfl, ((Fr.refl NoB w).alloc _).then f1⟩
  · rw [decide_eq_true hfit] at hcf
    have HCF := Lib.hid hcf
    have HNO := Lib.hid (fun h1 h2 h3 h4 h5 => hno ⟨hfit, h1, h2, h3, h4, h5⟩)
    clear hno hfit hcf
    obtain ⟨k, x, s, t, path, data, fl, ve, wa, so, la, ti, fr, ms⟩ := f
    obtain ⟨A, c, B, d, P, e'⟩ := p
    simp only [aval, acells] at *
    have hone : k = 6 ∨ (k ≠ 6 ∧ x < 0) ∨ (k ≠ 6 ∧ 0 ≤ x ∧ s < 0) ∨ (k ≠ 6 ∧ 0 ≤ x ∧ 0 ≤ s ∧ t < 0) ∨ (k ≠ 6 ∧ 0 ≤ x ∧ 0 ≤ s ∧ 0 ≤ t ∧ 16 < np) := by
      by_cases h1 : k = 6
      · exact .inl h1
      by_cases h2 : 0 ≤ x
      · by_cases h3 : 0 ≤ s
        · by_cases h4 : 0 ≤ t
          · by_cases h5 : np ≤ 16
            · exact (HNO.out h1 h2 h3 h4 h5).elim
            · exact .inr (.inr (.inr (.inr ⟨h1, h2, h3, h4, by omega⟩)))
          · exact .inr (.inr (.inr (.inl ⟨h1, h2, h3, by omega⟩)))
        · exact .inr (.inr (.inl ⟨h1, h2, by omega⟩))
      · exact .inr (.inl ⟨h1, by omega⟩)
    clear HNO
    rcases hone with rfl | ⟨h1, h2⟩ | ⟨h1, h2, h3⟩ | ⟨h1, h2, h3, h4⟩ | ⟨h1, h2, h3, h4, h5⟩
    all_goals
      (try have hb : (k == 6) = false := by rw [beq_eq_false_iff_ne]; exact h1)
      (try have hx : ¬ x < 0 := Int.not_lt.2 h2)
      (try have hs : ¬ s < 0 := Int.not_lt.2 h3)
      (try have ht : ¬ t < 0 := Int.not_lt.2 h4)
      (try have hn : (16 : Int) < (np : Int) := by omega)
      go_enter Tryd.func11, Tryd.ntmps11
      go_wp2_with (first | ((with_reducible refine (HCF.out _).mono ?_); rintro e w1 ⟨rfl, f1⟩; have hb := f1.at_ (heap_alloc_new w _) (fun x => x); have d0 := (cells_of hb 0).1; have d1 := (cells_of hb 1).1; have d2 := (cells_of hb 2).1; have d3 := (cells_of hb 3).1; have d14 := (cells_of hb 14).1; clear hb; simp only [List.getElem?_toArray, List.getElem?_cons_zero, List.getElem?_cons_succ] at d0 d1 d2 d3 d14) | fail)
      go_ret
      exact ⟨rfl, ((Fr.refl NoB w).alloc _).then f1⟩
theorem apart_iff (f : Fa) (np : Nat) : PartA (f, np) ↔ FitsA f np ∧ 3 ≤ f.k ∧ f.k ≤ 6 ∧ f.x = 0 ∧ f.s = 0 ∧ f.t = 0 := ⟨fun h => ⟨h.1, h.2.1.1, h.2.1.2, h.2.2⟩, fun h => ⟨h.1, ⟨h.2.1, h.2.2.1⟩, h.2.2.2⟩⟩
set_option maxHeartbeats 6400000 in
set_option maxRecDepth 8000 in
theorem aright_yes (f : Fa) (p : Pl) (l : List (Fa × Nat)) (lo hi : Nat) (w : World) (hP : RdPa w lo hi p.P l) (hh : hi ≤ w.heap.size) (hy : HeadA f l.length) :
    Calls Tryd.prog 11 #[aval f p l.length] w fun e w' => e = .returned (.bool (decide (RightA f l))) ∧ Fr NoB w w' := by
  have hcf := fun W => afits_calls f p l.length W
  rw [decide_eq_true hy.1] at hcf
  obtain ⟨R, hR⟩ : ∃ R, decide (RightA f l) = R := ⟨_, rfl⟩
  rw [hR]
  have HN : Hid ((∃ q ∈ l, ¬ PartA q) → R = false) := fun ⟨q, hq, h⟩ => by rw [← hR]; exact decide_eq_false fun hr => h (hr.2.2.2.2.2.2.1 q hq)
  have HY : Hid ((∀ q ∈ l, PartA q) → R = decide (f.k = 11 → 1 ≤ l.length)) := fun h => by
    rw [← hR]
    exact decide_eq_decide.2 ⟨fun hr => hr.2.2.2.2.2.2.2, fun h2 => ⟨hy.1, hy.2.1, hy.2.2.1, hy.2.2.2.1, hy.2.2.2.2.1, hy.2.2.2.2.2, h, h2⟩⟩
  obtain ⟨-, h6, h0x, h0s, h0t, hn16⟩ := hy
  have HCF := Lib.hid hcf
  have HR := Lib.hid hP
  clear hcf hR hP
  obtain ⟨k, x, s, t, path, data, fl, ve, wa, so, la, ti, fr, ms⟩ := f
  obtain ⟨A, c, B, d, P, e'⟩ := p
  simp only at HY HR h6 h0x h0s h0t
  have hb6 : (k == 6) = false := by rw [beq_eq_false_iff_ne]; exact h6
  have hx : ¬ x < 0 := Int.not_lt.2 h0x
  have hs : ¬ s < 0 := Int.not_lt.2 h0s
  have ht : ¬ t < 0 := Int.not_lt.2 h0t
  have hn : ¬ (16 : Int) < (l.length : Int) := by omega
  simp only [aval, acells] at *
  go_enter Tryd.func11, Tryd.ntmps11
  go_wp2_with (fail)
  refine (HCF.out _).mono ?_
  rintro e w1 ⟨rfl, f1⟩
  have HB := Lib.hid (f1.at_ (heap_alloc_new w (.cells #[.int .u8 k, .int .i64 x, .int .i64 s, .int .i64 t, .string ⟨path.toArray⟩, .slice A data.length c, .int .i64 fl, .int .i64 ve, .bool wa, .int .u8 so, .int .i64 la, .int .i64 ti, .int .i64 fr, .slice B ms.length d, .slice P l.length e'] 29)) (fun x => x))
  have F0 := Lib.hid (((Fr.refl NoB w).alloc (.cells #[.int .u8 k, .int .i64 x, .int .i64 s, .int .i64 t, .string ⟨path.toArray⟩, .slice A data.length c, .int .i64 fl, .int .i64 ve, .bool wa, .int .u8 so, .int .i64 la, .int .i64 ti, .int .i64 fr, .slice B ms.length d, .slice P l.length e'] 29)).then f1)
  clear f1 HCF
  generalize w.heap.size = NB at HB ⊢
  have d0 := (cells_of HB.out 0).1
  have d1 := (cells_of HB.out 1).1
  have d2 := (cells_of HB.out 2).1
  have d3 := (cells_of HB.out 3).1
  have d14 := (cells_of HB.out 14).1
  simp only [List.getElem?_toArray, List.getElem?_cons_zero, List.getElem?_cons_succ] at d0 d1 d2 d3 d14
  go_wp2
  clear d0 d1 d2 d3 d14 hb6 hx hs ht
  go_loopw [37] (fun i W => ∃ j : Nat, j ≤ l.length ∧ i = .int .i64 (j : Int) ∧ (∀ q ∈ l.take j, PartA q) ∧ Fr NoB w1 W) (fun i _ => l.length - (intOf i).toNat)
  case atStart => exact ⟨0, Nat.zero_le _, rfl, by simp, Fr.refl _ _⟩
  case round =>
    obtain ⟨j, hj, rfl, hsofar, hf⟩ := hrel
    have F := Lib.hid (F0.out.then hf)
    have F1 := Lib.hid hf
    have HS := Lib.hid hsofar
    clear hf hsofar
    by_cases hlt : j < l.length
    · have hki : (j : Int) < (l.length : Int) := by omega
      have hk0 : (0 : Int) ≤ (j : Int) := by omega
      obtain ⟨b, o, rfl, hb1, hb2, h4⟩ := HR.out (by omega)
      obtain ⟨pl, hcs, -, -⟩ := h4 j l[j] (List.getElem?_eq_getElem hlt)
      have HQ : l[j]? = some l[j] := List.getElem?_eq_getElem hlt
      clear h4
      generalize l[j] = q at hcs HQ
      obtain ⟨f1, np⟩ := q
      have hcf := fun W => afits_calls f1 pl np W
      have HC : ∀ i v, (acells f1 pl np)[i]? = some v → wr.cell? ⟨b, o + j * 15 + i, none⟩ = some v := fun i v hv => (F.out.cell (p := ⟨b, o + j * 15 + i, none⟩) (by simp only; omega) (fun x => x)).trans (hcs i v hv)
      have hL := Lib.hid (apart_range HC)
      have HNO : Hid (¬ PartA (f1, np) → R = false) := fun h => HN.out ⟨_, List.mem_iff_getElem?.2 ⟨j, HQ⟩, h⟩
      have HYS : Hid (PartA (f1, np) → ∀ q ∈ l.take (j + 1), PartA q) := fun h q hq => by
        rw [List.take_add_one, HQ] at hq
        rcases List.mem_append.1 hq with hq | hq
        · exact HS.out q hq
        · simp at hq
          rw [hq]
          exact h
      clear HC hcs HQ
      have HPI := Lib.hid (apart_iff f1 np)
      by_cases hfit : FitsA f1 np
      rotate_left
      · rw [decide_eq_false hfit] at hcf
        have hRf : R = false := HNO.out fun h => hfit h.1
        subst hRf
        have HCF := Lib.hid hcf
        clear hcf hfit HNO HYS HN HY HS HPI
        obtain ⟨kk, x1, s1, t1, path1, data1, fl1, ve1, wa1, so1, la1, ti1, fr1, ms1⟩ := f1
        obtain ⟨A1, ca, B1, cb, P1, cp⟩ := pl
        simp only [aval, acells] at HCF
        go_wp2_with (first | (refine wpList_load_mid rfl 29 _ rfl b (o + j * 15) rfl _ _ hL.out Tryd.underlying29 rfl (size_ask _ _ _) ?_; simp only [acells]) | (refine wpList_store_row rfl 29 _ _ rfl wr.heap.size _ rfl rfl _ _ (heap_alloc_last wr _) asize15 rfl (by simp [Value.oneCell']) ?_; rw [World.setRow_alloc_new]) | ((with_reducible refine (HCF.out _).mono ?_); rintro e w2 ⟨rfl, f2⟩))
        go_ret
        exact ⟨rfl, (F.out.alloc _).then f2⟩
      rw [decide_eq_true hfit] at hcf
      have HCF := Lib.hid hcf
      have HFIT := Lib.hid hfit
      clear hcf hfit
      obtain ⟨kk, x1, s1, t1, path1, data1, fl1, ve1, wa1, so1, la1, ti1, fr1, ms1⟩ := f1
      obtain ⟨A1, ca, B1, cb, P1, cp⟩ := pl
      simp only [aval, acells] at HCF
      simp only at HPI
      by_cases hpa : 3 ≤ kk ∧ kk ≤ 6 ∧ x1 = 0 ∧ s1 = 0 ∧ t1 = 0
      · obtain ⟨g1, g2, rfl, rfl, rfl⟩ := hpa
        have hk3 : ¬ kk < 3 := Int.not_lt.2 g1
        have hk6 : ¬ 6 < kk := Int.not_lt.2 g2
        go_wp2_with (first | (refine wpList_load_mid rfl 29 _ rfl b (o + j * 15) rfl _ _ hL.out Tryd.underlying29 rfl (size_ask _ _ _) ?_; simp only [acells]) | (refine wpList_store_row rfl 29 _ _ rfl wr.heap.size _ rfl rfl _ _ (heap_alloc_last wr _) asize15 rfl (by simp [Value.oneCell']) ?_; rw [World.setRow_alloc_new]) | ((with_reducible refine (HCF.out _).mono ?_); rintro e w2 ⟨rfl, f2⟩; have hb := f2.at_ (heap_alloc_new wr _) (fun x => x); have c0 := (cells_of hb 0).1; have c1 := (cells_of hb 1).1; have c2 := (cells_of hb 2).1; have c3 := (cells_of hb 3).1; clear hb; simp only [List.getElem?_toArray, List.getElem?_cons_zero, List.getElem?_cons_succ] at c0 c1 c2 c3))
        go_roundw
        case rel => exact ⟨j + 1, by omega, by go_num, HYS.out (HPI.out.2 ⟨HFIT.out, g1, g2, by first | rfl | trivial, by first | rfl | trivial, by first | rfl | trivial⟩), (F1.out.alloc _).then f2⟩
        case measure => simp [intOf]; omega
      · have hRf : R = false := HNO.out fun h => hpa ((HPI.out.1 h).2)
        subst hRf
        have hone : kk < 3 ∨ (¬ kk < 3 ∧ 6 < kk) ∨ (¬ kk < 3 ∧ ¬ 6 < kk ∧ x1 ≠ 0) ∨ (¬ kk < 3 ∧ ¬ 6 < kk ∧ x1 = 0 ∧ s1 ≠ 0) ∨ (¬ kk < 3 ∧ ¬ 6 < kk ∧ x1 = 0 ∧ s1 = 0 ∧ t1 ≠ 0) := by omega
        clear HNO HYS HN HY HS HPI HFIT hpa
        rcases hone with h1 | ⟨h1, h2⟩ | ⟨h1, h2, h3⟩ | ⟨h1, h2, rfl, h4⟩ | ⟨h1, h2, rfl, rfl, h5⟩
        all_goals
          (try have q3 : (x1 != 0) = true := by rw [bne_iff_ne]; exact h3)
          (try have q4 : (s1 != 0) = true := by rw [bne_iff_ne]; exact h4)
          (try have q5 : (t1 != 0) = true := by rw [bne_iff_ne]; exact h5)
          go_wp2_with (first | (refine wpList_load_mid rfl 29 _ rfl b (o + j * 15) rfl _ _ hL.out Tryd.underlying29 rfl (size_ask _ _ _) ?_; simp only [acells]) | (refine wpList_store_row rfl 29 _ _ rfl wr.heap.size _ rfl rfl _ _ (heap_alloc_last wr _) asize15 rfl (by simp [Value.oneCell']) ?_; rw [World.setRow_alloc_new]) | ((with_reducible refine (HCF.out _).mono ?_); rintro e w2 ⟨rfl, f2⟩; have hb := f2.at_ (heap_alloc_new wr _) (fun x => x); have c0 := (cells_of hb 0).1; have c1 := (cells_of hb 1).1; have c2 := (cells_of hb 2).1; have c3 := (cells_of hb 3).1; clear hb; simp only [List.getElem?_toArray, List.getElem?_cons_zero, List.getElem?_cons_succ] at c0 c1 c2 c3))
          go_ret
          exact ⟨rfl, (F.out.alloc _).then f2⟩
    · obtain rfl : j = l.length := by omega
      have hR := HY.out (by have := HS.out; rwa [List.take_length] at this)
      have e0 := (cells_of (F1.out.at_ HB.out (fun x => x)) 0).1
      have e14 := (cells_of (F1.out.at_ HB.out (fun x => x)) 14).1
      simp only [List.getElem?_toArray, List.getElem?_cons_zero, List.getElem?_cons_succ] at e0 e14
      by_cases hk11 : k = 11
      · subst hk11
        by_cases hl0 : 0 < l.length
        · have hRt : R = true := by rw [hR]; exact decide_eq_true fun _ => hl0
          subst hRt
          clear hR
          go_wp2
          go_ret
          exact ⟨rfl, F.out⟩
        · have hRt : R = false := by rw [hR]; exact decide_eq_false fun h => hl0 (h rfl)
          subst hRt
          clear hR
          go_wp2
          go_ret
          exact ⟨rfl, F.out⟩
      · have hRt : R = true := by rw [hR]; exact decide_eq_true fun h => (hk11 h).elim
        subst hRt
        have hk11b : (k != 11) = true := by rw [bne_iff_ne]; exact hk11
        clear hR
        go_wp2
        go_ret
        exact ⟨rfl, F.out⟩
/-- Right of any call. -/
theorem aright_calls (f : Fa) (p : Pl) (l : List (Fa × Nat)) (lo hi : Nat) (w : World) (hP : RdPa w lo hi p.P l) (hh : hi ≤ w.heap.size) :
    Calls Tryd.prog 11 #[aval f p l.length] w fun e w' => e = .returned (.bool (decide (RightA f l))) ∧ Fr NoB w w' := by
  by_cases hy : HeadA f l.length
  · exact aright_yes f p l lo hi w hP hh hy
  · rw [decide_eq_false (fun h => hy ⟨h.1, h.2.1, h.2.2.1, h.2.2.2.1, h.2.2.2.2.1, h.2.2.2.2.2.1⟩)]
    exact aright_no f p l.length w hy
end Go.Proofs.YtlckgkpgllhpbaaDoor

/- Apk -/
namespace Go.Proofs.YtlckgkpgllhpbaaDoor
open Go.RowKit

/-- What PutAsk answers. -/
def putA (f : Fa) (l : List (Fa × Nat)) : List UInt8 × Int := if RightA f l then (askB f l, 0) else ([], 4)
theorem putA_len (f : Fa) (l : List (Fa × Nat)) : (putA f l).1.length ≤ 22000 := by
  unfold putA
  split
  · rename_i h; exact askB_len h
  · simp
def tailA (f : Fa) (l : List (Fa × Nat)) : List UInt8 := bodyA f ++ if f.k = 11 then intB l.length ++ partsA l else []
theorem abody_right (f : Fa) (p : Pl) (l : List (Fa × Nat)) (pw : Nat) (G : Option Nat) (L : List UInt8) (lo hi : Nat) (w : World) (hR : RightA f l) (hf : f.Ok) (hm : f.OkMs) (hok : ∀ q ∈ l, q.1.Ok) (hw : Wtr w pw G L) (hp : ∀ k, WF pw G k → k < w.heap.size) (hlim : L.length ≤ 100000) (hD : RdA w lo hi f p l) (hh : hi ≤ w.heap.size) (hpn : ∀ k, lo ≤ k → k < hi → ¬ WF pw G k) :
    Calls Tryd.prog 29 #[.pointer (some ⟨pw, 0, none⟩), aval f p l.length] w fun e w' => e = .returned (.tuple #[]) ∧ Put pw G (L ++ tailA f l) w w' := by
  obtain ⟨⟨hk, hz, hl1, hl2, hl3⟩, h6, -, -, -, h16, hps, -⟩ := hR
  have h7 : f.ms.length ≤ 7 := hl3.2.2.2.2.2.1
  have hpl : f.path.length ≤ 1000 ∧ f.data.length ≤ 1000 := ⟨by omega, by omega⟩
  have hL1 : L.length ≤ 1000000 := by omega
  have key : ∀ T, tailA f l = T → (Calls Tryd.prog 29 #[.pointer (some ⟨pw, 0, none⟩), aval f p l.length] w fun e w' => e = .returned (.tuple #[]) ∧ Put pw G (L ++ T) w w') → Calls Tryd.prog 29 #[.pointer (some ⟨pw, 0, none⟩), aval f p l.length] w fun e w' => e = .returned (.tuple #[]) ∧ Put pw G (L ++ tailA f l) w w' := fun T h hc => by rw [h]; exact hc
  have hno : f.k ≠ 11 → tailA f l = bodyA f := fun h => by unfold tailA; rw [if_neg h, List.append_nil]
  rcases (show f.k = 1 ∨ f.k = 2 ∨ f.k = 3 ∨ f.k = 4 ∨ f.k = 5 ∨ f.k = 7 ∨ f.k = 8 ∨ f.k = 9 ∨ f.k = 10 ∨ f.k = 11 ∨ f.k = 12 ∨ f.k = 13 ∨ f.k = 14 by omega) with h | h | h | h | h | h | h | h | h | h | h | h | h
  · exact key _ (hno (by omega)) (abody1_calls f p l.length pw G L lo hi w hf hw hp hpl hL1 hD.data hh hpn h)
  · exact key _ (hno (by omega)) (abody2_calls f p l.length pw G L lo hi w hf hw hp hpl hL1 hD.data hh hpn h)
  · exact key _ (hno (by omega)) (abody3_calls f p l.length pw G L lo hi w hf hw hp hpl hL1 hD.data hh hpn h)
  · exact key _ (hno (by omega)) (abody4_calls f p l.length pw G L lo hi w hf hw hp hpl hL1 hD.data hh hpn h)
  · exact key _ (hno (by omega)) (abody5_calls f p l.length pw G L lo hi w hf hw hp hpl hL1 hD.data hh hpn h)
  · exact key _ (hno (by omega)) (abody7_calls f p l.length pw G L lo hi w hf hw hp hpl hL1 hD.data hh hpn h)
  · exact key _ (hno (by omega)) (abody8_calls f p l.length pw G L lo hi w hf hw hp hpl hL1 hD.data hh hpn h)
  · exact key _ (hno (by omega)) (abody9_calls f p l.length pw G L lo hi w hf hw hp hpl hL1 hD.data hh hpn h)
  · exact key _ (hno (by omega)) (abody10_calls f p l.length pw G L lo hi w hf hw hp hpl hL1 hD.data hh hpn h)
  · exact key _ (by unfold tailA; rw [if_pos h, show bodyA f = [] by simp [bodyA, h], List.nil_append]) (abody11_calls f p l pw G L lo hi w hok hw hp hlim hD.parts h16 hps hh hpn h)
  · exact key _ (hno (by omega)) (abody12_calls f p l.length pw G L lo hi w hf hm hw hp hlim hD.ms h7 hh hpn h)
  · exact key _ (hno (by omega)) (abody13_calls f p l.length pw G L lo hi w hf hw hp hpl hL1 hD.data hh hpn h)
  · exact key _ (hno (by omega)) (abody14_calls f p l.length pw G L lo hi w hf hw hp hpl hL1 hD.data hh hpn h)

set_option maxRecDepth 8000 in
set_option maxHeartbeats 6400000 in
theorem aput_yes (f : Fa) (p : Pl) (l : List (Fa × Nat)) (lo hi : Nat) (w : World) (hf : f.Ok) (hm : f.OkMs) (hok : ∀ q ∈ l, q.1.Ok) (hD : RdA w lo hi f p l) (hh : hi ≤ w.heap.size) (hR : RightA f l) :
    Calls Tryd.prog 9 #[aval f p l.length] w fun e w' => ∃ v, e = .returned (.tuple #[v, .int .i64 0]) ∧ w'.ownsRow w.heap.size 5 1 v (askB f l).length (bv (askB f l)) ∧ Fr NoB w w' := by
  have hcr := fun W (F : Fr NoB w W) => aright_calls f p l lo hi W (hD.parts.fr F hh (fun _ _ _ x => x)) (Nat.le_trans hh F.size)
  rw [decide_eq_true hR] at hcr
  have hcb := fun pw G L W (F : Fr NoB w W) (hw : Wtr W pw G L) (hi2 : ∀ k, WF pw G k → w.heap.size ≤ k) (hlim : L.length ≤ 100000) => abody_right f p l pw G L lo hi W hR hf hm hok hw (fun k hk => hw.lt hk) hlim (hD.fr F hh (fun _ _ _ x => x)) (Nat.le_trans hh F.size) (fun k _ h2 h3 => by have := hi2 k h3; omega)
  have hlen := askB_len hR
  have hZ : [kindB f.k] ++ intsB [f.x, f.s, f.t] ++ tailA f l = askB f l := by unfold askB tailA headA; simp [intsB]
  obtain ⟨Z, hZZ⟩ : ∃ Z, askB f l = Z := ⟨_, rfl⟩
  rw [hZZ] at hlen hZ ⊢
  have HLEN := Lib.hid hlen
  have HZZ := Lib.hid hZ
  have HKR := Lib.hid hf.k
  have HXR := Lib.hid (And.intro hf.x (And.intro hf.s hf.t))
  have HCB := Lib.hid hcb
  have HCR := Lib.hid hcr
  generalize tailA f l = TB at *
  clear hZZ hlen hZ hD hok hR hcr hcb hf hm
  obtain ⟨k, x, s, t, path, data, fl, ve, wa, so, la, ti, fr, ms⟩ := f
  obtain ⟨A, c, B, d, P, e'⟩ := p
  simp only at *
  simp only [aval, acells] at *
  go_enter Tryd.func9, Tryd.ntmps9
  go_wp2_with (fail)
  have F0 := Lib.hid ((Fr.refl NoB w).alloc (.cells #[.int .u8 k, .int .i64 x, .int .i64 s, .int .i64 t, .string ⟨path.toArray⟩, .slice A data.length c, .int .i64 fl, .int .i64 ve, .bool wa, .int .u8 so, .int .i64 la, .int .i64 ti, .int .i64 fr, .slice B ms.length d, .slice P l.length e'] 29))
  have HBX := Lib.hid (heap_alloc_new w (.cells #[.int .u8 k, .int .i64 x, .int .i64 s, .int .i64 t, .string ⟨path.toArray⟩, .slice A data.length c, .int .i64 fl, .int .i64 ve, .bool wa, .int .u8 so, .int .i64 la, .int .i64 ti, .int .i64 fr, .slice B ms.length d, .slice P l.length e'] 29))
  generalize w.alloc (.cells #[.int .u8 k, .int .i64 x, .int .i64 s, .int .i64 t, .string ⟨path.toArray⟩, .slice A data.length c, .int .i64 fl, .int .i64 ve, .bool wa, .int .u8 so, .int .i64 la, .int .i64 ti, .int .i64 fr, .slice B ms.length d, .slice P l.length e'] 29) = wb at F0 HBX ⊢
  have HSZ := Lib.hid F0.out.size
  generalize w.heap.size = NB at *
  refine (HCR.out _ F0.out).mono ?_
  rintro e w1 ⟨rfl, f1⟩
  have F1 := Lib.hid f1
  clear f1 HCR
  go_wp2_with (fail)
  refine (wNew _).mono ?_
  rintro e w2 ⟨rfl, a2, f2, -⟩
  have t2 : WE wb w2 w1.heap.size [] none := ⟨a2, F1.out.then f2, fun k hk => by
    rcases hk with rfl | hk
    · exact F1.out.size
    · cases hk⟩
  have T2 := Lib.hid t2
  have HB2 := Lib.hid (t2.fr.at_ HBX.out (fun x => x))
  have d1 := (cells_of HB2.out 0).1
  simp only [List.getElem?_toArray, List.getElem?_cons_zero] at d1
  generalize w1.heap.size = pw at *
  clear a2 f2 t2 F1
  go_wp2_with (fail)
  refine (wByteI pw none [] k _ HKR.out T2.out.a (by simp)).mono ?_
  rintro e w3 ⟨rfl, G3, a3, f3, g3⟩
  rw [List.nil_append] at a3
  have T3 := Lib.hid (T2.out.next a3 f3 g3)
  clear a3 f3 g3 d1 HB2 T2
  have HB3 := Lib.hid (T3.out.fr.at_ HBX.out (fun x => x))
  have d1 := (cells_of HB3.out 1).1
  have d2 := (cells_of HB3.out 2).1
  have d3 := (cells_of HB3.out 3).1
  simp only [List.getElem?_toArray, List.getElem?_cons_zero, List.getElem?_cons_succ] at d1 d2 d3
  have T3k := Lib.hid (T3.out.keep ((Fr.refl NoB w3).alloc (.cells #[.int .i64 x, .int .i64 s, .int .i64 t] 3)))
  have HR3 := Lib.hid (rdi_new w3 [x, s, t] 3)
  go_wp2_with (fail)
  refine (ints_calls pw G3 [kindB k] _ [x, s, t] 3 _ _ _ T3k.out.a (by simp) HR3.out (by simp) (fun k h1 h2 h3 => by have := T3.out.a.lt h3; omega) (fun z hz => by simp only [List.mem_cons, List.not_mem_nil, or_false] at hz; rcases hz with rfl | rfl | rfl; exact HXR.out.1; exact HXR.out.2.1; exact HXR.out.2.2)).mono ?_
  rintro e w6 ⟨rfl, G6, a6, f6, g6⟩
  have T6 := Lib.hid (T3k.out.next a6 f6 g6)
  clear a6 f6 g6 T3 T3k HR3 d1 d2 d3 HB3
  have HB5 := Lib.hid (T6.out.fr.at_ HBX.out (fun x => x))
  have HL5 : Hid (([kindB k] ++ intsB [x, s, t]).length ≤ 100000) := by show _ ≤ _; have := intsB_len [x, s, t]; simp only [List.length_append, List.length_cons, List.length_nil] at this ⊢; omega
  generalize [kindB k] ++ intsB [x, s, t] = LH at *
  go_wp2_with (first | (refine wpList_load_row rfl 29 _ rfl NB rfl _ _ _ _ HB5.out Tryd.underlying29 rfl asize15 ?_) | fail)
  refine (HCB.out pw G6 LH _ (F0.out.then T6.out.fr) T6.out.a (fun k hk => Nat.le_trans HSZ.out (T6.out.i k hk)) HL5.out).mono ?_
  rintro e w7 ⟨rfl, G7, a7, f7, g7⟩
  have T7 := Lib.hid (T6.out.next a7 f7 g7)
  rw [HZZ.out] at T7
  clear a7 f7 g7 T6 HB5 HCB
  go_wp2_with (fail)
  refine (wDone pw G7 _ _ T7.out.a (by have := HLEN.out; omega)).mono ?_
  rintro e w8 ⟨v8, rfl, o8, b8⟩
  obtain ⟨A8, c8, rfl, n1, n2⟩ := own_form o8
  go_wp2
  go_ret2
  exact ⟨.slice A8 Z.length c8, rfl, own_low o8 (Nat.le_trans F0.out.size T7.out.fr.size), (F0.out.then T7.out.fr).then (Fr.ofBelow b8)⟩

set_option maxRecDepth 8000 in
set_option maxHeartbeats 3200000 in
theorem aput_calls (f : Fa) (p : Pl) (l : List (Fa × Nat)) (lo hi : Nat) (w : World) (hf : f.Ok) (hm : f.OkMs) (hok : ∀ q ∈ l, q.1.Ok) (hD : RdA w lo hi f p l) (hh : hi ≤ w.heap.size) :
    Calls Tryd.prog 9 #[aval f p l.length] w fun e w' => ∃ v, e = .returned (.tuple #[v, .int .i64 (putA f l).2]) ∧ w'.ownsRow w.heap.size 5 1 v (putA f l).1.length (bv (putA f l).1) ∧ Fr NoB w w' := by
  by_cases hR : RightA f l
  · rw [show putA f l = (askB f l, 0) from if_pos hR]
    exact aput_yes f p l lo hi w hf hm hok hD hh hR
  · rw [show putA f l = ([], 4) from if_neg hR]
    have hcr := fun W (F : Fr NoB w W) => aright_calls f p l lo hi W (hD.parts.fr F hh (fun _ _ _ x => x)) (Nat.le_trans hh F.size)
    rw [decide_eq_false hR] at hcr
    have HCR := Lib.hid hcr
    clear hcr hD hok hR hf hm
    obtain ⟨k, x, s, t, path, data, fl, ve, wa, so, la, ti, fr, ms⟩ := f
    obtain ⟨A, c, B, d, P, e'⟩ := p
    simp only [aval, acells] at *
    go_enter Tryd.func9, Tryd.ntmps9
    go_wp2_with (fail)
    refine (HCR.out _ ((Fr.refl NoB w).alloc _)).mono ?_
    rintro e w1 ⟨rfl, f1⟩
    go_wp2
    go_ret2
    exact ⟨.slice none 0 0, rfl, World.ownsRow_nil _ _ _ _, ((Fr.refl NoB w).alloc _).then f1⟩
end Go.Proofs.YtlckgkpgllhpbaaDoor
