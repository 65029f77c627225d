/-
  Rar: the document's RightAsk.
-/
import Derived.Test.YtlckgkpgllhpbaaDoorRaf
import Derived.Test.YtlckgkpgllhpbaaDoorApk
namespace Go.Proofs.YtlckgkpgllhpbaaDoor
open Go.RowKit

/-- What is asked ahead of the parts. -/
def HeadR (f : Fa) (np : Nat) : Prop := FitsA f np ∧ f.k ≠ 6 ∧ 0 ≤ f.x ∧ 0 ≤ f.s ∧ 0 ≤ f.t ∧ (f.k = 11 → 1 ≤ np ∧ np ≤ 16)
instance (f : Fa) (np : Nat) : Decidable (HeadR f np) := by unfold HeadR; infer_instance
set_option maxHeartbeats 3200000 in
set_option maxRecDepth 8000 in
theorem rright_no (f : Fa) (p : Pl) (np : Nat) (w : World) (hno : ¬ HeadR f np) :
    Calls Tryd.prog 12 #[aval f p np] w fun e w' => e = .returned (.bool false) ∧ Fr NoB w w' := by
  have hcf := fun W => rfits_calls f p np W
  by_cases hfit : FitsA f np
  rotate_left
  · rw [decide_eq_false hfit] at hcf
    have HCF := Lib.hid hcf
    clear hno hfit hcf
    obtain ⟨k, x, s, t, path, data, fl, ve, wa, so, la, ti, fr, ms⟩ := f
    obtain ⟨A, c, B, d, P, e'⟩ := p
    simp only [aval, acells] at *
    go_enter Tryd.func12, Tryd.ntmps12
    go_wp2_with (first | ((with_reducible refine (HCF.out _).mono ?_); rintro e w1 ⟨rfl, f1⟩) | fail)
    go_ret
    exact ⟨rfl, ((Fr.refl NoB w).alloc _).then f1⟩
  · rw [decide_eq_true hfit] at hcf
    have HCF := Lib.hid hcf
    have HNO := Lib.hid (fun h1 h2 h3 h4 h5 => hno ⟨hfit, h1, h2, h3, h4, h5⟩)
    clear hno hfit hcf
    obtain ⟨k, x, s, t, path, data, fl, ve, wa, so, la, ti, fr, ms⟩ := f
    obtain ⟨A, c, B, d, P, e'⟩ := p
    simp only [aval, acells] at *
    have hone : k = 6 ∨ (k ≠ 6 ∧ x < 0) ∨ (k ≠ 6 ∧ 0 ≤ x ∧ s < 0) ∨ (k ≠ 6 ∧ 0 ≤ x ∧ 0 ≤ s ∧ t < 0) ∨ (k ≠ 6 ∧ 0 ≤ x ∧ 0 ≤ s ∧ 0 ≤ t ∧ k = 11 ∧ np < 1) ∨ (k ≠ 6 ∧ 0 ≤ x ∧ 0 ≤ s ∧ 0 ≤ t ∧ k = 11 ∧ ¬ np < 1 ∧ 16 < np) := by
      by_cases h1 : k = 6
      · exact .inl h1
      by_cases h2 : 0 ≤ x
      · by_cases h3 : 0 ≤ s
        · by_cases h4 : 0 ≤ t
          · by_cases h5 : k = 11 → 1 ≤ np ∧ np ≤ 16
            · exact (HNO.out h1 h2 h3 h4 h5).elim
            · rw [Classical.not_imp] at h5
              by_cases h6 : np < 1
              · exact .inr (.inr (.inr (.inr (.inl ⟨h1, h2, h3, h4, h5.1, h6⟩))))
              · exact .inr (.inr (.inr (.inr (.inr ⟨h1, h2, h3, h4, h5.1, h6, by omega⟩))))
          · exact .inr (.inr (.inr (.inl ⟨h1, h2, h3, by omega⟩)))
        · exact .inr (.inr (.inl ⟨h1, h2, by omega⟩))
      · exact .inr (.inl ⟨h1, by omega⟩)
    clear HNO
    rcases hone with rfl | ⟨h1, h2⟩ | ⟨h1, h2, h3⟩ | ⟨h1, h2, h3, h4⟩ | ⟨h1, h2, h3, h4, rfl, h5⟩ | ⟨h1, h2, h3, h4, rfl, h5, h6⟩
    all_goals
      (try have hb : (k == 6) = false := by rw [beq_eq_false_iff_ne]; exact h1)
      (try have hx : ¬ x < 0 := Int.not_lt.2 h2)
      (try have hs : ¬ s < 0 := Int.not_lt.2 h3)
      (try have ht : ¬ t < 0 := Int.not_lt.2 h4)
      (try have hn1 : (np : Int) < 1 := by omega)
      (try have hn2 : ¬ (np : Int) < 1 := by omega)
      (try have hn : (16 : Int) < (np : Int) := by omega)
      (try clear h5)
      (try clear h6)
      go_enter Tryd.func12, Tryd.ntmps12
      go_wp2_with (first | ((with_reducible refine (HCF.out _).mono ?_); rintro e w1 ⟨rfl, f1⟩; have hb := f1.at_ (heap_alloc_new w _) (fun x => x); have d0 := (cells_of hb 0).1; have d1 := (cells_of hb 1).1; have d2 := (cells_of hb 2).1; have d3 := (cells_of hb 3).1; have d14 := (cells_of hb 14).1; clear hb; simp only [List.getElem?_toArray, List.getElem?_cons_zero, List.getElem?_cons_succ] at d0 d1 d2 d3 d14) | fail)
      go_ret
      exact ⟨rfl, ((Fr.refl NoB w).alloc _).then f1⟩
set_option maxHeartbeats 6400000 in
set_option maxRecDepth 8000 in
theorem rright_yes (f : Fa) (p : Pl) (l : List (Fa × Nat)) (lo hi : Nat) (w : World) (hP : RdPa w lo hi p.P l) (hh : hi ≤ w.heap.size) (hy : HeadR f l.length) :
    Calls Tryd.prog 12 #[aval f p l.length] w fun e w' => e = .returned (.bool (decide (RightA f l))) ∧ Fr NoB w w' := by
  have hcf := fun W => rfits_calls f p l.length W
  rw [decide_eq_true hy.1] at hcf
  obtain ⟨R, hR⟩ : ∃ R, decide (RightA f l) = R := ⟨_, rfl⟩
  rw [hR]
  have HN : Hid ((∃ q ∈ l, ¬ PartA q) → R = false) := fun ⟨q, hq, h⟩ => by rw [← hR]; exact decide_eq_false fun hr => h (hr.2.2.2.2.2.2.1 q hq)
  have h016 : l.length ≤ 16 := by
    by_cases h11 : f.k = 11
    · exact (hy.2.2.2.2.2 h11).2
    · have := hy.1.2.1.2.2.2.2.2.2.2.2.2.resolve_left h11; omega
  have HY : Hid ((∀ q ∈ l, PartA q) → R = true) := fun h => by
    rw [← hR]
    exact decide_eq_true ⟨hy.1, hy.2.1, hy.2.2.1, hy.2.2.2.1, hy.2.2.2.2.1, h016, h, fun h2 => (hy.2.2.2.2.2 h2).1⟩
  obtain ⟨-, h6, h0x, h0s, h0t, h11⟩ := hy
  have HCF := Lib.hid hcf
  have HR := Lib.hid hP
  clear hcf hR hP
  obtain ⟨k, x, s, t, path, data, fl, ve, wa, so, la, ti, fr, ms⟩ := f
  obtain ⟨A, c, B, d, P, e'⟩ := p
  simp only at HR h6 h0x h0s h0t h11
  have hb6 : (k == 6) = false := by rw [beq_eq_false_iff_ne]; exact h6
  have hx : ¬ x < 0 := Int.not_lt.2 h0x
  have hs : ¬ s < 0 := Int.not_lt.2 h0s
  have ht : ¬ t < 0 := Int.not_lt.2 h0t
  simp only [aval, acells] at *
  go_enter Tryd.func12, Tryd.ntmps12
  go_wp2_with (fail)
  refine (HCF.out _).mono ?_
  rintro e w1 ⟨rfl, f1⟩
  have HB := Lib.hid (f1.at_ (heap_alloc_new w (.cells #[.int .u8 k, .int .i64 x, .int .i64 s, .int .i64 t, .string ⟨path.toArray⟩, .slice A data.length c, .int .i64 fl, .int .i64 ve, .bool wa, .int .u8 so, .int .i64 la, .int .i64 ti, .int .i64 fr, .slice B ms.length d, .slice P l.length e'] 29)) (fun x => x))
  have F0 := Lib.hid (((Fr.refl NoB w).alloc (.cells #[.int .u8 k, .int .i64 x, .int .i64 s, .int .i64 t, .string ⟨path.toArray⟩, .slice A data.length c, .int .i64 fl, .int .i64 ve, .bool wa, .int .u8 so, .int .i64 la, .int .i64 ti, .int .i64 fr, .slice B ms.length d, .slice P l.length e'] 29)).then f1)
  clear f1 HCF
  generalize w.heap.size = NB at HB ⊢
  have d0 := (cells_of HB.out 0).1
  have d1 := (cells_of HB.out 1).1
  have d2 := (cells_of HB.out 2).1
  have d3 := (cells_of HB.out 3).1
  have d14 := (cells_of HB.out 14).1
  simp only [List.getElem?_toArray, List.getElem?_cons_zero, List.getElem?_cons_succ] at d0 d1 d2 d3 d14
  go_upto_region 3 with (fail)
  go_cut [0, 42] (fun _ r W => r = .bool false ∧ w1 = W)
  case first =>
    by_cases hk11 : k = 11
    · subst hk11
      have hn1 : ¬ (l.length : Int) < 1 := by have := (h11 rfl).1; omega
      have hn2 : ¬ (16 : Int) < (l.length : Int) := by omega
      go_wp2
      all_goals go_meet
      all_goals exact ⟨rfl, rfl⟩
    · have hk11b : (k == 11) = false := by rw [beq_eq_false_iff_ne]; exact hk11
      go_wp2
      all_goals go_meet
      all_goals exact ⟨rfl, rfl⟩
  case rest =>
  obtain ⟨rfl, rfl⟩ := hcut
  go_wp2
  clear d0 d1 d2 d3 d14 hb6 hx hs ht h11 h6 h0x h0s h0t
  go_loopw [3] (fun i W => ∃ j : Nat, j ≤ l.length ∧ i = .int .i64 (j : Int) ∧ (∀ q ∈ l.take j, PartA q) ∧ Fr NoB w1 W) (fun i _ => l.length - (intOf i).toNat)
  case atStart => exact ⟨0, Nat.zero_le _, rfl, by simp, Fr.refl _ _⟩
  case round =>
    obtain ⟨j, hj, rfl, hsofar, hf⟩ := hrel
    have F := Lib.hid (F0.out.then hf)
    have F1 := Lib.hid hf
    have HS := Lib.hid hsofar
    clear hf hsofar
    have e14 := (cells_of (F1.out.at_ HB.out (fun x => x)) 14).1
    simp only [List.getElem?_toArray, List.getElem?_cons_zero, List.getElem?_cons_succ] at e14
    by_cases hlt : j < l.length
    · have hki : (j : Int) < (l.length : Int) := by omega
      have hk0 : (0 : Int) ≤ (j : Int) := by omega
      obtain ⟨b, o, rfl, hb1, hb2, h4⟩ := HR.out (by omega)
      obtain ⟨pl, hcs, -, -⟩ := h4 j l[j] (List.getElem?_eq_getElem hlt)
      have HQ : l[j]? = some l[j] := List.getElem?_eq_getElem hlt
      clear h4
      generalize l[j] = q at hcs HQ
      obtain ⟨f1, np⟩ := q
      have hcf := fun W => rfits_calls f1 pl np W
      have HC : ∀ i v, (acells f1 pl np)[i]? = some v → wr.cell? ⟨b, o + j * 15 + i, none⟩ = some v := fun i v hv => (F.out.cell (p := ⟨b, o + j * 15 + i, none⟩) (by simp only; omega) (fun x => x)).trans (hcs i v hv)
      have hL := Lib.hid (apart_range HC)
      have HNO : Hid (¬ PartA (f1, np) → R = false) := fun h => HN.out ⟨_, List.mem_iff_getElem?.2 ⟨j, HQ⟩, h⟩
      have HYS : Hid (PartA (f1, np) → ∀ q ∈ l.take (j + 1), PartA q) := fun h q hq => by
        rw [List.take_add_one, HQ] at hq
        rcases List.mem_append.1 hq with hq | hq
        · exact HS.out q hq
        · simp at hq
          rw [hq]
          exact h
      clear HC hcs HQ
      have HPI := Lib.hid (apart_iff f1 np)
      by_cases hfit : FitsA f1 np
      rotate_left
      · rw [decide_eq_false hfit] at hcf
        have hRf : R = false := HNO.out fun h => hfit h.1
        subst hRf
        have HCF := Lib.hid hcf
        clear hcf hfit HNO HYS HN HY HS HPI
        obtain ⟨kk, x1, s1, t1, path1, data1, fl1, ve1, wa1, so1, la1, ti1, fr1, ms1⟩ := f1
        obtain ⟨A1, ca, B1, cb, P1, cp⟩ := pl
        simp only [aval, acells] at HCF
        go_wp2_with (first | (refine wpList_load_mid rfl 29 _ rfl b (o + j * 15) rfl _ _ hL.out Tryd.underlying29 rfl (size_ask _ _ _) ?_; simp only [acells]) | (refine wpList_store_row rfl 29 _ _ rfl wr.heap.size _ rfl rfl _ _ (heap_alloc_last wr _) asize15 rfl (by simp [Value.oneCell']) ?_; rw [World.setRow_alloc_new]) | ((with_reducible refine (HCF.out _).mono ?_); rintro e w2 ⟨rfl, f2⟩))
        go_ret
        exact ⟨rfl, (F.out.alloc _).then f2⟩
      rw [decide_eq_true hfit] at hcf
      have HCF := Lib.hid hcf
      have HFIT := Lib.hid hfit
      clear hcf hfit
      obtain ⟨kk, x1, s1, t1, path1, data1, fl1, ve1, wa1, so1, la1, ti1, fr1, ms1⟩ := f1
      obtain ⟨A1, ca, B1, cb, P1, cp⟩ := pl
      simp only [aval, acells] at HCF
      simp only at HPI
      by_cases hpa : 3 ≤ kk ∧ kk ≤ 6 ∧ x1 = 0 ∧ s1 = 0 ∧ t1 = 0
      · obtain ⟨g1, g2, rfl, rfl, rfl⟩ := hpa
        have hk3 : ¬ kk < 3 := Int.not_lt.2 g1
        have hk6 : ¬ 6 < kk := Int.not_lt.2 g2
        go_wp2_with (first | (refine wpList_load_mid rfl 29 _ rfl b (o + j * 15) rfl _ _ hL.out Tryd.underlying29 rfl (size_ask _ _ _) ?_; simp only [acells]) | (refine wpList_store_row rfl 29 _ _ rfl wr.heap.size _ rfl rfl _ _ (heap_alloc_last wr _) asize15 rfl (by simp [Value.oneCell']) ?_; rw [World.setRow_alloc_new]) | ((with_reducible refine (HCF.out _).mono ?_); rintro e w2 ⟨rfl, f2⟩; have hb := f2.at_ (heap_alloc_new wr _) (fun x => x); have c0 := (cells_of hb 0).1; have c1 := (cells_of hb 1).1; have c2 := (cells_of hb 2).1; have c3 := (cells_of hb 3).1; clear hb; simp only [List.getElem?_toArray, List.getElem?_cons_zero, List.getElem?_cons_succ] at c0 c1 c2 c3))
        go_roundw
        case rel => exact ⟨j + 1, by omega, by go_num, HYS.out (HPI.out.2 ⟨HFIT.out, g1, g2, by first | rfl | trivial, by first | rfl | trivial, by first | rfl | trivial⟩), (F1.out.alloc _).then f2⟩
        case measure => simp [intOf]; omega
      · have hRf : R = false := HNO.out fun h => hpa ((HPI.out.1 h).2)
        subst hRf
        have hone : x1 ≠ 0 ∨ (x1 = 0 ∧ s1 ≠ 0) ∨ (x1 = 0 ∧ s1 = 0 ∧ t1 ≠ 0) ∨ (x1 = 0 ∧ s1 = 0 ∧ t1 = 0 ∧ kk < 3) ∨ (x1 = 0 ∧ s1 = 0 ∧ t1 = 0 ∧ ¬ kk < 3 ∧ 6 < kk) := by omega
        clear HNO HYS HN HY HS HPI HFIT hpa
        rcases hone with h3 | ⟨rfl, h4⟩ | ⟨rfl, rfl, h5⟩ | ⟨rfl, rfl, rfl, h1⟩ | ⟨rfl, rfl, rfl, h1, h2⟩
        all_goals
          (try have q3 : (x1 != 0) = true := by rw [bne_iff_ne]; exact h3)
          (try have q4 : (s1 != 0) = true := by rw [bne_iff_ne]; exact h4)
          (try have q5 : (t1 != 0) = true := by rw [bne_iff_ne]; exact h5)
          go_wp2_with (first | (refine wpList_load_mid rfl 29 _ rfl b (o + j * 15) rfl _ _ hL.out Tryd.underlying29 rfl (size_ask _ _ _) ?_; simp only [acells]) | (refine wpList_store_row rfl 29 _ _ rfl wr.heap.size _ rfl rfl _ _ (heap_alloc_last wr _) asize15 rfl (by simp [Value.oneCell']) ?_; rw [World.setRow_alloc_new]) | ((with_reducible refine (HCF.out _).mono ?_); rintro e w2 ⟨rfl, f2⟩; have hb := f2.at_ (heap_alloc_new wr _) (fun x => x); have c0 := (cells_of hb 0).1; have c1 := (cells_of hb 1).1; have c2 := (cells_of hb 2).1; have c3 := (cells_of hb 3).1; clear hb; simp only [List.getElem?_toArray, List.getElem?_cons_zero, List.getElem?_cons_succ] at c0 c1 c2 c3))
          go_ret
          exact ⟨rfl, (F.out.alloc _).then f2⟩
    · obtain rfl : j = l.length := by omega
      have hR := HY.out (by have := HS.out; rwa [List.take_length] at this)
      subst hR
      go_wp2
      go_ret
      exact ⟨rfl, F.out⟩
/-- Right of any call. -/
theorem rright_calls (f : Fa) (p : Pl) (l : List (Fa × Nat)) (lo hi : Nat) (w : World) (hP : RdPa w lo hi p.P l) (hh : hi ≤ w.heap.size) :
    Calls Tryd.prog 12 #[aval f p l.length] w fun e w' => e = .returned (.bool (decide (RightA f l))) ∧ Fr NoB w w' := by
  by_cases hy : HeadR f l.length
  · exact rright_yes f p l lo hi w hP hh hy
  · rw [decide_eq_false (fun h => hy ⟨h.1, h.2.1, h.2.2.1, h.2.2.2.1, h.2.2.2.2.1, fun h11 => ⟨h.2.2.2.2.2.2.2 h11, h.2.2.2.2.2.1⟩⟩)]
    exact rright_no f p l.length w hy
end Go.Proofs.YtlckgkpgllhpbaaDoor
