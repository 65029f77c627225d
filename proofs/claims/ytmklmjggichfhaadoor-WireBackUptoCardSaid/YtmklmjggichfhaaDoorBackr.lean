/-
  Backr: the statement's 'read': what it says of a reader and things.
-/
import Derived.Test.YtmklmjggichfhaaDoorBack
namespace Go.Proofs.YtmklmjggichfhaaDoor
open Go.RowKit

/-- A reader made behind w0. -/
structure RA (w0 w : World) (lo p : Nat) (st : RSt) : Prop where
  a : Rdr w lo p st
  fr : Fr NoB w0 w
  lim : RLim st
  i : w0.heap.size ≤ lo
  j : lo ≤ p
theorem RA.next {w0 w w1 : World} {lo p : Nat} {st st' : RSt} (h : RA w0 w lo p st) (a : Rdr w1 lo p st') (f : Fr (OneB p) w w1) (l : RLim st') : RA w0 w1 lo p st' :=
  ⟨a, h.fr.up f (fun k hk => by have := h.i; have := h.j; simp only [OneB] at hk; omega), l, h.i, h.j⟩
theorem RA.keep {w0 w w1 : World} {lo p : Nat} {st : RSt} (h : RA w0 w lo p st) (f : Fr NoB w w1) : RA w0 w1 lo p st :=
  ⟨h.a.fr f (fun _ _ _ x => x) h.j, h.fr.then f, h.lim, h.i, h.j⟩
theorem rBytes_lim2 {st : RSt} {m : Int} (h : RLim st) : RLim (rBytes st m).2 := (tk_lim (n := (rCount st m).1) (rCount_lim (m := m) h)).1
theorem rByte_lim2 {st : RSt} (h : RLim st) : RLim (rByte st).2 := by rw [(take1 st).1]; exact (tk_lim (n := 1) h).1
theorem beq_byte (x y : UInt8) : ((x.toNat : Int) == (y.toNat : Int)) = (x == y) := by
  by_cases h : x = y
  · subst h; simp
  · have h2 : x.toNat ≠ y.toNat := fun e => h (UInt8.toNat_inj.1 e)
    have h3 : ((x.toNat : Int) == (y.toNat : Int)) = false := by rw [beq_eq_false_iff_ne]; omega
    rw [h3, (beq_eq_false_iff_ne).2 h]

set_option maxRecDepth 8000 in
set_option maxHeartbeats 6400000 in
theorem read_calls (D : Option Addr) (ts : List Thing) (d : Nat) (w0 w : World) (lo p : Nat) (st0 : RSt) (hd : Dth w0 D ts) (hn : ts.length ≤ 60) (h0 : RA w0 w lo p st0) :
    Calls Tryd.prog 47 #[.pointer (some ⟨p, 0, none⟩), .slice D ts.length d] w fun e w' => e = .returned (.bool (rdAll ts st0).1) ∧ RA w0 w' lo p (rdAll ts st0).2 := by
  have HD := Lib.hid hd
  clear hd
  go_enter Tryd.func47, Tryd.ntmps47
  go_wp2
  go_loopw [4, 5] (fun r i wr => r = .bool false ∧ ∃ (k : Nat) (st : RSt), k ≤ ts.length ∧ i = .int .i64 (k : Int) ∧ RA w0 wr lo p st ∧ rdAll (ts.drop k) st = rdAll ts st0) (fun _ i _ => ts.length - (intOf i).toNat)
  case atStart => exact ⟨rfl, 0, _, Nat.zero_le _, rfl, h0, rfl⟩
  case round =>
    obtain ⟨rfl, k, st, hk, rfl, ht, heq⟩ := hrel
    have HT := Lib.hid ht
    clear ht h0
    by_cases hlt : k < ts.length
    · obtain ⟨b, o, rfl, hb, hcs⟩ := HD.out (by omega)
      obtain ⟨B, c, ⟨h1, h2⟩, hl, hlc, hcm, hr, hc0, hc1, hc2⟩ := hcs k ts[k] (List.getElem?_eq_getElem hlt)
      have hat := rdAll_at (List.getElem?_eq_getElem hlt) st
      rw [heq] at hat
      clear hcs heq
      generalize ts[k] = x at *
      obtain ⟨s, m, l⟩ := x
      simp only at h1 h2 hl hlc hr hc0 hc1 hc2
      have hw0 := (HT.out.fr.cell (p := ⟨b, o + k * 3, none⟩) hb (fun x => x)).trans hc0
      have hw1 := (HT.out.fr.cell (p := ⟨b, o + k * 3 + 1, none⟩) hb (fun x => x)).trans hc1
      have hw2 := (HT.out.fr.cell (p := ⟨b, o + k * 3 + 2, none⟩) hb (fun x => x)).trans hc2
      have HC1 : Hid (∀ W, Fr NoB w0 W → W.cell? ⟨b, o + k * 3 + 1, none⟩ = some (.int .i64 m)) := fun W f => (f.cell (p := ⟨b, o + k * 3 + 1, none⟩) hb (fun x => x)).trans hc1
      have HC2 : Hid (∀ W, Fr NoB w0 W → W.cell? ⟨b, o + k * 3 + 2, none⟩ = some (.slice B l.length c)) := fun W f => (f.cell (p := ⟨b, o + k * 3 + 2, none⟩) hb (fun x => x)).trans hc2
      have HR : Hid (∀ W, Fr NoB w0 W → Rd W 0 w0.heap.size B l) := fun W f => hr.fr f (Nat.le_refl _) (fun _ _ _ x => x)
      have hi1 : ((k : Int) < (ts.length : Int)) := by omega
      obtain ⟨t, ht⟩ : ∃ t, s % 4 = t := ⟨_, rfl⟩
      have h5 : t = 0 ∨ t = 1 ∨ t = 2 ∨ t = 3 := by omega
      have hK := fun W => pick_calls s 4 W (by omega) (by omega)
      rw [ht] at hK
      have HAT := Lib.hid hat
      have HLC := Lib.hid hlc
      have HL := Lib.hid hl
      clear hc0 hc1 hc2 hlc hcm hr hat hl h1 h2
      rcases h5 with rfl | rfl | rfl | rfl
      all_goals have HK := Lib.hid hK; clear hK
      · have HP : Hid (rdOne st (s, m, l) = ((rByte st).1 == UInt8.ofNat (m % 256).toNat, (rByte st).2)) := by show rdOne st (s, m, l) = _; unfold rdOne; rw [if_pos ht]
        clear ht hw2
        go_wp2_with (go_at_call 20; refine (HK.out _).mono ?_; rintro e w1 ⟨rfl, rfl⟩)
        go_region_held3 (fun W => W.cell? ⟨b, o + k * 3 + 1, none⟩ = some (.int .i64 m)) (first | exact hw1 | exact hw1b) (first
          | (go_at_call 21; refine (rByte_calls lo p st _ (HT.out.keep ((Fr.refl NoB wr).drew)).a).mono ?_; rintro e w2 ⟨rfl, q1, q2, -⟩; have T2 := Lib.hid ((HT.out.keep ((Fr.refl NoB wr).drew)).next q1 q2 (rByte_lim2 HT.out.lim)); have hw1b := HC1.out w2 T2.out.fr; clear q1 q2))
        have hat := HAT.out
        rw [HP.out] at hat
        simp only at hat
        have hbb : (((rByte st).1.toNat : Int) == IntKind.u8.wrap m) = ((rByte st).1 == UInt8.ofNat (m % 256).toNat) := by
          rw [← beq_byte, IntKind.wrap_u8]
          congr 1
          simp only [UInt8.toNat_ofNat']; omega
        rw [hbb]
        clear hbb
        generalize ((rByte st).1 == UInt8.ofNat (m % 256).toNat) = ok at hat ⊢
        generalize (rByte st).2 = st2 at hat T2
        have HH := Lib.hid hat
        clear hat HAT HP HC1 HC2 HR hw0 hb HK hi1
        cases ok
        · go_wp2
          go_ret
          have h := HH.out
          rw [if_neg (by simp)] at h
          rw [h]
          exact ⟨rfl, T2.out⟩
        · have hG := rGood_calls lo p st2 w2 T2.out.a
          cases hg : rGood st2
          · rw [hg] at hG
            have HG := Lib.hid hG
            have HGG := Lib.hid hg
            clear hG hg
            go_wp2_with (go_at_call 14; refine HG.out.mono ?_; rintro e w4 ⟨rfl, rfl⟩)
            go_ret
            have h := HH.out
            rw [if_neg (by rw [HGG.out]; simp)] at h
            rw [h]
            exact ⟨rfl, T2.out⟩
          · rw [hg] at hG
            have HG := Lib.hid hG
            have HGG := Lib.hid hg
            clear hG hg
            go_wp2_with (go_at_call 14; refine HG.out.mono ?_; rintro e w4 ⟨rfl, rfl⟩)
            go_roundw
            case rel =>
              have h := HH.out
              rw [if_pos (by simp [HGG.out])] at h
              exact ⟨rfl, k + 1, st2, by omega, by go_num, T2.out, h.symm⟩
            case measure => simp [intOf]; omega
      · have HP : Hid (rdOne st (s, m, l) = ((rInt st).1 == m, (rInt st).2)) := by show rdOne st (s, m, l) = _; unfold rdOne; rw [if_neg (by omega), if_pos ht]
        clear ht hw2
        go_wp2_with (go_at_call 20; refine (HK.out _).mono ?_; rintro e w1 ⟨rfl, rfl⟩)
        go_region_held3 (fun W => W.cell? ⟨b, o + k * 3 + 1, none⟩ = some (.int .i64 m)) (first | exact hw1 | exact hw1b) (first
          | (go_at_call 13; refine (rInt_calls lo p st _ (HT.out.keep ((Fr.refl NoB wr).drew)).a).mono ?_; rintro e w2 ⟨rfl, q1, q2, -⟩; have T2 := Lib.hid ((HT.out.keep ((Fr.refl NoB wr).drew)).next q1 q2 (rInt_lim HT.out.lim)); have hw1b := HC1.out w2 T2.out.fr; clear q1 q2))
        have hat := HAT.out
        rw [HP.out] at hat
        simp only at hat
        generalize ((rInt st).1 == m) = ok at hat ⊢
        generalize (rInt st).2 = st2 at hat T2
        have HH := Lib.hid hat
        clear hat HAT HP HC1 HC2 HR hw0 hb HK hi1
        cases ok
        · go_wp2
          go_ret
          have h := HH.out
          rw [if_neg (by simp)] at h
          rw [h]
          exact ⟨rfl, T2.out⟩
        · have hG := rGood_calls lo p st2 w2 T2.out.a
          cases hg : rGood st2
          · rw [hg] at hG
            have HG := Lib.hid hG
            have HGG := Lib.hid hg
            clear hG hg
            go_wp2_with (go_at_call 14; refine HG.out.mono ?_; rintro e w4 ⟨rfl, rfl⟩)
            go_ret
            have h := HH.out
            rw [if_neg (by rw [HGG.out]; simp)] at h
            rw [h]
            exact ⟨rfl, T2.out⟩
          · rw [hg] at hG
            have HG := Lib.hid hG
            have HGG := Lib.hid hg
            clear hG hg
            go_wp2_with (go_at_call 14; refine HG.out.mono ?_; rintro e w4 ⟨rfl, rfl⟩)
            go_roundw
            case rel =>
              have h := HH.out
              rw [if_pos (by simp [HGG.out])] at h
              exact ⟨rfl, k + 1, st2, by omega, by go_num, T2.out, h.symm⟩
            case measure => simp [intOf]; omega
      · have HP : Hid (rdOne st (s, m, l) = ((rBytes st l.length).1 == l, (rBytes st l.length).2)) := by show rdOne st (s, m, l) = _; unfold rdOne; rw [if_neg (by omega), if_neg (by omega)]
        have HCV : Hid (∀ W, Fr NoB w0 W → (convert 22 9 (.slice B l.length c)).run Tryd.prog W = .ok (.string ⟨l.toArray⟩) W) := fun W f => conv_string Tryd.underlying22 Tryd.underlying5 Tryd.underlying9 (HR.out W f)
        have hcv := HCV.out wr.drew HT.out.fr.drew
        clear ht hw1
        go_wp2_with (go_at_call 20; refine (HK.out _).mono ?_; rintro e w1 ⟨rfl, rfl⟩)
        go_region_held3 (fun W => W.cell? ⟨b, o + k * 3 + 2, none⟩ = some (.slice B l.length c) ∧ (convert 22 9 (.slice B l.length c)).run Tryd.prog W = .ok (.string ⟨l.toArray⟩) W) (first | exact ⟨hw2, hcv⟩ | exact ⟨hw2b, hcvb⟩) (first
          | (go_at_call 24; refine (rText_calls lo p st l.length _ (HT.out.keep ((Fr.refl NoB wr).drew)).a).mono ?_; rintro e w2 ⟨rfl, q1, q2, -⟩; have T2 := Lib.hid ((HT.out.keep ((Fr.refl NoB wr).drew)).next q1 q2 (rBytes_lim2 HT.out.lim)); have hw2b := HC2.out w2 T2.out.fr; have hcvb := HCV.out w2 T2.out.fr; clear q1 q2))
        have hat := HAT.out
        rw [HP.out] at hat
        simp only at hat
        generalize ((rBytes st l.length).1 == l) = ok at hat ⊢
        generalize (rBytes st l.length).2 = st2 at hat T2
        have HH := Lib.hid hat
        clear hat HAT HP HC1 HC2 HR hw0 hb HK hi1
        cases ok
        · go_wp2
          go_ret
          have h := HH.out
          rw [if_neg (by simp)] at h
          rw [h]
          exact ⟨rfl, T2.out⟩
        · have hG := rGood_calls lo p st2 w2 T2.out.a
          cases hg : rGood st2
          · rw [hg] at hG
            have HG := Lib.hid hG
            have HGG := Lib.hid hg
            clear hG hg
            go_wp2_with (go_at_call 14; refine HG.out.mono ?_; rintro e w4 ⟨rfl, rfl⟩)
            go_ret
            have h := HH.out
            rw [if_neg (by rw [HGG.out]; simp)] at h
            rw [h]
            exact ⟨rfl, T2.out⟩
          · rw [hg] at hG
            have HG := Lib.hid hG
            have HGG := Lib.hid hg
            clear hG hg
            go_wp2_with (go_at_call 14; refine HG.out.mono ?_; rintro e w4 ⟨rfl, rfl⟩)
            go_roundw
            case rel =>
              have h := HH.out
              rw [if_pos (by simp [HGG.out])] at h
              exact ⟨rfl, k + 1, st2, by omega, by go_num, T2.out, h.symm⟩
            case measure => simp [intOf]; omega
      · have HP : Hid (rdOne st (s, m, l) = ((rBytes st l.length).1 == l, (rBytes st l.length).2)) := by show rdOne st (s, m, l) = _; unfold rdOne; rw [if_neg (by omega), if_neg (by omega)]
        clear ht hw1
        go_wp2_with (go_at_call 20; refine (HK.out _).mono ?_; rintro e w1 ⟨rfl, rfl⟩)
        go_region_held3 (fun W => W.cell? ⟨b, o + k * 3 + 2, none⟩ = some (.slice B l.length c)) (first | exact hw2 | exact hw2b | exact hw2c) (first
          | (go_at_call 26; refine (rBytes_calls lo p st l.length _ (HT.out.keep ((Fr.refl NoB wr).drew)).a HT.out.j HT.out.lim).mono ?_; rintro e w2 ⟨v2, rfl, o2, q1, q2⟩; obtain ⟨A2, c2, rfl, _, _⟩ := own_form o2; have R2 := Lib.hid (own_rd o2); have T2 := Lib.hid ((HT.out.keep ((Fr.refl NoB wr).drew)).next q1 q2 (rBytes_lim2 HT.out.lim)); have hw2b := HC2.out w2 T2.out.fr; clear q1 q2 o2)
          | (go_at_call 18; refine (same_calls _ _ _ _ _ _ _ _ _ _ _ R2.out (HR.out w2 T2.out.fr) (tk_lim (n := (rCount st l.length).1) (rCount_lim (m := l.length) HT.out.lim)).2 (by have := HL.out; omega)).mono ?_; rintro e w3 ⟨rfl, n3, rfl⟩; have T3 := Lib.hid (T2.out.keep ((Fr.refl NoB w2).drewN n3)); have hw2c := HC2.out _ T3.out.fr))
        have hat := HAT.out
        rw [HP.out] at hat
        simp only at hat
        clear T2
        generalize ((rBytes st l.length).1 == l) = ok at hat ⊢
        generalize (rBytes st l.length).2 = st2 at hat T3
        have HH := Lib.hid hat
        clear hat HAT HP HC1 HC2 HR hw0 hb HK hi1
        cases ok
        · go_wp2
          go_ret
          have h := HH.out
          rw [if_neg (by simp)] at h
          rw [h]
          exact ⟨rfl, T3.out⟩
        · have hG := rGood_calls lo p st2 (w2.drewN n3) T3.out.a
          cases hg : rGood st2
          · rw [hg] at hG
            have HG := Lib.hid hG
            have HGG := Lib.hid hg
            clear hG hg
            go_wp2_with (go_at_call 14; refine HG.out.mono ?_; rintro e w4 ⟨rfl, rfl⟩)
            go_ret
            have h := HH.out
            rw [if_neg (by rw [HGG.out]; simp)] at h
            rw [h]
            exact ⟨rfl, T3.out⟩
          · rw [hg] at hG
            have HG := Lib.hid hG
            have HGG := Lib.hid hg
            clear hG hg
            go_wp2_with (go_at_call 14; refine HG.out.mono ?_; rintro e w4 ⟨rfl, rfl⟩)
            go_roundw
            case rel =>
              have h := HH.out
              rw [if_pos (by simp [HGG.out])] at h
              exact ⟨rfl, k + 1, st2, by omega, by go_num, T3.out, h.symm⟩
            case measure => simp [intOf]; omega
    · obtain rfl : k = ts.length := by omega
      rw [List.drop_length] at heq
      have HE := Lib.hid heq
      clear heq hlt hk
      go_wp2
      go_ret
      have h : ((true, st) : Bool × RSt) = rdAll ts st0 := HE.out
      rw [← h]
      exact ⟨rfl, HT.out⟩

end Go.Proofs.YtmklmjggichfhaaDoor
