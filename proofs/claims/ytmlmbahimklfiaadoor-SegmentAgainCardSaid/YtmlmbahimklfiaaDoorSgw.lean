/-
  Sgw: SegmentAgain's walk.
-/
import Derived.Test.YtmlmbahimklfiaaDoorSgv
namespace Go.Proofs.YtmlmbahimklfiaaDoor
open Go.RowKit

theorem rise_get : ∀ {l : List De} {a : Int}, Rise a l → ∀ {i : Nat} {d e : De}, l[i]? = some d → l[i + 1]? = some e → d.1.z < e.1.z
  | [], _, _, _, _, _, h, _ => by simp at h
  | x :: l, a, h, 0, d, e, h1, h2 => by
    simp only [List.getElem?_cons_zero, Option.some.injEq] at h1
    subst h1
    simp only [Nat.zero_add, List.getElem?_cons_succ] at h2
    cases l with
    | nil => simp at h2
    | cons y l =>
      simp only [List.getElem?_cons_zero, Option.some.injEq] at h2
      subst h2
      exact h.2.1
  | x :: l, a, h, i + 1, d, e, h1, h2 => rise_get h.2 (i := i) (by simpa using h1) (by simpa using h2)
theorem scan_len (b : List UInt8) : 9 * (scan b).length ≤ b.length := by
  have c : ∀ l : List De, 9 * l.length ≤ (segB l).length := fun l => by
    induction l with
    | nil => simp
    | cons d l ih => rw [segB_cons, List.length_append, List.length_cons]; have := segN_pos d; unfold segN at this; omega
  exact Nat.le_trans (c _) (segB_le b)
theorem wrapm {m : Nat} (h : m ≤ 1000000000) : wrap64 (m : Int) = (m : Int) := by unfold wrap64; omega
theorem wrapm1 {m : Nat} (h : m ≤ 1000000000) : wrap64 (((m + 1 : Nat) : Int) - 1) = (m : Int) := by unfold wrap64; omega
theorem wrapm2 {m : Nat} (h : m ≤ 1000000000) : wrap64 ((m : Int) + 1 - 1) = (m : Int) := by unfold wrap64; omega
/-- What SegmentAgain's loop keeps. -/
def AgR (w1 : World) (ds : List De) (v : Value) (k : Nat) (W : World) : Prop := Fr NoB w1 W ∧ W.ownsRow w1.heap.size 5 1 v (segB (ds.take k)).length (bv (segB (ds.take k)))

set_option maxRecDepth 8000 in
set_option maxHeartbeats 12800000 in
theorem again_walk (A : Option Addr) (b : List UInt8) (c : Nat) (w : World) (h : Rd w 0 w.heap.size A b) (hlc : b.length ≤ c) (hcm : c ≤ maxLen) (hH : Has w) :
    Calls Tryd.prog 5 #[.slice A b.length c] w fun e w' => e = .returned (.bool true) ∧ Fr NoB w w' := by
  obtain ⟨i0, hi0, hz0, hz1, hz2⟩ := info_parts info_byte
  have HW := Lib.hid hH
  by_cases hgt : 60000 < b.length
  · have hg : (60000 : Int) < (b.length : Int) := by omega
    clear h hH hlc hcm
    go_enter Tryd.func5, Tryd.ntmps5
    go_wp2_with (fail)
    refine (awake_calls w HW.out).mono ?_
    rintro e w1 ⟨rfl, f1⟩
    go_wp2
    go_ret
    exact ⟨rfl, f1⟩
  have hg : ¬ (60000 : Int) < (b.length : Int) := by omega
  have hdg : decide ((60000 : Int) < (b.length : Int)) = false := decide_eq_false hg
  obtain ⟨g1, g2, g3, g4⟩ := scan_again b
  have g5 := segB_le b
  have g6 := scan_len b
  have hsc := fun W (F : Fr NoB w W) => scan_calls A b c 0 w.heap.size W (h.fr F (Nat.le_refl _) (fun _ _ _ x => x)) F.size hlc hcm (by omega) (HW.out.fr F)
  have hdl0 : b.length ≤ 1000000000 := by omega
  have HR := Lib.hid h
  unfold Scanned at hsc
  obtain ⟨ds, hds⟩ : ∃ ds, scan b = ds := ⟨_, rfl⟩
  rw [hds] at g1 g2 g3 g4 g5 g6 hsc
  have hdl : ds.length ≤ 1000000000 := by omega
  have HSC := Lib.hid hsc
  have G2 := Lib.hid g2
  have G3 := Lib.hid g3
  have G4 := Lib.hid g4
  have G1 := Lib.hid g1
  clear hsc g1 g2 g3 g4 h hH hds
  go_enter Tryd.func5, Tryd.ntmps5
  go_wp2_with (fail)
  refine (awake_calls w HW.out).mono ?_
  rintro e w0 ⟨rfl, f0⟩
  go_wp2_with (fail)
  refine (HSC.out w0 f0).mono ?_
  rintro e w1 ⟨A1, c1, A2, c2, LL, rfl, hLL, hD, f1⟩
  have F1 := Lib.hid (f0.then f1)
  have hlen : LL.length = ds.length := by have := congrArg List.length hLL; simpa using this
  have hRD := hD.rd
  rw [hLL] at hRD
  rw [hlen]
  have hends := hD.ends
  have hel : (endZ ds).length = ds.length := by simp [endZ, endsOf_len]
  rw [show ds.length = (endZ ds).length from hel.symm] at hends
  have HE := Lib.hid (RdZ.own hends)
  have HEL := Lib.hid hel
  have HRD := Lib.hid hRD
  clear hD hLL hlen hRD hends hel f0 f1
  obtain ⟨n, hn⟩ : ∃ n, (segB ds).length = n := ⟨_, rfl⟩
  rw [hn] at g5 ⊢
  have HN := Lib.hid hn
  clear hn
  have hn0 : ¬ (n : Int) < 0 := by omega
  have hn1 : ¬ (b.length : Int) < (n : Int) := by omega
  have hne : ((ds.length : Int) != (ds.length : Int)) = false := by simp
  have hdn1 : decide (b.length < n) = false := decide_eq_false (by omega)
  have hdn2 : decide ((n : Int) < 0) = false := decide_eq_false hn0
  go_wp2
  clear hne
  go_loopw [6, 7] (fun v i W => ∃ k : Nat, k ≤ ds.length ∧ i = .int .i64 (k : Int) ∧ AgR w1 ds v k W) (fun _ i _ => ds.length - (intOf i).toNat)
  case atStart => exact ⟨0, Nat.zero_le _, rfl, Fr.refl _ _, World.ownsRow_nil _ _ _ _⟩
  case round =>
    obtain ⟨k, hk, rfl, hf, hown⟩ := hrel
    have F := Lib.hid hf
    clear hf
    by_cases hlt : k < ds.length
    · have hki : (k : Int) < (ds.length : Int) := by omega
      have hk0 : (0 : Int) ≤ (k : Int) := by omega
      obtain ⟨g, o, rfl, hgb1, hgb2, h4⟩ := HRD.out (by omega)
      obtain ⟨ge, oe, rfl, hge, h5⟩ := HE.out (by rw [HEL.out]; omega)
      have hkd : ds[k]? = some ds[k] := List.getElem?_eq_getElem hlt
      obtain ⟨cs, his, hc16, hcs⟩ := RdS.get (Nat.le_refl _) (h4 k _ hkd) hkd
      have hrd := G3.out ds[k] (List.getElem_mem hlt)
      have hz : cs[0]? = some (.int .i64 ds[k].1.z) := by obtain ⟨p, lo, hi, rfl, -, -⟩ := his; rfl
      have hce := h5 k (by rw [HEL.out]; exact hlt)
      have e1 : (endZ ds).getD k 0 = ((segB (ds.take (k + 1))).length : Int) := by
        have h1 := endsOf_get 0 ds k hlt
        rw [Nat.zero_add] at h1
        simp [endZ, List.getD, h1]
      rw [e1] at hce
      have hstep : segB (ds.take (k + 1)) = segB (ds.take k) ++ frameB (deB ds[k]) := by rw [List.take_succ_eq_append_getElem hlt, segB_snoc]
      have hNl : (segB (ds.take (k + 1))).length ≤ n := by
        rw [← HN.out]
        conv => rhs; rw [← List.take_append_drop (k + 1) ds, segB_append, List.length_append]
        omega
      have hprev : ∀ m, k = m + 1 → ∃ y : Int, w1.cell? ⟨g, o + m * 16, none⟩ = some (.int .i64 y) ∧ y < ds[k].1.z := fun m hm => by
        have hmd : ds[m]? = some ds[m] := List.getElem?_eq_getElem (by omega)
        obtain ⟨cs', his', -, hcs'⟩ := RdS.get (Nat.le_refl _) (h4 m _ hmd) hmd
        have hz' : cs'[0]? = some (.int .i64 ds[m].1.z) := by obtain ⟨p, lo, hi, rfl, -, -⟩ := his'; rfl
        exact ⟨_, hcs' 0 _ hz', rise_get G4.out hmd (by rw [← hm]; exact hkd)⟩
      have hput := fun W (G : Fr NoB w1 W) => sput_calls (his.fr G) (Fine.right hrd.1 hrd.2.1 (fun q hq => ⟨(hrd.2.2 q hq).1, by rw [(hrd.2.2 q hq).2]; omega⟩)).len hrd.2.1 (fun q hq => ⟨(hrd.2.2 q hq).1, by rw [(hrd.2.2 q hq).2]; omega⟩) (HW.out.fr (F1.out.then G))
      have hfl : (frameB (deB ds[k])).length ≤ 700008 := by rw [frameB_len]; have := hrd.len; omega
      have hputS : putS ds[k].1 ds[k].2 = (frameB (deB ds[k]), 0) := if_pos hrd.1
      rw [hputS] at hput
      have hz0 := hcs 0 _ hz
      clear hz e1 hkd h4 h5 hrd his hputS
      generalize ds[k].1.z = z at hprev hz0
      generalize frameB (deB ds[k]) = R at hput hstep hfl
      have HS := Lib.hid hstep
      obtain ⟨B1, hB1⟩ : ∃ B1, segB (ds.take (k + 1)) = B1 := ⟨_, rfl⟩
      rw [hB1] at HS hstep hce hNl
      have HB1 := Lib.hid hB1
      clear hB1
      generalize segB (ds.take k) = B at HS hstep hown
      have hBl : B1.length = B.length + R.length := by rw [hstep, List.length_append]
      have HP := Lib.hid hput
      have HBL := Lib.hid hBl
      have hb3 : B.length + R.length ≤ 70000000 := by omega
      clear hput hstep
      have hL : wr.rangeAt g (o + k * 16) cs.toList := fun j v hv => (F.out.cell (p := ⟨g, o + k * 16 + j, none⟩) hgb2 (fun x => x)).trans (hcs j v (by simpa using hv))
      have HL := Lib.hid hL
      have hsz : (Tryd.prog.info? 35).map (·.size) = some cs.toList.length := by rw [Array.length_toList]; exact size_of hc16
      clear hL hcs HSC G2 G3 G4 G1 HRD HE HEL hc16
      obtain ⟨X, hX⟩ : ∃ X, Value.agg cs.toList.toArray = X := ⟨_, rfl⟩
      have hX2 : Value.agg cs = X := by rw [← hX]
      rw [hX2] at HP
      go_wp2_with (first | (with_reducible refine wpList_load_mid rfl 35 _ rfl g (o + k * 16) rfl _ _ HL.out Tryd.underlying35 rfl hsz ?_; rw [hX]) | fail)
      refine (HP.out _ F.out).mono ?_
      rintro e w2 ⟨A3, c3, rfl, h1, h2, hr, f2⟩
      have hown2 := own_keep hown (fun g hg => f2.block g (hown.lt g hg).2 (fun x => x))
      have hF2 := F.out.then f2
      have hce2 := (hF2.cell (p := ⟨ge, oe + k, none⟩) hge (fun x => x)).trans hce
      have hz2' := (hF2.cell (p := ⟨g, o + k * 16, none⟩) hgb2 (fun x => x)).trans hz0
      have hprev2 : ∀ m, k = m + 1 → ∃ y : Int, w2.cell? ⟨g, o + m * 16, none⟩ = some (.int .i64 y) ∧ y < z := fun m hm => by
        obtain ⟨y, hy, hlt⟩ := hprev m hm
        exact ⟨y, (hF2.cell (p := ⟨g, o + m * 16, none⟩) hgb2 (fun x => x)).trans hy, hlt⟩
      have HF2 := Lib.hid hF2
      clear hown HP HL hX hX2 f2 hce hz0 hprev hF2
      have hbb : w1.heap.size ≤ w2.heap.size := HF2.out.size
      go_wp2_with (first | (at_builtin; refine wpList_append_src _ rfl _ _ 22 rfl w1.heap.size 5 i0 (.int .u8 0) 1 1 Tryd.underlying22 hi0 hz0 hz1 hz2 rfl (by decide) _ B.length (bv B) rfl hown2 A3 R.length c3 (bv R) rfl (by simp) hr.srcs (bv_one R) (by unfold maxLen; omega) (by omega) hbb ?_) | fail)
      intro v' w3 hA
      have hA1 := hA.own
      have f3 := hA.fr
      have hg2 : g < w2.heap.size := by omega
      have hge2 : ge < w2.heap.size := by omega
      have hMg : ∀ q, q < w1.heap.size → ¬ Value.ownBlock u6 = some q := fun q hq hx => by have := hown2.lt q hx; omega
      have hce3 := (f3.cell (p := ⟨ge, oe + k, none⟩) hge2 (hMg _ hge)).trans hce2
      have hz3' := (f3.cell (p := ⟨g, o + k * 16, none⟩) hg2 (hMg _ hgb2)).trans hz2'
      have hprev3 : ∀ m, k = m + 1 → ∃ y : Int, w3.cell? ⟨g, o + m * 16, none⟩ = some (.int .i64 y) ∧ y < z := fun m hm => by
        obtain ⟨y, hy, hlt⟩ := hprev2 m hm
        exact ⟨y, (f3.cell (p := ⟨g, o + m * 16, none⟩) hg2 (hMg _ hgb2)).trans hy, hlt⟩
      have HF3 := Lib.hid (HF2.out.upE f3 (fun g hg => (hown2.lt g hg).1))
      rw [← HBL.out] at hA1
      obtain ⟨A4, c4, rfl, -, -⟩ := own_form hA1
      have hA2 : w3.ownsRow w1.heap.size 5 1 (.slice A4 B1.length c4) B1.length (bv B1) := by
        have := HS.out
        subst this
        rw [bv_append]
        exact hA1
      have HA := Lib.hid hA2
      have hbe : ((B1.length : Int) != (B1.length : Int)) = false := by simp
      clear hA hA1 hA2 f3 hown2 hr h1 h2 hce2 hz2' hprev2 hMg hBl hb3 hbb HBL HS hg2 hge2
      have HFIN : Hid (w3.drew.ownsRow w1.heap.size 5 1 (.slice A4 B1.length c4) (segB (ds.take (k + 1))).length (bv (segB (ds.take (k + 1))))) := Lib.hid (by rw [HB1.out]; exact HA.out)
      generalize B1.length = bl at *
      clear HA HB1 hNl HW HR HN
      rcases Nat.eq_zero_or_pos k with hk00 | hpos
      · clear hprev3
        have hz0 : ¬ (0 : Int) < (k : Int) := by omega
        have hkd0 : decide ((0 : Int) < (k : Int)) = false := decide_eq_false hz0
        have hkd2 : decide (0 < k) = false := by rw [hk00]; rfl
        have hkd3 : ¬ 0 < k := by omega
        clear hk00
        go_wp2
        refine wp_region_held_drew (S := fun W => W.cell? ⟨ge, oe + k, none⟩ = some (.int .i64 (bl : Int))) (by kernel_rfl) hce3 (fun hHeld => ?_)
        first | (refine wpAnyH_take (i := 0) (v := undef) (by simp only [List.getElem?_toArray, List.getElem?_cons_zero]; rfl) (by kernel_rfl) (by kernel_rfl) (by kernel_rfl) (by exact fun _ _ _ h => h) (Or.inr ⟨by rfl, rfl⟩) (by assumption) ?_) | (refine wpAnyH_take (i := 0) (v := ?_) (by simp only [List.getElem?_toArray, List.getElem?_cons_zero]; rfl) (by kernel_rfl) (by kernel_rfl) (by kernel_rfl) (by exact fun _ _ _ h => h) (Or.inl ⟨by rfl, ?_⟩) (by assumption) ?_; rotate_left; · (intro w hSw; (try dsimp only at hSw); go_simp; (try with_reducible rfl)))
        try simp only [Act.put, List.setIfInBounds_toArray, List.set_cons_zero, List.set_cons_succ]
        first | (refine wpAnyH_take (i := 1) (v := undef) (by simp only [List.getElem?_toArray, List.getElem?_cons_succ, List.getElem?_cons_zero]; rfl) (by kernel_rfl) (by kernel_rfl) (by kernel_rfl) (by exact fun _ _ _ h => h) (Or.inr ⟨by rfl, rfl⟩) (by assumption) ?_) | (refine wpAnyH_take (i := 1) (v := ?_) (by simp only [List.getElem?_toArray, List.getElem?_cons_succ, List.getElem?_cons_zero]; rfl) (by kernel_rfl) (by kernel_rfl) (by kernel_rfl) (by exact fun _ _ _ h => h) (Or.inl ⟨by rfl, ?_⟩) (by assumption) ?_; rotate_left; · (intro w hSw; (try dsimp only at hSw); go_simp; (try with_reducible rfl)))
        try simp only [Act.put, List.setIfInBounds_toArray, List.set_cons_zero, List.set_cons_succ]
        first | (refine wpAnyH_take (i := 2) (v := undef) (by simp only [List.getElem?_toArray, List.getElem?_cons_succ, List.getElem?_cons_zero]; rfl) (by kernel_rfl) (by kernel_rfl) (by kernel_rfl) (by exact fun _ _ _ h => h) (Or.inr ⟨by rfl, rfl⟩) (by assumption) ?_) | (refine wpAnyH_take (i := 2) (v := ?_) (by simp only [List.getElem?_toArray, List.getElem?_cons_succ, List.getElem?_cons_zero]; rfl) (by kernel_rfl) (by kernel_rfl) (by kernel_rfl) (by exact fun _ _ _ h => h) (Or.inl ⟨by rfl, ?_⟩) (by assumption) ?_; rotate_left; · (intro w hSw; (try dsimp only at hSw); go_simp; (try with_reducible rfl)))
        try simp only [Act.put, List.setIfInBounds_toArray, List.set_cons_zero, List.set_cons_succ]
        first | (refine wpAnyH_take (i := 3) (v := undef) (by simp only [List.getElem?_toArray, List.getElem?_cons_succ, List.getElem?_cons_zero]; rfl) (by kernel_rfl) (by kernel_rfl) (by kernel_rfl) (by exact fun _ _ _ h => h) (Or.inr ⟨by rfl, rfl⟩) (by assumption) ?_) | (refine wpAnyH_take (i := 3) (v := ?_) (by simp only [List.getElem?_toArray, List.getElem?_cons_succ, List.getElem?_cons_zero]; rfl) (by kernel_rfl) (by kernel_rfl) (by kernel_rfl) (by exact fun _ _ _ h => h) (Or.inl ⟨by rfl, ?_⟩) (by assumption) ?_; rotate_left; · (intro w hSw; (try dsimp only at hSw); go_simp; (try with_reducible rfl)))
        try simp only [Act.put, List.setIfInBounds_toArray, List.set_cons_zero, List.set_cons_succ]
        first | (refine wpAnyH_take (i := 4) (v := undef) (by simp only [List.getElem?_toArray, List.getElem?_cons_succ, List.getElem?_cons_zero]; rfl) (by kernel_rfl) (by kernel_rfl) (by kernel_rfl) (by exact fun _ _ _ h => h) (Or.inr ⟨by rfl, rfl⟩) (by assumption) ?_) | (refine wpAnyH_take (i := 4) (v := ?_) (by simp only [List.getElem?_toArray, List.getElem?_cons_succ, List.getElem?_cons_zero]; rfl) (by kernel_rfl) (by kernel_rfl) (by kernel_rfl) (by exact fun _ _ _ h => h) (Or.inl ⟨by rfl, ?_⟩) (by assumption) ?_; rotate_left; · (intro w hSw; (try dsimp only at hSw); go_simp; (try with_reducible rfl)))
        try simp only [Act.put, List.setIfInBounds_toArray, List.set_cons_zero, List.set_cons_succ]
        first | (refine wpAnyH_take (i := 5) (v := undef) (by simp only [List.getElem?_toArray, List.getElem?_cons_succ, List.getElem?_cons_zero]; rfl) (by kernel_rfl) (by kernel_rfl) (by kernel_rfl) (by exact fun _ _ _ h => h) (Or.inr ⟨by rfl, rfl⟩) (by assumption) ?_) | (refine wpAnyH_take (i := 5) (v := ?_) (by simp only [List.getElem?_toArray, List.getElem?_cons_succ, List.getElem?_cons_zero]; rfl) (by kernel_rfl) (by kernel_rfl) (by kernel_rfl) (by exact fun _ _ _ h => h) (Or.inl ⟨by rfl, ?_⟩) (by assumption) ?_; rotate_left; · (intro w hSw; (try dsimp only at hSw); go_simp; (try with_reducible rfl)))
        try simp only [Act.put, List.setIfInBounds_toArray, List.set_cons_zero, List.set_cons_succ]
        first | (refine wpAnyH_take (i := 6) (v := undef) (by simp only [List.getElem?_toArray, List.getElem?_cons_succ, List.getElem?_cons_zero]; rfl) (by kernel_rfl) (by kernel_rfl) (by kernel_rfl) (by exact fun _ _ _ h => h) (Or.inr ⟨by rfl, rfl⟩) (by assumption) ?_) | (refine wpAnyH_take (i := 6) (v := ?_) (by simp only [List.getElem?_toArray, List.getElem?_cons_succ, List.getElem?_cons_zero]; rfl) (by kernel_rfl) (by kernel_rfl) (by kernel_rfl) (by exact fun _ _ _ h => h) (Or.inl ⟨by rfl, ?_⟩) (by assumption) ?_; rotate_left; · (intro w hSw; (try dsimp only at hSw); go_simp; (try with_reducible rfl)))
        try simp only [Act.put, List.setIfInBounds_toArray, List.set_cons_zero, List.set_cons_succ]
        first | (refine wpAnyH_take (i := 7) (v := undef) (by simp only [List.getElem?_toArray, List.getElem?_cons_succ, List.getElem?_cons_zero]; rfl) (by kernel_rfl) (by kernel_rfl) (by kernel_rfl) (by exact fun _ _ _ h => h) (Or.inr ⟨by rfl, rfl⟩) (by assumption) ?_) | (refine wpAnyH_take (i := 7) (v := ?_) (by simp only [List.getElem?_toArray, List.getElem?_cons_succ, List.getElem?_cons_zero]; rfl) (by kernel_rfl) (by kernel_rfl) (by kernel_rfl) (by exact fun _ _ _ h => h) (Or.inl ⟨by rfl, ?_⟩) (by assumption) ?_; rotate_left; · (intro w hSw; (try dsimp only at hSw); go_simp; (try with_reducible rfl)))
        try simp only [Act.put, List.setIfInBounds_toArray, List.set_cons_zero, List.set_cons_succ]
        first | (refine wpAnyH_take (i := 8) (v := undef) (by simp only [List.getElem?_toArray, List.getElem?_cons_succ, List.getElem?_cons_zero]; rfl) (by kernel_rfl) (by kernel_rfl) (by kernel_rfl) (by exact fun _ _ _ h => h) (Or.inr ⟨by rfl, rfl⟩) (by assumption) ?_) | (refine wpAnyH_take (i := 8) (v := ?_) (by simp only [List.getElem?_toArray, List.getElem?_cons_succ, List.getElem?_cons_zero]; rfl) (by kernel_rfl) (by kernel_rfl) (by kernel_rfl) (by exact fun _ _ _ h => h) (Or.inl ⟨by rfl, ?_⟩) (by assumption) ?_; rotate_left; · (intro w hSw; (try dsimp only at hSw); go_simp; (try with_reducible rfl)))
        try simp only [Act.put, List.setIfInBounds_toArray, List.set_cons_zero, List.set_cons_succ]
        first | (refine wpAnyH_take (i := 9) (v := undef) (by simp only [List.getElem?_toArray, List.getElem?_cons_succ, List.getElem?_cons_zero]; rfl) (by kernel_rfl) (by kernel_rfl) (by kernel_rfl) (by exact fun _ _ _ h => h) (Or.inr ⟨by rfl, rfl⟩) (by assumption) ?_) | (refine wpAnyH_take (i := 9) (v := ?_) (by simp only [List.getElem?_toArray, List.getElem?_cons_succ, List.getElem?_cons_zero]; rfl) (by kernel_rfl) (by kernel_rfl) (by kernel_rfl) (by exact fun _ _ _ h => h) (Or.inl ⟨by rfl, ?_⟩) (by assumption) ?_; rotate_left; · (intro w hSw; (try dsimp only at hSw); go_simp; (try with_reducible rfl)))
        try simp only [Act.put, List.setIfInBounds_toArray, List.set_cons_zero, List.set_cons_succ]
        first | (refine wpAnyH_take (i := 10) (v := undef) (by simp only [List.getElem?_toArray, List.getElem?_cons_succ, List.getElem?_cons_zero]; rfl) (by kernel_rfl) (by kernel_rfl) (by kernel_rfl) (by exact fun _ _ _ h => h) (Or.inr ⟨by rfl, rfl⟩) (by assumption) ?_) | (refine wpAnyH_take (i := 10) (v := ?_) (by simp only [List.getElem?_toArray, List.getElem?_cons_succ, List.getElem?_cons_zero]; rfl) (by kernel_rfl) (by kernel_rfl) (by kernel_rfl) (by exact fun _ _ _ h => h) (Or.inl ⟨by rfl, ?_⟩) (by assumption) ?_; rotate_left; · (intro w hSw; (try dsimp only at hSw); go_simp; (try with_reducible rfl)))
        try simp only [Act.put, List.setIfInBounds_toArray, List.set_cons_zero, List.set_cons_succ]
        first | (refine wpAnyH_take (i := 11) (v := undef) (by simp only [List.getElem?_toArray, List.getElem?_cons_succ, List.getElem?_cons_zero]; rfl) (by kernel_rfl) (by kernel_rfl) (by kernel_rfl) (by exact fun _ _ _ h => h) (Or.inr ⟨by rfl, rfl⟩) (by assumption) ?_) | (refine wpAnyH_take (i := 11) (v := ?_) (by simp only [List.getElem?_toArray, List.getElem?_cons_succ, List.getElem?_cons_zero]; rfl) (by kernel_rfl) (by kernel_rfl) (by kernel_rfl) (by exact fun _ _ _ h => h) (Or.inl ⟨by rfl, ?_⟩) (by assumption) ?_; rotate_left; · (intro w hSw; (try dsimp only at hSw); go_simp; (try with_reducible rfl)))
        try simp only [Act.put, List.setIfInBounds_toArray, List.set_cons_zero, List.set_cons_succ]
        first | (refine wpAnyH_take (i := 12) (v := undef) (by simp only [List.getElem?_toArray, List.getElem?_cons_succ, List.getElem?_cons_zero]; rfl) (by kernel_rfl) (by kernel_rfl) (by kernel_rfl) (by exact fun _ _ _ h => h) (Or.inr ⟨by rfl, rfl⟩) (by assumption) ?_) | (refine wpAnyH_take (i := 12) (v := ?_) (by simp only [List.getElem?_toArray, List.getElem?_cons_succ, List.getElem?_cons_zero]; rfl) (by kernel_rfl) (by kernel_rfl) (by kernel_rfl) (by exact fun _ _ _ h => h) (Or.inl ⟨by rfl, ?_⟩) (by assumption) ?_; rotate_left; · (intro w hSw; (try dsimp only at hSw); go_simp; (try with_reducible rfl)))
        try simp only [Act.put, List.setIfInBounds_toArray, List.set_cons_zero, List.set_cons_succ]
        first | (refine wpAnyH_take (i := 13) (v := undef) (by simp only [List.getElem?_toArray, List.getElem?_cons_succ, List.getElem?_cons_zero]; rfl) (by kernel_rfl) (by kernel_rfl) (by kernel_rfl) (by exact fun _ _ _ h => h) (Or.inr ⟨by rfl, rfl⟩) (by assumption) ?_) | (refine wpAnyH_take (i := 13) (v := ?_) (by simp only [List.getElem?_toArray, List.getElem?_cons_succ, List.getElem?_cons_zero]; rfl) (by kernel_rfl) (by kernel_rfl) (by kernel_rfl) (by exact fun _ _ _ h => h) (Or.inl ⟨by rfl, ?_⟩) (by assumption) ?_; rotate_left; · (intro w hSw; (try dsimp only at hSw); go_simp; (try with_reducible rfl)))
        try simp only [Act.put, List.setIfInBounds_toArray, List.set_cons_zero, List.set_cons_succ]
        first | (refine wpAnyH_take (i := 14) (v := undef) (by simp only [List.getElem?_toArray, List.getElem?_cons_succ, List.getElem?_cons_zero]; rfl) (by kernel_rfl) (by kernel_rfl) (by kernel_rfl) (by exact fun _ _ _ h => h) (Or.inr ⟨by rfl, rfl⟩) (by assumption) ?_) | (refine wpAnyH_take (i := 14) (v := ?_) (by simp only [List.getElem?_toArray, List.getElem?_cons_succ, List.getElem?_cons_zero]; rfl) (by kernel_rfl) (by kernel_rfl) (by kernel_rfl) (by exact fun _ _ _ h => h) (Or.inl ⟨by rfl, ?_⟩) (by assumption) ?_; rotate_left; · (intro w hSw; (try dsimp only at hSw); go_simp; (try with_reducible rfl)))
        try simp only [Act.put, List.setIfInBounds_toArray, List.set_cons_zero, List.set_cons_succ]
        first | (refine wpAnyH_take (i := 15) (v := undef) (by simp only [List.getElem?_toArray, List.getElem?_cons_succ, List.getElem?_cons_zero]; rfl) (by kernel_rfl) (by kernel_rfl) (by kernel_rfl) (by exact fun _ _ _ h => h) (Or.inr ⟨by rfl, rfl⟩) (by assumption) ?_) | (refine wpAnyH_take (i := 15) (v := ?_) (by simp only [List.getElem?_toArray, List.getElem?_cons_succ, List.getElem?_cons_zero]; rfl) (by kernel_rfl) (by kernel_rfl) (by kernel_rfl) (by exact fun _ _ _ h => h) (Or.inl ⟨by rfl, ?_⟩) (by assumption) ?_; rotate_left; · (intro w hSw; (try dsimp only at hSw); go_simp; (try with_reducible rfl)))
        try simp only [Act.put, List.setIfInBounds_toArray, List.set_cons_zero, List.set_cons_succ]
        first | (refine wpAnyH_take (i := 16) (v := undef) (by simp only [List.getElem?_toArray, List.getElem?_cons_succ, List.getElem?_cons_zero]; rfl) (by kernel_rfl) (by kernel_rfl) (by kernel_rfl) (by exact fun _ _ _ h => h) (Or.inr ⟨by rfl, rfl⟩) (by assumption) ?_) | (refine wpAnyH_take (i := 16) (v := ?_) (by simp only [List.getElem?_toArray, List.getElem?_cons_succ, List.getElem?_cons_zero]; rfl) (by kernel_rfl) (by kernel_rfl) (by kernel_rfl) (by exact fun _ _ _ h => h) (Or.inl ⟨by rfl, ?_⟩) (by assumption) ?_; rotate_left; · (intro w hSw; (try dsimp only at hSw); go_simp; (try with_reducible rfl)))
        try simp only [Act.put, List.setIfInBounds_toArray, List.set_cons_zero, List.set_cons_succ]
        first | (refine wpAnyH_take (i := 17) (v := undef) (by simp only [List.getElem?_toArray, List.getElem?_cons_succ, List.getElem?_cons_zero]; rfl) (by kernel_rfl) (by kernel_rfl) (by kernel_rfl) (by exact fun _ _ _ h => h) (Or.inr ⟨by rfl, rfl⟩) (by assumption) ?_) | (refine wpAnyH_take (i := 17) (v := ?_) (by simp only [List.getElem?_toArray, List.getElem?_cons_succ, List.getElem?_cons_zero]; rfl) (by kernel_rfl) (by kernel_rfl) (by kernel_rfl) (by exact fun _ _ _ h => h) (Or.inl ⟨by rfl, ?_⟩) (by assumption) ?_; rotate_left; · (intro w hSw; (try dsimp only at hSw); go_simp; (try with_reducible rfl)))
        try simp only [Act.put, List.setIfInBounds_toArray, List.set_cons_zero, List.set_cons_succ]
        first | (refine wpAnyH_take (i := 18) (v := undef) (by simp only [List.getElem?_toArray, List.getElem?_cons_succ, List.getElem?_cons_zero]; rfl) (by kernel_rfl) (by kernel_rfl) (by kernel_rfl) (by exact fun _ _ _ h => h) (Or.inr ⟨by rfl, rfl⟩) (by assumption) ?_) | (refine wpAnyH_take (i := 18) (v := ?_) (by simp only [List.getElem?_toArray, List.getElem?_cons_succ, List.getElem?_cons_zero]; rfl) (by kernel_rfl) (by kernel_rfl) (by kernel_rfl) (by exact fun _ _ _ h => h) (Or.inl ⟨by rfl, ?_⟩) (by assumption) ?_; rotate_left; · (intro w hSw; (try dsimp only at hSw); go_simp; (try with_reducible rfl)))
        try simp only [Act.put, List.setIfInBounds_toArray, List.set_cons_zero, List.set_cons_succ]
        first | (refine wpAnyH_take (i := 19) (v := undef) (by simp only [List.getElem?_toArray, List.getElem?_cons_succ, List.getElem?_cons_zero]; rfl) (by kernel_rfl) (by kernel_rfl) (by kernel_rfl) (by exact fun _ _ _ h => h) (Or.inr ⟨by rfl, rfl⟩) (by assumption) ?_) | (refine wpAnyH_take (i := 19) (v := ?_) (by simp only [List.getElem?_toArray, List.getElem?_cons_succ, List.getElem?_cons_zero]; rfl) (by kernel_rfl) (by kernel_rfl) (by kernel_rfl) (by exact fun _ _ _ h => h) (Or.inl ⟨by rfl, ?_⟩) (by assumption) ?_; rotate_left; · (intro w hSw; (try dsimp only at hSw); go_simp; (try with_reducible rfl)))
        try simp only [Act.put, List.setIfInBounds_toArray, List.set_cons_zero, List.set_cons_succ]
        first | (refine wpAnyH_take (i := 20) (v := undef) (by simp only [List.getElem?_toArray, List.getElem?_cons_succ, List.getElem?_cons_zero]; rfl) (by kernel_rfl) (by kernel_rfl) (by kernel_rfl) (by exact fun _ _ _ h => h) (Or.inr ⟨by rfl, rfl⟩) (by assumption) ?_) | (refine wpAnyH_take (i := 20) (v := ?_) (by simp only [List.getElem?_toArray, List.getElem?_cons_succ, List.getElem?_cons_zero]; rfl) (by kernel_rfl) (by kernel_rfl) (by kernel_rfl) (by exact fun _ _ _ h => h) (Or.inl ⟨by rfl, ?_⟩) (by assumption) ?_; rotate_left; · (intro w hSw; (try dsimp only at hSw); go_simp; (try with_reducible rfl)))
        try simp only [Act.put, List.setIfInBounds_toArray, List.set_cons_zero, List.set_cons_succ]
        first | (refine wpAnyH_take (i := 21) (v := undef) (by simp only [List.getElem?_toArray, List.getElem?_cons_succ, List.getElem?_cons_zero]; rfl) (by kernel_rfl) (by kernel_rfl) (by kernel_rfl) (by exact fun _ _ _ h => h) (Or.inr ⟨by rfl, rfl⟩) (by assumption) ?_) | (refine wpAnyH_take (i := 21) (v := ?_) (by simp only [List.getElem?_toArray, List.getElem?_cons_succ, List.getElem?_cons_zero]; rfl) (by kernel_rfl) (by kernel_rfl) (by kernel_rfl) (by exact fun _ _ _ h => h) (Or.inl ⟨by rfl, ?_⟩) (by assumption) ?_; rotate_left; · (intro w hSw; (try dsimp only at hSw); go_simp; (try with_reducible rfl)))
        try simp only [Act.put, List.setIfInBounds_toArray, List.set_cons_zero, List.set_cons_succ]
        first | (refine wpAnyH_take (i := 22) (v := undef) (by simp only [List.getElem?_toArray, List.getElem?_cons_succ, List.getElem?_cons_zero]; rfl) (by kernel_rfl) (by kernel_rfl) (by kernel_rfl) (by exact fun _ _ _ h => h) (Or.inr ⟨by rfl, rfl⟩) (by assumption) ?_) | (refine wpAnyH_take (i := 22) (v := ?_) (by simp only [List.getElem?_toArray, List.getElem?_cons_succ, List.getElem?_cons_zero]; rfl) (by kernel_rfl) (by kernel_rfl) (by kernel_rfl) (by exact fun _ _ _ h => h) (Or.inl ⟨by rfl, ?_⟩) (by assumption) ?_; rotate_left; · (intro w hSw; (try dsimp only at hSw); go_simp; (try with_reducible rfl)))
        try simp only [Act.put, List.setIfInBounds_toArray, List.set_cons_zero, List.set_cons_succ]
        first | (refine wpAnyH_take (i := 23) (v := undef) (by simp only [List.getElem?_toArray, List.getElem?_cons_succ, List.getElem?_cons_zero]; rfl) (by kernel_rfl) (by kernel_rfl) (by kernel_rfl) (by exact fun _ _ _ h => h) (Or.inr ⟨by rfl, rfl⟩) (by assumption) ?_) | (refine wpAnyH_take (i := 23) (v := ?_) (by simp only [List.getElem?_toArray, List.getElem?_cons_succ, List.getElem?_cons_zero]; rfl) (by kernel_rfl) (by kernel_rfl) (by kernel_rfl) (by exact fun _ _ _ h => h) (Or.inl ⟨by rfl, ?_⟩) (by assumption) ?_; rotate_left; · (intro w hSw; (try dsimp only at hSw); go_simp; (try with_reducible rfl)))
        try simp only [Act.put, List.setIfInBounds_toArray, List.set_cons_zero, List.set_cons_succ]
        first | (refine wpAnyH_take (i := 24) (v := undef) (by simp only [List.getElem?_toArray, List.getElem?_cons_succ, List.getElem?_cons_zero]; rfl) (by kernel_rfl) (by kernel_rfl) (by kernel_rfl) (by exact fun _ _ _ h => h) (Or.inr ⟨by rfl, rfl⟩) (by assumption) ?_) | (refine wpAnyH_take (i := 24) (v := ?_) (by simp only [List.getElem?_toArray, List.getElem?_cons_succ, List.getElem?_cons_zero]; rfl) (by kernel_rfl) (by kernel_rfl) (by kernel_rfl) (by exact fun _ _ _ h => h) (Or.inl ⟨by rfl, ?_⟩) (by assumption) ?_; rotate_left; · (intro w hSw; (try dsimp only at hSw); go_simp; (try with_reducible rfl)))
        try simp only [Act.put, List.setIfInBounds_toArray, List.set_cons_zero, List.set_cons_succ]
        first | (refine wpAnyH_take (i := 25) (v := undef) (by simp only [List.getElem?_toArray, List.getElem?_cons_succ, List.getElem?_cons_zero]; rfl) (by kernel_rfl) (by kernel_rfl) (by kernel_rfl) (by exact fun _ _ _ h => h) (Or.inr ⟨by rfl, rfl⟩) (by assumption) ?_) | (refine wpAnyH_take (i := 25) (v := ?_) (by simp only [List.getElem?_toArray, List.getElem?_cons_succ, List.getElem?_cons_zero]; rfl) (by kernel_rfl) (by kernel_rfl) (by kernel_rfl) (by exact fun _ _ _ h => h) (Or.inl ⟨by rfl, ?_⟩) (by assumption) ?_; rotate_left; · (intro w hSw; (try dsimp only at hSw); go_simp; (try with_reducible rfl)))
        try simp only [Act.put, List.setIfInBounds_toArray, List.set_cons_zero, List.set_cons_succ]
        first | (refine wpAnyH_take (i := 26) (v := undef) (by simp only [List.getElem?_toArray, List.getElem?_cons_succ, List.getElem?_cons_zero]; rfl) (by kernel_rfl) (by kernel_rfl) (by kernel_rfl) (by exact fun _ _ _ h => h) (Or.inr ⟨by rfl, rfl⟩) (by assumption) ?_) | (refine wpAnyH_take (i := 26) (v := ?_) (by simp only [List.getElem?_toArray, List.getElem?_cons_succ, List.getElem?_cons_zero]; rfl) (by kernel_rfl) (by kernel_rfl) (by kernel_rfl) (by exact fun _ _ _ h => h) (Or.inl ⟨by rfl, ?_⟩) (by assumption) ?_; rotate_left; · (intro w hSw; (try dsimp only at hSw); go_simp; (try with_reducible rfl)))
        try simp only [Act.put, List.setIfInBounds_toArray, List.set_cons_zero, List.set_cons_succ]
        first | (refine wpAnyH_take (i := 27) (v := undef) (by simp only [List.getElem?_toArray, List.getElem?_cons_succ, List.getElem?_cons_zero]; rfl) (by kernel_rfl) (by kernel_rfl) (by kernel_rfl) (by exact fun _ _ _ h => h) (Or.inr ⟨by rfl, rfl⟩) (by assumption) ?_) | (refine wpAnyH_take (i := 27) (v := ?_) (by simp only [List.getElem?_toArray, List.getElem?_cons_succ, List.getElem?_cons_zero]; rfl) (by kernel_rfl) (by kernel_rfl) (by kernel_rfl) (by exact fun _ _ _ h => h) (Or.inl ⟨by rfl, ?_⟩) (by assumption) ?_; rotate_left; · (intro w hSw; (try dsimp only at hSw); go_simp; (try with_reducible rfl)))
        try simp only [Act.put, List.setIfInBounds_toArray, List.set_cons_zero, List.set_cons_succ]
        first | (refine wpAnyH_take (i := 28) (v := undef) (by simp only [List.getElem?_toArray, List.getElem?_cons_succ, List.getElem?_cons_zero]; rfl) (by kernel_rfl) (by kernel_rfl) (by kernel_rfl) (by exact fun _ _ _ h => h) (Or.inr ⟨by rfl, rfl⟩) (by assumption) ?_) | (refine wpAnyH_take (i := 28) (v := ?_) (by simp only [List.getElem?_toArray, List.getElem?_cons_succ, List.getElem?_cons_zero]; rfl) (by kernel_rfl) (by kernel_rfl) (by kernel_rfl) (by exact fun _ _ _ h => h) (Or.inl ⟨by rfl, ?_⟩) (by assumption) ?_; rotate_left; · (intro w hSw; (try dsimp only at hSw); go_simp; (try with_reducible rfl)))
        try simp only [Act.put, List.setIfInBounds_toArray, List.set_cons_zero, List.set_cons_succ]
        refine wpAnyH_done (by kernel_rfl) ?_ _
        go_wp2
        go_roundw
        case rel => exact ⟨k + 1, by omega, by go_num, HF3.out.drew, HFIN.out⟩
        case measure => simp [intOf]; omega
      · obtain ⟨m, hm⟩ : ∃ m, k = m + 1 := ⟨k - 1, by omega⟩
        obtain ⟨y, hy, hyz⟩ := hprev3 m hm
        clear hprev3
        have hp0 : (0 : Int) < (k : Int) := by omega
        have hm0 : (0 : Int) ≤ (m : Int) := by omega
        have hm1 : (m : Int) < (ds.length : Int) := by omega
        have hmn : m ≤ 1000000000 := by omega
        have hkd1 : decide ((0 : Int) < (k : Int)) = true := decide_eq_true hp0
        have hkd2 : decide (0 < k) = true := decide_eq_true hpos
        have hs2 : wrap64 ((k : Int) - 1) = (m : Int) := by rw [hm]; exact wrapm1 hmn
        have hs4 : IntKind.i64.wrap ((k : Int) - 1) = (m : Int) := by rw [IntKind.wrap_i64]; unfold wrap64 at hs2; exact hs2
        have hle : ¬ z ≤ y := by omega
        clear hm hmn
        go_wp2
        go_region_held3 (fun W => W.cell? ⟨ge, oe + k, none⟩ = some (.int .i64 (bl : Int)) ∧ W.cell? ⟨g, o + k * 16, none⟩ = some (.int .i64 z) ∧ W.cell? ⟨g, o + m * 16, none⟩ = some (.int .i64 y)) (first | exact ⟨hce3, hz3', hy⟩) (fail)
        go_wp2
        go_roundw
        case rel => exact ⟨k + 1, by omega, by go_num, HF3.out.drew, HFIN.out⟩
        case measure => simp [intOf]; omega
    · obtain rfl : k = ds.length := by omega
      rw [List.take_of_length_le (Nat.le_refl _)] at hown
      obtain ⟨A4, c4, rfl, -, -⟩ := own_form hown
      have hr4 := own_rd hown
      have hr2 : Rd w 0 w.heap.size A (segB ds) := by
        have h2 := HR.out.take (n := (segB ds).length)
        rwa [G1.out] at h2
      have hfine : ∀ d ∈ ds, Fine d.1 d.2 := fun d hd => by
        have hrd := G3.out d hd
        exact Fine.right hrd.1 hrd.2.1 (fun q hq => ⟨(hrd.2.2 q hq).1, by rw [(hrd.2.2 q hq).2]; omega⟩)
      have hll : (segB ds).length ≤ 1000000000 := by rw [HN.out]; omega
      have hsc2 := fun W (F : Fr NoB w W) => scan_calls A (segB ds) c 0 w.heap.size W (hr2.fr F (Nat.le_refl _) (fun _ _ _ x => x)) F.size (by rw [HN.out]; omega) hcm hll (HW.out.fr F)
      have HFW := F
      have hsb := fun W (F : Fr NoB wr W) => same_again A4 A (segB ds) c4 c _ _ _ _ W (hr4.fr F (Nat.le_refl _) (fun _ _ _ x => x)) (hr2.fr ((F1.out.then HFW.out).then F) (Nat.le_refl _) (fun _ _ _ x => x)) (by omega)
      unfold Scanned at hsc2
      simp only [G2.out, HN.out] at hsc2 hsb
      rw [HN.out]
      have HS2 := Lib.hid hsc2
      have HSB := Lib.hid hsb
      have hss := fun A' c' lo' hi' W (F : Fr NoB w1 W) (h2 : RdS W lo' hi' A' ds) (hh2 : hi' ≤ W.heap.size) => samess_calls A' A1 ds c' c1 lo' hi' _ _ W h2 hh2 (HRD.out.fr F (Nat.le_refl _) (fun _ _ _ x => x)) F.size (by omega) hfine
      have HSS := Lib.hid hss
      clear hsc2 hsb hss hown hr4 hr2 hll G1 G3 G4 HE HEL HN HRD HSC hfine
      have hnc : (n : Int) ≤ (c : Int) := by omega
      go_wp2_with (fail)
      refine (HS2.out wr (F1.out.then F.out)).mono ?_
      rintro e w4 ⟨A5, c5, A6, c6, LL2, rfl, hLL, hD, f4⟩
      have hlen : LL2.length = ds.length := by have := congrArg List.length hLL; simpa using this
      have hRD := hD.rd
      rw [hLL] at hRD
      rw [hlen]
      have HR5 := Lib.hid hRD
      clear hD hLL hRD hlen
      have hnn : ((n : Int) == (n : Int)) = true := by simp
      go_wp2_with (fail)
      refine (HSB.out w4 f4).mono ?_
      rintro e w5 ⟨rfl, f5⟩
      go_wp2_with (fail)
      refine (HSS.out A5 c5 _ _ w5 ((F.out.then f4).then f5) (HR5.out.fr f5 (Nat.le_refl _) (fun _ _ _ x => x)) f5.size).mono ?_
      rintro e w6 ⟨rfl, f6⟩
      go_wp2
      go_ret
      exact ⟨rfl, (((F1.out.then F.out).then f4).then f5).then f6⟩
end Go.Proofs.YtmlmbahimklfiaaDoor
