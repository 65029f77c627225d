/-
  Ayg: the program's get of a reply (gen_yget.py).
-/
import Derived.Test.YtlckgkpgllhpbaaDoorAyw
namespace Go.Proofs.YtlckgkpgllhpbaaDoor
open Go.RowKit

theorem rsize22 : (Tryd.prog.info? 43).map (·.size) = some 22 := by kernel_rfl
theorem stsize10 : (Tryd.prog.info? 37).map (·.size) = some 10 := by kernel_rfl
theorem info_str : (Tryd.prog.info? 9).map (fun i => (i.zero, i.size, i.bytes)) = some (some (.string ⟨#[]⟩), 1, 16) := by kernel_rfl
theorem info_reply : (Tryd.prog.info? 43).map (fun i => (i.zero, i.size, i.bytes)) = some (some (.agg #[.int .u8 0, .int .i64 0, .int .i64 0, .int .i64 0, .int .i64 0, .int .i64 0, .string ⟨#[]⟩, .slice none 0 0, .int .i64 0, .int .i64 0, .int .i64 0, .int .i64 0, .int .i64 0, .int .i64 0, .int .i64 0, .int .i64 0, .int .i64 0, .int .i64 0, .slice none 0 0, .int .i64 0, .slice none 0 0, .slice none 0 0]), 22, 248) := by kernel_rfl
/-- What get hands back. -/
def GetRes (deep : Bool) (lo pr : Nat) (st : RSt) (w : World) (e : Ending) (w' : World) : Prop :=
  ∃ (pl : Py) (PL : List (Fy × Py)), e = .returned (.tuple #[yval (rdYd deep st).1.1 pl PL.length, .bool (rdYd deep st).1.2.2]) ∧ (rdYd deep st).1.2.1 = PL.map (fun x => (x.1, 0)) ∧ Rdr w' lo pr (rdYd deep st).2 ∧ Fr (OneB pr) w w' ∧ Rows w' w.heap.size (rowsYd (rdYd deep st).1.1 pl PL) ∧ (deep = false → pl.P = none ∧ pl.e = 0)
theorem GetRes.flat {lo pr : Nat} {st : RSt} {w : World} {e : Ending} {w' : World} (h : GetRes false lo pr st w e w') : ∃ pl, e = .returned (.tuple #[yval (rdYp st).1.1 pl 0, .bool (rdYp st).1.2]) ∧ Rdr w' lo pr (rdYp st).2 ∧ Fr (OneB pr) w w' ∧ Rows w' w.heap.size (rowsY (rdYp st).1.1 pl) := by
  obtain ⟨pl, PL, rfl, hp, a, f, r, -⟩ := h
  have h0 : PL = [] := by
    have : (rdYd false st).1.2.1 = [] := rfl
    rw [this] at hp
    simpa using hp.symm
  subst h0
  exact ⟨pl, rfl, a, f, r.tail⟩
set_option maxHeartbeats 12800000 in
set_option maxRecDepth 8000 in
theorem yget_core (deep : Bool) (lo pr : Nat) (st : RSt) (w : World) (ha : Rdr w lo pr st) (h1 : lo ≤ pr) (hlim : RLim st)
    (hrec : deep = true → ∀ (W : World) (s : RSt), Rdr W lo pr s → RLim s → Calls Tryd.prog 54 #[.pointer (some ⟨pr, 0, none⟩), .bool false] W (GetRes false lo pr s W)) :
    Calls Tryd.prog 54 #[.pointer (some ⟨pr, 0, none⟩), .bool deep] w (GetRes deep lo pr st w) := by
  obtain ⟨x0, s0, g0⟩ : ∃ x t, rByte st = (x, t) := ⟨_, _, rfl⟩
  obtain ⟨x1, s1, g1⟩ : ∃ x t, rInt s0 = (x, t) := ⟨_, _, rfl⟩
  obtain ⟨x2, s2, g2⟩ : ∃ x t, rInt s1 = (x, t) := ⟨_, _, rfl⟩
  obtain ⟨x3, s3, g3⟩ : ∃ x t, rInt s2 = (x, t) := ⟨_, _, rfl⟩
  obtain ⟨x4, s4, g4⟩ : ∃ x t, rInt s3 = (x, t) := ⟨_, _, rfl⟩
  obtain ⟨x5, s5, g5⟩ : ∃ x t, rInt s4 = (x, t) := ⟨_, _, rfl⟩
  obtain ⟨x6, s6, g6⟩ : ∃ x t, rBytes s5 220 = (x, t) := ⟨_, _, rfl⟩
  obtain ⟨x7, s7, g7⟩ : ∃ x t, rBytes s6 1000 = (x, t) := ⟨_, _, rfl⟩
  obtain ⟨sl, s8, g8⟩ : ∃ x t, rdIs 10 s7 = (x, t) := ⟨_, _, rfl⟩
  obtain ⟨nn, s9, g9⟩ : ∃ x t, rCount s8 500 = (x, t) := ⟨_, _, rfl⟩
  have hrg := rCount_range s8 500 (by omega)
  rw [g9] at hrg
  obtain ⟨n, rfl⟩ : ∃ n : Nat, nn = (n : Int) := ⟨nn.toNat, by simp only at hrg; omega⟩
  have hn500 : n ≤ 500 := by simp only at hrg; omega
  obtain ⟨tl, s10, g10⟩ : ∃ x t, rdTs n s9 = (x, t) := ⟨_, _, rfl⟩
  obtain ⟨cb, s11, g11⟩ : ∃ x t, rBytes s10 1048576 = (x, t) := ⟨_, _, rfl⟩
  obtain ⟨cf, cok, gc⟩ : ∃ x t, rdCf cb = (x, t) := ⟨_, _, rfl⟩
  obtain ⟨mm, s12, g12⟩ : ∃ x t, rCount s11 16 = (x, t) := ⟨_, _, rfl⟩
  have hrg2 := rCount_range s11 16 (by omega)
  rw [g12] at hrg2
  obtain ⟨m, rfl⟩ : ∃ m : Nat, mm = (m : Int) := ⟨mm.toNat, by simp only at hrg2; omega⟩
  have hm16 : m ≤ 16 := by simp only at hrg2; omega
  have h5 : rdIs 5 s0 = ([x1, x2, x3, x4, x5], s5) := by simp [rdIs, g1, g2, g3, g4, g5]
  have hy0 : rdY0 st = ((⟨x0.toNat, [x1, x2, x3, x4, x5], x6, x7, sl, tl, cf⟩, cok), s11) := by simp only [rdY0, g0, h5, g6, g7, g8, g9, g10, g11, gc, Int.toNat_natCast]
  have HFIN : Hid (rdYd deep st = if deep then ((⟨x0.toNat, [x1, x2, x3, x4, x5], x6, x7, sl, tl, cf⟩, (rdYs m s12).1.1, cok && (rdYs m s12).1.2), (rdYs m s12).2) else ((⟨x0.toNat, [x1, x2, x3, x4, x5], x6, x7, sl, tl, cf⟩, [], cok && decide ((m : Int) = 0)), s12)) := by show _ = _; simp only [rdYd, hy0, g12, Int.toNat_natCast]
  have l0 := rByte_lim hlim; rw [g0] at l0
  have l1 := rInt_lim l0; rw [g1] at l1
  have l2 := rInt_lim l1; rw [g2] at l2
  have l3 := rInt_lim l2; rw [g3] at l3
  have l4 := rInt_lim l3; rw [g4] at l4
  have l5 := rInt_lim l4; rw [g5] at l5
  have l6 := rBytes_lim (m := 220) l5; rw [g6] at l6
  have l7 := rBytes_lim (m := 1000) l6; rw [g7] at l7
  have l8 := rdIs_lim l7 10; rw [g8] at l8
  have l9 := rCount_lim (m := 500) l8; rw [g9] at l9
  have l10 := rdTs_lim l9 n; rw [g10] at l10
  have l11 := rBytes_lim (m := 1048576) l10; rw [g11] at l11
  have l12 := rCount_lim (m := 16) l11; rw [g12] at l12
  simp only at l0 l1 l2 l3 l4 l5 l6 l7 l8 l9 l10 l11 l12
  have hb0 := fun W (r : Rdr W lo pr st) => rByte_calls lo pr st W r
  rw [g0] at hb0
  have hb1 := fun W (r : Rdr W lo pr s0) => rInt_calls lo pr s0 W r
  rw [g1] at hb1
  have hb2 := fun W (r : Rdr W lo pr s1) => rInt_calls lo pr s1 W r
  rw [g2] at hb2
  have hb3 := fun W (r : Rdr W lo pr s2) => rInt_calls lo pr s2 W r
  rw [g3] at hb3
  have hb4 := fun W (r : Rdr W lo pr s3) => rInt_calls lo pr s3 W r
  rw [g4] at hb4
  have hb5 := fun W (r : Rdr W lo pr s4) => rInt_calls lo pr s4 W r
  rw [g5] at hb5
  have hb6 := fun W (r : Rdr W lo pr s5) => rText_calls lo pr s5 220 W r
  rw [g6] at hb6
  have hb7 := fun W (r : Rdr W lo pr s6) => rBytes_calls lo pr s6 1000 W r h1 l6
  rw [g7] at hb7
  have hb9 := fun W (r : Rdr W lo pr s8) => rCount_calls lo pr s8 500 W r
  rw [g9] at hb9
  have hb11 := fun W (r : Rdr W lo pr s10) => rBytes_calls lo pr s10 1048576 W r h1 l10
  rw [g11] at hb11
  have hb12 := fun W (r : Rdr W lo pr s11) => rCount_calls lo pr s11 16 W r
  rw [g12] at hb12
  have hsl := rdIs_len 10 s7
  rw [g8] at hsl
  simp only at hsl
  have hcbl := rBytes_len s10 1048576
  rw [show ((1048576 : Nat) : Int) = 1048576 from rfl, g11] at hcbl
  simp only at hcbl
  have HCB := Lib.hid hcbl
  clear hcbl
  have htl := rdTs_len n s9
  rw [g10] at htl
  simp only at htl
  have HB0 := Lib.hid hb0
  have HB1 := Lib.hid hb1
  have HB2 := Lib.hid hb2
  have HB3 := Lib.hid hb3
  have HB4 := Lib.hid hb4
  have HB5 := Lib.hid hb5
  have HB6 := Lib.hid hb6
  have HB7 := Lib.hid hb7
  have HB9 := Lib.hid hb9
  have HB11 := Lib.hid hb11
  have HB12 := Lib.hid hb12
  have HL12 := Lib.hid l12
  have HREC := Lib.hid hrec
  have HSL := Lib.hid hsl
  have HTL := Lib.hid htl
  have HG8 := Lib.hid g8
  have HG10 := Lib.hid g10
  have HGC := Lib.hid gc
  have HA := Lib.hid ha
  have HLO := Lib.hid h1
  clear hb0 hb1 hb2 hb3 hb4 hb5 hb6 hb7 hb9 hb11 hb12 l0 l1 l2 l3 l4 l5 l6 l7 l8 l9 l10 l11 l12 g0 g1 g2 g3 g4 g5 g6 g7 g8 g9 g10 g11 g12 gc hrec hsl htl ha hlim hrg hrg2 hy0 h5 h1
  obtain ⟨i0, hi0, hz0, hz1, hz2⟩ := info_parts info_str
  go_enter Tryd.func54, Tryd.ntmps54
  go_wp2_with (fail)
  have F0 := Lib.hid ((Fr.refl NoB w).alloc (.cells #[.int .u8 0, .int .i64 0, .int .i64 0, .int .i64 0, .int .i64 0, .int .i64 0, .string ⟨#[]⟩, .slice none 0 0, .int .i64 0, .int .i64 0, .int .i64 0, .int .i64 0, .int .i64 0, .int .i64 0, .int .i64 0, .int .i64 0, .int .i64 0, .int .i64 0, .slice none 0 0, .int .i64 0, .slice none 0 0, .slice none 0 0] 43))
  have HRV := Lib.hid (heap_alloc_new w (.cells #[.int .u8 0, .int .i64 0, .int .i64 0, .int .i64 0, .int .i64 0, .int .i64 0, .string ⟨#[]⟩, .slice none 0 0, .int .i64 0, .int .i64 0, .int .i64 0, .int .i64 0, .int .i64 0, .int .i64 0, .int .i64 0, .int .i64 0, .int .i64 0, .int .i64 0, .slice none 0 0, .int .i64 0, .slice none 0 0, .slice none 0 0] 43))
  have HSW : Hid ((w.alloc (.cells #[.int .u8 0, .int .i64 0, .int .i64 0, .int .i64 0, .int .i64 0, .int .i64 0, .string ⟨#[]⟩, .slice none 0 0, .int .i64 0, .int .i64 0, .int .i64 0, .int .i64 0, .int .i64 0, .int .i64 0, .int .i64 0, .int .i64 0, .int .i64 0, .int .i64 0, .slice none 0 0, .int .i64 0, .slice none 0 0, .slice none 0 0] 43)).heap.size = w.heap.size + 1) := by show _ = _; simp
  generalize w.alloc (.cells #[.int .u8 0, .int .i64 0, .int .i64 0, .int .i64 0, .int .i64 0, .int .i64 0, .string ⟨#[]⟩, .slice none 0 0, .int .i64 0, .int .i64 0, .int .i64 0, .int .i64 0, .int .i64 0, .int .i64 0, .int .i64 0, .int .i64 0, .int .i64 0, .int .i64 0, .slice none 0 0, .int .i64 0, .slice none 0 0, .slice none 0 0] 43) = wb at F0 HRV HSW ⊢
  obtain ⟨RV, hRV⟩ : ∃ RV, w.heap.size = RV := ⟨_, rfl⟩
  have HWR := Lib.hid hRV
  have hpl : pr < wb.heap.size := Nat.lt_of_lt_of_le HA.out.lt F0.out.size
  have HPR : Hid (pr < RV) := by have h := HA.out.lt; rw [hRV] at h; exact h
  have HPL := Lib.hid hpl
  rw [hRV] at HRV HSW ⊢
  clear hRV hpl
  refine (HB0.out wb (HA.out.fr F0.out (fun _ _ _ x => x) HLO.out)).mono ?_
  rintro e w0 ⟨rfl, a0, f0, -⟩
  have A0 := Lib.hid a0
  have G0 := Lib.hid f0
  clear a0 f0 HB0 HA
  go_wp2_with (fail)
  refine (HB1.out _ A0.out).mono ?_
  rintro e w1 ⟨rfl, a1, f1, -⟩
  have A1 := Lib.hid a1
  have G1 := Lib.hid (G0.out.then f1)
  clear a1 f1 HB1 A0 G0
  go_wp2_with (fail)
  refine (HB2.out _ A1.out).mono ?_
  rintro e w2 ⟨rfl, a2, f2, -⟩
  have A2 := Lib.hid a2
  have G2 := Lib.hid (G1.out.then f2)
  clear a2 f2 HB2 A1 G1
  go_wp2_with (fail)
  refine (HB3.out _ A2.out).mono ?_
  rintro e w3 ⟨rfl, a3, f3, -⟩
  have A3 := Lib.hid a3
  have G3 := Lib.hid (G2.out.then f3)
  clear a3 f3 HB3 A2 G2
  go_wp2_with (fail)
  refine (HB4.out _ A3.out).mono ?_
  rintro e w4 ⟨rfl, a4, f4, -⟩
  have A4 := Lib.hid a4
  have G4 := Lib.hid (G3.out.then f4)
  clear a4 f4 HB4 A3 G3
  go_wp2_with (fail)
  refine (HB5.out _ A4.out).mono ?_
  rintro e w5 ⟨rfl, a5, f5, -⟩
  have A5 := Lib.hid a5
  have G5 := Lib.hid (G4.out.then f5)
  clear a5 f5 HB5 A4 G4
  go_wp2_with (fail)
  refine (HB6.out _ A5.out).mono ?_
  rintro e w6 ⟨rfl, a6, f6, -⟩
  have A6 := Lib.hid a6
  have G6 := Lib.hid (G5.out.then f6)
  clear a6 f6 HB6 A5 G5
  go_wp2_with (fail)
  refine (HB7.out _ A6.out).mono ?_
  rintro e w7 ⟨y7, rfl, o7, a7, f7⟩
  obtain ⟨DA, dc, rfl, -, -⟩ := own_form o7
  have O7 := Lib.hid (own_low o7 G6.out.size)
  have HNB1 : Hid (∀ k, w7.heap.size ≤ k → ¬ (Value.slice DA x7.length dc).ownBlock = some k) := Lib.hid (fun k hk hg => by have := (o7.lt k hg).2; omega)
  have A7 := Lib.hid a7
  have G7 := Lib.hid (G6.out.then f7)
  clear o7 a7 f7 HB7 A6 G6
  go_wp2_with (first | (with_reducible refine held_store (ty := 43) ?_) | fail)
  unfold Held
  refine wpList_store_row rfl 43 _ _ rfl w7.heap.size #[.int .u8 (x0.toNat : Int), .int .i64 x1, .int .i64 x2, .int .i64 x3, .int .i64 x4, .int .i64 x5, .string ⟨x6.toArray⟩, .slice DA x7.length dc, .int .i64 0, .int .i64 0, .int .i64 0, .int .i64 0, .int .i64 0, .int .i64 0, .int .i64 0, .int .i64 0, .int .i64 0, .int .i64 0, .slice none 0 0, .int .i64 0, .slice none 0 0, .slice none 0 0] ?_ ?_ _ _ (heap_alloc_new w7 _) rsize22 rfl (by simp [Value.oneCell']) ?_
  · rfl
  · rfl
  rw [World.setRow_alloc_new]
  go_wp2_with (fail)
  have t8 := YW.start A7.out G7.out #[.int .u8 (x0.toNat : Int), .int .i64 x1, .int .i64 x2, .int .i64 x3, .int .i64 x4, .int .i64 x5, .string ⟨x6.toArray⟩, .slice DA x7.length dc, .int .i64 0, .int .i64 0, .int .i64 0, .int .i64 0, .int .i64 0, .int .i64 0, .int .i64 0, .int .i64 0, .int .i64 0, .int .i64 0, .slice none 0 0, .int .i64 0, .slice none 0 0, .slice none 0 0] (.cells #[.int .i64 0, .int .i64 0, .int .i64 0, .int .i64 0, .int .i64 0, .int .i64 0, .int .i64 0, .int .i64 0, .int .i64 0, .int .i64 0] 116) (Rows.one (x := ⟨.slice DA x7.length dc, 5, 1, x7.length, bv x7⟩) O7.out) HLO.out HPL.out
  have hy8 := heap_alloc_new (w7.alloc (.cells #[.int .u8 (x0.toNat : Int), .int .i64 x1, .int .i64 x2, .int .i64 x3, .int .i64 x4, .int .i64 x5, .string ⟨x6.toArray⟩, .slice DA x7.length dc, .int .i64 0, .int .i64 0, .int .i64 0, .int .i64 0, .int .i64 0, .int .i64 0, .int .i64 0, .int .i64 0, .int .i64 0, .int .i64 0, .slice none 0 0, .int .i64 0, .slice none 0 0, .slice none 0 0] 43)) (.cells #[.int .i64 0, .int .i64 0, .int .i64 0, .int .i64 0, .int .i64 0, .int .i64 0, .int .i64 0, .int .i64 0, .int .i64 0, .int .i64 0] 116)
  rw [World.size_alloc] at hy8
  generalize ((w7.alloc (.cells #[.int .u8 (x0.toNat : Int), .int .i64 x1, .int .i64 x2, .int .i64 x3, .int .i64 x4, .int .i64 x5, .string ⟨x6.toArray⟩, .slice DA x7.length dc, .int .i64 0, .int .i64 0, .int .i64 0, .int .i64 0, .int .i64 0, .int .i64 0, .int .i64 0, .int .i64 0, .int .i64 0, .int .i64 0, .slice none 0 0, .int .i64 0, .slice none 0 0, .slice none 0 0] 43)).alloc (.cells #[.int .i64 0, .int .i64 0, .int .i64 0, .int .i64 0, .int .i64 0, .int .i64 0, .int .i64 0, .int .i64 0, .int .i64 0, .int .i64 0] 116)) = w8 at t8 hy8 ⊢
  generalize w7.heap.size = b at t8 hy8 HNB1 ⊢
  have T8 := Lib.hid t8
  have HY8 := Lib.hid hy8
  clear t8 hy8 A7 G7 O7
  go_loopw [34] (fun i W => ∃ (j : Nat), j ≤ 10 ∧ i = .int .i64 (j : Int) ∧ YW wb W lo pr b (rdIs j s7).2 #[.int .u8 (x0.toNat : Int), .int .i64 x1, .int .i64 x2, .int .i64 x3, .int .i64 x4, .int .i64 x5, .string ⟨x6.toArray⟩, .slice DA x7.length dc, .int .i64 0, .int .i64 0, .int .i64 0, .int .i64 0, .int .i64 0, .int .i64 0, .int .i64 0, .int .i64 0, .int .i64 0, .int .i64 0, .slice none 0 0, .int .i64 0, .slice none 0 0, .slice none 0 0] [⟨.slice DA x7.length dc, 5, 1, x7.length, bv x7⟩] ∧ W.heap[b + 1]? = some (.cells (ivz (rdIs j s7).1 10) 116 (0, 0))) (fun i _ => 10 - (intOf i).toNat)
  case atStart => exact ⟨0, by omega, rfl, T8.out, HY8.out⟩
  case round =>
    obtain ⟨j, hj, rfl, ht, hy⟩ := hrel
    have T := Lib.hid ht
    have HY := Lib.hid hy
    clear ht hy T8 HY8
    have hjl := rdIs_len j s7
    by_cases hj10 : j < 10
    · as_aux_lemma =>
      have hji : (j : Int) < 10 := by omega
      have hj0 : (0 : Int) ≤ (j : Int) := by omega
      have hstep : rdIs (j + 1) s7 = ((rdIs j s7).1 ++ [(rInt (rdIs j s7).2).1], (rInt (rdIs j s7).2).2) := rfl
      generalize (rdIs j s7).1 = l at HY hjl hstep
      generalize (rdIs j s7).2 = sj at T hstep
      have hc := rInt_calls lo pr sj wr T.out.a
      obtain ⟨y, s', g⟩ : ∃ x t, rInt sj = (x, t) := ⟨_, _, rfl⟩
      rw [g] at hc hstep
      have HC := Lib.hid hc
      have HSTEP := Lib.hid hstep
      have HJL := Lib.hid hjl
      clear hc hstep g hjl
      go_wp2_with (fail)
      refine HC.out.mono ?_
      rintro e v ⟨rfl, a, f, -⟩
      have T1 := Lib.hid (T.out.read a f)
      have hy1 := f.at_ HY.out (fun e => by have h1 := T.out.pl; have h2 := T.out.hb; simp only [OneB] at e; omega)
      have c1 := (cells_of hy1 j).1
      have c2 := (cells_of hy1 j).2
      have hg0 := ivz_get l 10 (by have := HJL.out; omega)
      rw [HJL.out] at hg0
      rw [hg0] at c1
      have HY1 := Lib.hid hy1
      clear a f hy1 hg0 T HY HC
      go_wp2
      have hb1 : Fr (OneB (b + 1)) v (v.setCell ⟨b + 1, j, none⟩ (.int .i64 y)) := (Fr.refl (OneB (b + 1)) v).setCell (p := ⟨b + 1, j, none⟩) (fun _ => rfl) _
      have T2 := Lib.hid (T1.out.other hb1 (fun k _ hk => ⟨by have := T1.out.hb; simp only [OneB] at hk; omega, by simp only [OneB] at hk; omega, fun x hx hg => by
        rw [List.mem_singleton.1 hx] at hg
        have h1 := (T1.out.rows.own _ (List.mem_singleton.2 rfl)).lt hg
        exact HNB1.out k (by simp only [OneB] at hk; omega) hg⟩))
      have hy2 := heap_set (i := j) HY1.out (.int .i64 y)
      rw [show (ivz l 10).setIfInBounds j (.int .i64 y) = ivz (l ++ [y]) 10 by have h := ivz_set l 10 y (by have := HJL.out; omega); rwa [HJL.out] at h] at hy2
      go_roundw
      case rel => exact ⟨j + 1, by omega, by go_num, by rw [HSTEP.out]; exact T2.out, by rw [HSTEP.out]; exact hy2⟩
      case measure => simp [intOf]; omega
    · obtain rfl : j = 10 := by omega
      have ht := T.out
      have hy := HY.out
      rw [HG8.out] at ht hy
      simp only at ht hy
      obtain ⟨z0, z1, z2, z3, z4, z5, z6, z7, z8, z9, rfl⟩ := len10 HSL.out
      have T1 := Lib.hid ht
      have c0 := (cells_of hy 0).1
      have c1 := (cells_of hy 1).1
      have c2 := (cells_of hy 2).1
      have c3 := (cells_of hy 3).1
      have c4 := (cells_of hy 4).1
      have c5 := (cells_of hy 5).1
      have c6 := (cells_of hy 6).1
      have c7 := (cells_of hy 7).1
      have c8 := (cells_of hy 8).1
      have c9 := (cells_of hy 9).1
      simp only [ivz, List.map_cons, List.map_nil, List.length_cons, List.length_nil, List.append_nil, List.replicate_zero, Nat.sub_self, Nat.reduceAdd, List.getElem?_toArray, List.getElem?_cons_zero, List.getElem?_cons_succ] at c0 c1 c2 c3 c4 c5 c6 c7 c8 c9
      clear ht hy T HY hjl hj10 hj HSL
      go_wp2_with (first | (with_reducible refine held_store (ty := 37) ?_) | fail)
      unfold Held
      refine wpList_store_mid rfl 37 (.tmp 63) (.tmp 62) rfl b 8 #[.int .i64 z0, .int .i64 z1, .int .i64 z2, .int .i64 z3, .int .i64 z4, .int .i64 z5, .int .i64 z6, .int .i64 z7, .int .i64 z8, .int .i64 z9] ?_ ?_ ?_ stsize10 ?_ ?_
      · rfl
      · rfl
      · exact T1.out.there 8 10 (by simp)
      · simp [Value.oneCell']
      have t2 := T1.out.sets [.int .i64 z0, .int .i64 z1, .int .i64 z2, .int .i64 z3, .int .i64 z4, .int .i64 z5, .int .i64 z6, .int .i64 z7, .int .i64 z8, .int .i64 z9] 8
      simp only [setsA, List.setIfInBounds_toArray, List.set_cons_zero, List.set_cons_succ] at t2
      simp only at t2 ⊢
      have T2 := Lib.hid t2
      clear t2 T1 c0 c1 c2 c3 c4 c5 c6 c7 c8 c9
      generalize wr.setCells b 8 _ = w9 at T2 ⊢
      go_wp2_with (fail)
      refine (HB9.out _ T2.out.a).mono ?_
      rintro e w10 ⟨rfl, a, f, -⟩
      have T3 := Lib.hid ((T2.out.read a f).nil 9 1)
      clear a f T2 HB9
      go_wp2
      go_loopw [66] (fun i W => ∃ (j : Nat) (V : Value), j ≤ n ∧ i = .int .i64 (j : Int) ∧ YW wb W lo pr b (rdTs j s9).2 #[.int .u8 (x0.toNat : Int), .int .i64 x1, .int .i64 x2, .int .i64 x3, .int .i64 x4, .int .i64 x5, .string ⟨x6.toArray⟩, .slice DA x7.length dc, .int .i64 z0, .int .i64 z1, .int .i64 z2, .int .i64 z3, .int .i64 z4, .int .i64 z5, .int .i64 z6, .int .i64 z7, .int .i64 z8, .int .i64 z9, V, .int .i64 0, .slice none 0 0, .slice none 0 0] (⟨V, 9, 1, j, tv (rdTs j s9).1⟩ :: [⟨.slice DA x7.length dc, 5, 1, x7.length, bv x7⟩])) (fun i _ => n - (intOf i).toNat)
      case atStart => exact ⟨0, _, Nat.zero_le _, rfl, T3.out⟩
      case round =>
        obtain ⟨j, V, hj, rfl, ht⟩ := hrel
        have hjl := rdTs_len j s9
        obtain ⟨LA, lc, rfl, -, -⟩ := own_form (show World.ownsRow _ _ _ 1 V j _ from ht.rows.own _ (List.mem_cons_self))
        have T := Lib.hid ht
        clear ht T3
        by_cases hlt : j < n
        · as_aux_lemma =>
          have hji : (j : Int) < (n : Int) := by omega
          have hstep : rdTs (j + 1) s9 = ((rdTs j s9).1 ++ [(rBytes (rdTs j s9).2 220).1], (rBytes (rdTs j s9).2 220).2) := rfl
          generalize (rdTs j s9).1 = l at T hjl hstep
          generalize (rdTs j s9).2 = sj at T hstep
          have hc := fun W (r : Rdr W lo pr sj) => rText_calls lo pr sj 220 W r
          obtain ⟨y, s', g⟩ : ∃ x t, rBytes sj 220 = (x, t) := ⟨_, _, rfl⟩
          rw [g] at hc hstep
          have HC := Lib.hid hc
          have HSTEP := Lib.hid hstep
          have HJL := Lib.hid hjl
          have T0 := Lib.hid (T.out.keep ((Fr.refl NoB wr).drew))
          have hcd := (T0.out.cell 18).1
          simp only [List.getElem?_toArray, List.getElem?_cons_zero, List.getElem?_cons_succ] at hcd
          clear hc hstep g hjl
          go_wp2_with (fail)
          refine wp_region_any (by kernel_rfl) (wpAny_of_J (S := fun j' X => j' ≠ 7 → X.cell? ⟨b, 18, none⟩ = some (.slice LA j lc)) _ _ _ _ ?_)
          show wpAnyJ _ _ _ _ _ _ _ _ wr.drew
          simp only [List.size_toArray, List.length_cons, List.length_nil, Nat.reduceAdd]
          refine J_take (i := 0) (v := ?_) (fun X : World => X.cell? ⟨b, 18, none⟩ = some (.slice LA j lc)) (fun j => decide (j ≠ 7)) (by simp only [List.getElem?_toArray, List.getElem?_cons_zero]; rfl) (by kernel_rfl) (by kernel_rfl) (by kernel_rfl) (by kernel_rfl) (by exact fun _ _ _ h => h) (fun j X hm h => h (of_decide_eq_true hm)) (fun X h _ => h) hcd (Or.inl ⟨by rfl, ?_⟩) ?_
          rotate_left
          · intro X hX; go_simp; (try with_reducible rfl)
          try simp only [Act.put, List.setIfInBounds_toArray, List.set_cons_zero, List.set_cons_succ]
          refine J_take (i := 1) (v := ?_) (fun X : World => X.cell? ⟨b, 18, none⟩ = some (.slice LA j lc)) (fun j => decide (j ≠ 7)) (by simp only [List.getElem?_toArray, List.getElem?_cons_succ, List.getElem?_cons_zero]; rfl) (by kernel_rfl) (by kernel_rfl) (by kernel_rfl) (by kernel_rfl) (by exact fun _ _ _ h => h) (fun j X hm h => h (of_decide_eq_true hm)) (fun X h _ => h) hcd (Or.inl ⟨by rfl, ?_⟩) ?_
          rotate_left
          · intro X hX; go_simp; (try with_reducible rfl)
          try simp only [Act.put, List.setIfInBounds_toArray, List.set_cons_zero, List.set_cons_succ]
          refine J_take (i := 2) (v := ?_) (fun X : World => X.cell? ⟨b, 18, none⟩ = some (.slice LA j lc)) (fun j => decide (j ≠ 7)) (by simp only [List.getElem?_toArray, List.getElem?_cons_succ, List.getElem?_cons_zero]; rfl) (by kernel_rfl) (by kernel_rfl) (by kernel_rfl) (by kernel_rfl) (by exact fun _ _ _ h => h) (fun j X hm h => h (of_decide_eq_true hm)) (fun X h _ => h) hcd (Or.inl ⟨by rfl, ?_⟩) ?_
          rotate_left
          · intro X hX; go_simp; (try with_reducible rfl)
          try simp only [Act.put, List.setIfInBounds_toArray, List.set_cons_zero, List.set_cons_succ]
          refine J_all (rs := [3]) (by kernel_rfl) (by simp) (fun i hi => ?_)
          simp only [List.mem_cons, List.not_mem_nil, or_false] at hi
          subst hi
          refine J_oneH (by simp only [List.getElem?_toArray, List.getElem?_cons_succ, List.getElem?_cons_zero]; rfl) rfl (fun K hK => ?_)
          go_simp
          refine (HC.out _ T0.out.a).mono ?_
          rintro e v1 ⟨rfl, a, f, -⟩
          have T1 := Lib.hid (T0.out.read a f)
          have hc1 := (T1.out.cell 18).1
          simp only [List.getElem?_toArray, List.getElem?_cons_zero, List.getElem?_cons_succ] at hc1
          clear a f T0 HC hcd
          skip
          refine hK.out _ _ ⟨fun _ => hc1, ?_⟩
          clear hK K
          refine J_all (rs := [4]) (by kernel_rfl) (by simp) (fun i hi => ?_)
          simp only [List.mem_cons, List.not_mem_nil, or_false] at hi
          subst hi
          refine J_oneH (by simp only [List.getElem?_toArray, List.getElem?_cons_succ, List.getElem?_cons_zero]; rfl) rfl (fun K hK => ?_)
          go_simp
          have FN := Lib.hid ((Fr.refl NoB v1).alloc (.cells #[.string ⟨y.toArray⟩] 9))
          have hc2 := ((T1.out.keep FN.out).cell 18).1
          simp only [List.getElem?_toArray, List.getElem?_cons_zero, List.getElem?_cons_succ] at hc2
          have hn3 := World.news_of_block (heap_alloc_new v1 (.cells #[.string ⟨y.toArray⟩] 9))
          try simp only [Act.put, List.setIfInBounds_toArray, List.set_cons_zero, List.set_cons_succ]
          refine hK.out _ _ ⟨fun _ => hc2, ?_⟩
          clear hK K
          refine J_all (rs := [5]) (by kernel_rfl) (by simp) (fun i hi => ?_)
          simp only [List.mem_cons, List.not_mem_nil, or_false] at hi
          subst hi
          refine J_oneH (by simp only [List.getElem?_toArray, List.getElem?_cons_succ, List.getElem?_cons_zero]; rfl) rfl (fun K hK => ?_)
          refine wp_append_src _ (.tmp 69) (.tmp 72) 38 rfl wb.heap.size 9 i0 (.string ⟨#[]⟩) 1 16 Tryd.underlying38 hi0 hz0 hz1 hz2 rfl (by decide) (.slice LA j lc) j (tv l) rfl ((T1.out.keep FN.out).rows.own _ (List.mem_cons_self)) _ 1 1 [.string ⟨y.toArray⟩] rfl rfl (fun _ => ⟨_, rfl, hn3⟩) (by intro u hu; rw [List.mem_singleton.1 hu]; rfl) (by unfold maxLen; omega) (by omega) (Nat.le_trans T1.out.fr.size FN.out.size) ?_
          intro v5 W5 hA
          have hpu := T1.out.push FN.out hA
          obtain ⟨A5, c5, rfl, -, -⟩ := own_form hA.own
          have T5 := Lib.hid hpu
          have hc5 := (T5.out.cell 18).1
          have hf5 := (T5.out.cell 18).2
          simp only [List.getElem?_toArray, List.getElem?_cons_zero, List.getElem?_cons_succ] at hc5
          clear hA hpu hc1 hc2 hn3
          try simp only [Act.put, List.setIfInBounds_toArray, List.set_cons_zero, List.set_cons_succ]
          refine hK.out _ _ ⟨fun _ => hc5, ?_⟩
          clear hK K
          refine J_all (rs := [6]) (by kernel_rfl) (by simp) (fun i hi => ?_)
          simp only [List.mem_cons, List.not_mem_nil, or_false] at hi
          subst hi
          refine J_oneH (by simp only [List.getElem?_toArray, List.getElem?_cons_succ, List.getElem?_cons_zero]; rfl) rfl (fun K hK => ?_)
          go_simp
          try simp only [Act.put, List.setIfInBounds_toArray, List.set_cons_zero, List.set_cons_succ]
          refine hK.out _ _ ⟨fun _ => hc5, ?_⟩
          clear hK K
          refine J_all (rs := [7]) (by kernel_rfl) (by simp) (fun i hi => ?_)
          simp only [List.mem_cons, List.not_mem_nil, or_false] at hi
          subst hi
          refine J_oneH (by simp only [List.getElem?_toArray, List.getElem?_cons_succ, List.getElem?_cons_zero]; rfl) rfl (fun K hK => ?_)
          go_simp
          try simp only [Act.put, List.setIfInBounds_toArray, List.set_cons_zero, List.set_cons_succ]
          refine hK.out _ _ ⟨fun h => absurd rfl h, ?_⟩
          clear hK K
          refine J_done (by kernel_rfl) ?_
          have t6 := T5.out.set 18 (.slice A5 (j + 1) c5)
          simp only [List.setIfInBounds_toArray, List.set_cons_zero, List.set_cons_succ] at t6
          have T6 := Lib.hid t6
          clear t6 T5 hc5 hf5 T1
          go_wp2
          go_roundw
          case rel => exact ⟨j + 1, _, by omega, by go_num, by rw [HSTEP.out]; have h := T6.out; rwa [show tv l ++ [Value.string ⟨y.toArray⟩] = tv (l ++ [y]) from by rw [tv_append]; rfl] at h⟩
          case measure => simp [intOf]; omega
        · obtain rfl : j = n := by omega
          have ht := T.out
          rw [HG10.out] at ht
          simp only at ht
          have T1 := Lib.hid ht
          clear ht T hjl hlt hj
          go_wp2_with (fail)
          refine (HB11.out _ T1.out.a).mono ?_
          rintro e w11 ⟨y, rfl, oc, a, f⟩
          obtain ⟨BA, bc, rfl, -, -⟩ := own_form oc
          have hrd := own_rd oc
          have T2 := Lib.hid (T1.out.read a f)
          have HRD := Lib.hid hrd
          clear a f oc hrd HB11 T1
          have hcl : cb.length ≤ 1048576 := HCB.out
          go_upto_if 80 with fail
          go_cut [9] (fun ok W => ∃ (MB : Option Addr) (md : Nat), ok = .bool cok ∧ YW wb W lo pr b s11 #[.int .u8 (x0.toNat : Int), .int .i64 x1, .int .i64 x2, .int .i64 x3, .int .i64 x4, .int .i64 x5, .string ⟨x6.toArray⟩, .slice DA x7.length dc, .int .i64 z0, .int .i64 z1, .int .i64 z2, .int .i64 z3, .int .i64 z4, .int .i64 z5, .int .i64 z6, .int .i64 z7, .int .i64 z8, .int .i64 z9, .slice LA j lc, .int .i64 cf.1, .slice MB cf.2.length md, .slice none 0 0] (⟨.slice MB cf.2.length md, 106, 4, cf.2.length, mv cf.2⟩ :: ⟨.slice LA j lc, 9, 1, j, tv tl⟩ :: [⟨.slice DA x7.length dc, 5, 1, x7.length, bv x7⟩]))
          case first =>
            by_cases hcb : cb = []
            · as_aux_lemma =>
              subst hcb
              have hcf := HGC.out
              rw [show rdCf [] = ((0, []), true) from rfl] at hcf
              simp only [Prod.mk.injEq] at hcf
              obtain ⟨rfl, rfl⟩ := hcf
              go_wp2
              all_goals go_meet
              all_goals exact ⟨none, 0, rfl, T2.out.nil _ _⟩
            · as_aux_lemma =>
              have hlen : (0 : Int) < (cb.length : Int) := by have := List.length_pos_iff.2 hcb; omega
              have hcf := HGC.out
              rw [show rdCf cb = (((getV cb).1, (getV cb).2.1), (getV cb).2.2 == 0) from if_neg hcb] at hcf
              simp only [Prod.mk.injEq] at hcf
              obtain ⟨rfl, rfl⟩ := hcf
              have hgo := get_own BA cb bc _ _ w11 HRD.out (Nat.le_refl _) (by omega)
              have HGO := Lib.hid hgo
              clear hgo
              obtain ⟨zz, hzz⟩ : ∃ zz, (getV cb).2.2 = zz := ⟨_, rfl⟩
              rw [hzz] at HGO
              have HZZ := Lib.hid hzz
              clear hzz
              go_wp2_with (fail)
              refine HGO.out.mono ?_
              rintro e v1 ⟨MB, md, rfl, om, f⟩
              have T3 := Lib.hid (T2.out.made (T2.out.keep f) (Rows.one (x := ⟨.slice MB (getV cb).2.1.length md, 106, 4, (getV cb).2.1.length, mv (getV cb).2.1⟩) om))
              clear f om T2 HGO
              have T4 := Lib.hid (T3.out.keep ((Fr.refl NoB v1).alloc (.cells #[.int .i64 (getV cb).1, .slice MB (getV cb).2.1.length md] 40)))
              have y19 := (T4.out.cell 19).1
              have n19 := (T4.out.cell 19).2
              have y20 := (T4.out.cell 20).1
              have n20 := (T4.out.cell 20).2
              simp only [List.getElem?_toArray, List.getElem?_cons_zero, List.getElem?_cons_succ] at y19 y20
              have t5 := (T4.out.set 19 (.int .i64 (getV cb).1)).set 20 (.slice MB (getV cb).2.1.length md)
              simp only [List.setIfInBounds_toArray, List.set_cons_zero, List.set_cons_succ] at t5
              have T5 := Lib.hid t5
              clear t5 T3
              go_wp2
              all_goals go_meet
              all_goals exact ⟨MB, md, by rw [HZZ.out], T5.out⟩
          case rest =>
            obtain ⟨MB, md, rfl, ht⟩ := hcut
            have T3 := Lib.hid ht
            clear ht T2 HRD
            go_wp2_with (fail)
            refine (HB12.out _ T3.out.a).mono ?_
            rintro e w12 ⟨rfl, a, f, -⟩
            have T4 := Lib.hid ((T3.out.read a f).nil 43 22)
            clear a f T3 HB12
            go_wp2
            cases deep
            · have hfin := HFIN.out
              rw [if_neg (by simp)] at hfin
              have HF := Lib.hid hfin
              clear hfin HFIN HREC HL12
              go_loopw [9, 14] (fun ok i W => ok = .bool cok ∧ i = .int .i64 0 ∧ YW wb W lo pr b s12 #[.int .u8 (x0.toNat : Int), .int .i64 x1, .int .i64 x2, .int .i64 x3, .int .i64 x4, .int .i64 x5, .string ⟨x6.toArray⟩, .slice DA x7.length dc, .int .i64 z0, .int .i64 z1, .int .i64 z2, .int .i64 z3, .int .i64 z4, .int .i64 z5, .int .i64 z6, .int .i64 z7, .int .i64 z8, .int .i64 z9, .slice LA j lc, .int .i64 cf.1, .slice MB cf.2.length md, .slice none 0 0] (⟨.slice none 0 0, 43, 22, 0, []⟩ :: ⟨.slice MB cf.2.length md, 106, 4, cf.2.length, mv cf.2⟩ :: ⟨.slice LA j lc, 9, 1, j, tv tl⟩ :: [⟨.slice DA x7.length dc, 5, 1, x7.length, bv x7⟩])) (fun _ _ _ => 0)
              case atStart => exact ⟨rfl, rfl, T4.out⟩
              case round =>
                obtain ⟨rfl, rfl, ht⟩ := hrel
                have T := Lib.hid ht
                clear ht T4
                by_cases hm0 : m = 0
                · subst hm0
                  cases cok
                  · as_aux_lemma =>
                    have HRV2 := Lib.hid (T.out.fr.at_ HRV.out (fun e => by have := HPR.out; simp only [OneB] at e; omega))
                    go_wp2_with (first | (with_reducible refine held_load (ty := 43) ?_) | fail)
                    unfold Held
                    refine wpList_load_row rfl 43 (.tmp 6) rfl b rfl 43 #[.int .u8 (x0.toNat : Int), .int .i64 x1, .int .i64 x2, .int .i64 x3, .int .i64 x4, .int .i64 x5, .string ⟨x6.toArray⟩, .slice DA x7.length dc, .int .i64 z0, .int .i64 z1, .int .i64 z2, .int .i64 z3, .int .i64 z4, .int .i64 z5, .int .i64 z6, .int .i64 z7, .int .i64 z8, .int .i64 z9, .slice LA j lc, .int .i64 cf.1, .slice MB cf.2.length md, .slice none 0 0] (0, 0) _ T.out.bx Tryd.underlying43 rfl rsize22 ?_
                    go_wp2_with (first | (with_reducible refine held_store (ty := 43) ?_) | fail)
                    unfold Held
                    refine wpList_store_row rfl 43 _ _ rfl RV #[.int .u8 (x0.toNat : Int), .int .i64 x1, .int .i64 x2, .int .i64 x3, .int .i64 x4, .int .i64 x5, .string ⟨x6.toArray⟩, .slice DA x7.length dc, .int .i64 z0, .int .i64 z1, .int .i64 z2, .int .i64 z3, .int .i64 z4, .int .i64 z5, .int .i64 z6, .int .i64 z7, .int .i64 z8, .int .i64 z9, .slice LA j lc, .int .i64 cf.1, .slice MB cf.2.length md, .slice none 0 0] ?_ ?_ _ _ HRV2.out rsize22 rfl (by simp [Value.oneCell']) ?_
                    · rfl
                    · rfl
                    go_wp2
                    refine bodyPost_ret (v := .tuple #[.agg #[.int .u8 (x0.toNat : Int), .int .i64 x1, .int .i64 x2, .int .i64 x3, .int .i64 x4, .int .i64 x5, .string ⟨x6.toArray⟩, .slice DA x7.length dc, .int .i64 z0, .int .i64 z1, .int .i64 z2, .int .i64 z3, .int .i64 z4, .int .i64 z5, .int .i64 z6, .int .i64 z7, .int .i64 z8, .int .i64 z9, .slice LA j lc, .int .i64 cf.1, .slice MB cf.2.length md, .slice none 0 0], .bool false]) (results_row_tmp (fn := Tryd.f54) (p := 4) (u := 5) (ty := 43) (by kernel_rfl) _ _ RV 43 _ _ _ rfl (setRow_heap _ _ _ _ _ _ HRV2.out) Tryd.underlying43 rfl (by kernel_rfl)) rfl ?_
                    have hfs : Fr (OneB RV) wr (wr.setRow RV #[.int .u8 (x0.toNat : Int), .int .i64 x1, .int .i64 x2, .int .i64 x3, .int .i64 x4, .int .i64 x5, .string ⟨x6.toArray⟩, .slice DA x7.length dc, .int .i64 z0, .int .i64 z1, .int .i64 z2, .int .i64 z3, .int .i64 z4, .int .i64 z5, .int .i64 z6, .int .i64 z7, .int .i64 z8, .int .i64 z9, .slice LA j lc, .int .i64 cf.1, .slice MB cf.2.length md, .slice none 0 0]) := (Fr.refl (OneB RV) wr).setRow (fun _ => rfl) _
                    have hrs : Rows (wr.setRow RV #[.int .u8 (x0.toNat : Int), .int .i64 x1, .int .i64 x2, .int .i64 x3, .int .i64 x4, .int .i64 x5, .string ⟨x6.toArray⟩, .slice DA x7.length dc, .int .i64 z0, .int .i64 z1, .int .i64 z2, .int .i64 z3, .int .i64 z4, .int .i64 z5, .int .i64 z6, .int .i64 z7, .int .i64 z8, .int .i64 z9, .slice LA j lc, .int .i64 cf.1, .slice MB cf.2.length md, .slice none 0 0]) w.heap.size _ := (T.out.rows.fr hfs (fun k hk x hx hg => by have h1 := ((T.out.rows.own x hx).lt hg).1; have h2 := HSW.out; simp only [OneB] at hk; omega)).low F0.out.size
                    have hrr : Rdr (wr.setRow RV #[.int .u8 (x0.toNat : Int), .int .i64 x1, .int .i64 x2, .int .i64 x3, .int .i64 x4, .int .i64 x5, .string ⟨x6.toArray⟩, .slice DA x7.length dc, .int .i64 z0, .int .i64 z1, .int .i64 z2, .int .i64 z3, .int .i64 z4, .int .i64 z5, .int .i64 z6, .int .i64 z7, .int .i64 z8, .int .i64 z9, .slice LA j lc, .int .i64 cf.1, .slice MB cf.2.length md, .slice none 0 0]) lo pr _ := T.out.a.fr hfs (fun k _ hk hx => by have := HPR.out; simp only [OneB] at hx; omega) HLO.out
                    have hff : Fr (OneB pr) w (wr.setRow RV #[.int .u8 (x0.toNat : Int), .int .i64 x1, .int .i64 x2, .int .i64 x3, .int .i64 x4, .int .i64 x5, .string ⟨x6.toArray⟩, .slice DA x7.length dc, .int .i64 z0, .int .i64 z1, .int .i64 z2, .int .i64 z3, .int .i64 z4, .int .i64 z5, .int .i64 z6, .int .i64 z7, .int .i64 z8, .int .i64 z9, .slice LA j lc, .int .i64 cf.1, .slice MB cf.2.length md, .slice none 0 0]) := (F0.out.no.then T.out.fr).setRow (fun hx => absurd hx (by have := HWR.out; omega)) _
                    exact ⟨⟨DA, dc, LA, lc, MB, md, none, 0⟩, [], by rw [HF.out]; simp only [yval, ycells, HTL.out, List.getD_cons_zero, List.getD_cons_succ]; rfl, by rw [HF.out]; rfl, by rw [HF.out]; exact hrr, hff, by rw [HF.out]; simp only [rowsYd, rowsY, List.reverse_nil, List.flatMap_nil, List.nil_append, List.length_nil, HTL.out]; exact hrs, fun _ => ⟨rfl, rfl⟩⟩
                  · as_aux_lemma =>
                    have HRV2 := Lib.hid (T.out.fr.at_ HRV.out (fun e => by have := HPR.out; simp only [OneB] at e; omega))
                    go_wp2_with (first | (with_reducible refine held_load (ty := 43) ?_) | fail)
                    unfold Held
                    refine wpList_load_row rfl 43 (.tmp 6) rfl b rfl 43 #[.int .u8 (x0.toNat : Int), .int .i64 x1, .int .i64 x2, .int .i64 x3, .int .i64 x4, .int .i64 x5, .string ⟨x6.toArray⟩, .slice DA x7.length dc, .int .i64 z0, .int .i64 z1, .int .i64 z2, .int .i64 z3, .int .i64 z4, .int .i64 z5, .int .i64 z6, .int .i64 z7, .int .i64 z8, .int .i64 z9, .slice LA j lc, .int .i64 cf.1, .slice MB cf.2.length md, .slice none 0 0] (0, 0) _ T.out.bx Tryd.underlying43 rfl rsize22 ?_
                    go_wp2_with (first | (with_reducible refine held_store (ty := 43) ?_) | fail)
                    unfold Held
                    refine wpList_store_row rfl 43 _ _ rfl RV #[.int .u8 (x0.toNat : Int), .int .i64 x1, .int .i64 x2, .int .i64 x3, .int .i64 x4, .int .i64 x5, .string ⟨x6.toArray⟩, .slice DA x7.length dc, .int .i64 z0, .int .i64 z1, .int .i64 z2, .int .i64 z3, .int .i64 z4, .int .i64 z5, .int .i64 z6, .int .i64 z7, .int .i64 z8, .int .i64 z9, .slice LA j lc, .int .i64 cf.1, .slice MB cf.2.length md, .slice none 0 0] ?_ ?_ _ _ HRV2.out rsize22 rfl (by simp [Value.oneCell']) ?_
                    · rfl
                    · rfl
                    go_wp2
                    refine bodyPost_ret (v := .tuple #[.agg #[.int .u8 (x0.toNat : Int), .int .i64 x1, .int .i64 x2, .int .i64 x3, .int .i64 x4, .int .i64 x5, .string ⟨x6.toArray⟩, .slice DA x7.length dc, .int .i64 z0, .int .i64 z1, .int .i64 z2, .int .i64 z3, .int .i64 z4, .int .i64 z5, .int .i64 z6, .int .i64 z7, .int .i64 z8, .int .i64 z9, .slice LA j lc, .int .i64 cf.1, .slice MB cf.2.length md, .slice none 0 0], .bool true]) (results_row_tmp (fn := Tryd.f54) (p := 4) (u := 5) (ty := 43) (by kernel_rfl) _ _ RV 43 _ _ _ rfl (setRow_heap _ _ _ _ _ _ HRV2.out) Tryd.underlying43 rfl (by kernel_rfl)) rfl ?_
                    have hfs : Fr (OneB RV) wr (wr.setRow RV #[.int .u8 (x0.toNat : Int), .int .i64 x1, .int .i64 x2, .int .i64 x3, .int .i64 x4, .int .i64 x5, .string ⟨x6.toArray⟩, .slice DA x7.length dc, .int .i64 z0, .int .i64 z1, .int .i64 z2, .int .i64 z3, .int .i64 z4, .int .i64 z5, .int .i64 z6, .int .i64 z7, .int .i64 z8, .int .i64 z9, .slice LA j lc, .int .i64 cf.1, .slice MB cf.2.length md, .slice none 0 0]) := (Fr.refl (OneB RV) wr).setRow (fun _ => rfl) _
                    have hrs : Rows (wr.setRow RV #[.int .u8 (x0.toNat : Int), .int .i64 x1, .int .i64 x2, .int .i64 x3, .int .i64 x4, .int .i64 x5, .string ⟨x6.toArray⟩, .slice DA x7.length dc, .int .i64 z0, .int .i64 z1, .int .i64 z2, .int .i64 z3, .int .i64 z4, .int .i64 z5, .int .i64 z6, .int .i64 z7, .int .i64 z8, .int .i64 z9, .slice LA j lc, .int .i64 cf.1, .slice MB cf.2.length md, .slice none 0 0]) w.heap.size _ := (T.out.rows.fr hfs (fun k hk x hx hg => by have h1 := ((T.out.rows.own x hx).lt hg).1; have h2 := HSW.out; simp only [OneB] at hk; omega)).low F0.out.size
                    have hrr : Rdr (wr.setRow RV #[.int .u8 (x0.toNat : Int), .int .i64 x1, .int .i64 x2, .int .i64 x3, .int .i64 x4, .int .i64 x5, .string ⟨x6.toArray⟩, .slice DA x7.length dc, .int .i64 z0, .int .i64 z1, .int .i64 z2, .int .i64 z3, .int .i64 z4, .int .i64 z5, .int .i64 z6, .int .i64 z7, .int .i64 z8, .int .i64 z9, .slice LA j lc, .int .i64 cf.1, .slice MB cf.2.length md, .slice none 0 0]) lo pr _ := T.out.a.fr hfs (fun k _ hk hx => by have := HPR.out; simp only [OneB] at hx; omega) HLO.out
                    have hff : Fr (OneB pr) w (wr.setRow RV #[.int .u8 (x0.toNat : Int), .int .i64 x1, .int .i64 x2, .int .i64 x3, .int .i64 x4, .int .i64 x5, .string ⟨x6.toArray⟩, .slice DA x7.length dc, .int .i64 z0, .int .i64 z1, .int .i64 z2, .int .i64 z3, .int .i64 z4, .int .i64 z5, .int .i64 z6, .int .i64 z7, .int .i64 z8, .int .i64 z9, .slice LA j lc, .int .i64 cf.1, .slice MB cf.2.length md, .slice none 0 0]) := (F0.out.no.then T.out.fr).setRow (fun hx => absurd hx (by have := HWR.out; omega)) _
                    exact ⟨⟨DA, dc, LA, lc, MB, md, none, 0⟩, [], by rw [HF.out]; simp only [yval, ycells, HTL.out, List.getD_cons_zero, List.getD_cons_succ]; rfl, by rw [HF.out]; rfl, by rw [HF.out]; exact hrr, hff, by rw [HF.out]; simp only [rowsYd, rowsY, List.reverse_nil, List.flatMap_nil, List.nil_append, List.length_nil, HTL.out]; exact hrs, fun _ => ⟨rfl, rfl⟩⟩
                · have hmp : (0 : Int) < (m : Int) := by omega
                  have hmn : ¬ (m : Int) = 0 := by omega
                  have hmb : ((m : Int) == 0) = false := by simp; omega
                  cases cok
                  · as_aux_lemma =>
                    have HRV2 := Lib.hid (T.out.fr.at_ HRV.out (fun e => by have := HPR.out; simp only [OneB] at e; omega))
                    go_wp2_with (first | (with_reducible refine held_load (ty := 43) ?_) | fail)
                    unfold Held
                    refine wpList_load_row rfl 43 (.tmp 6) rfl b rfl 43 #[.int .u8 (x0.toNat : Int), .int .i64 x1, .int .i64 x2, .int .i64 x3, .int .i64 x4, .int .i64 x5, .string ⟨x6.toArray⟩, .slice DA x7.length dc, .int .i64 z0, .int .i64 z1, .int .i64 z2, .int .i64 z3, .int .i64 z4, .int .i64 z5, .int .i64 z6, .int .i64 z7, .int .i64 z8, .int .i64 z9, .slice LA j lc, .int .i64 cf.1, .slice MB cf.2.length md, .slice none 0 0] (0, 0) _ T.out.bx Tryd.underlying43 rfl rsize22 ?_
                    go_wp2_with (first | (with_reducible refine held_store (ty := 43) ?_) | fail)
                    unfold Held
                    refine wpList_store_row rfl 43 _ _ rfl RV #[.int .u8 (x0.toNat : Int), .int .i64 x1, .int .i64 x2, .int .i64 x3, .int .i64 x4, .int .i64 x5, .string ⟨x6.toArray⟩, .slice DA x7.length dc, .int .i64 z0, .int .i64 z1, .int .i64 z2, .int .i64 z3, .int .i64 z4, .int .i64 z5, .int .i64 z6, .int .i64 z7, .int .i64 z8, .int .i64 z9, .slice LA j lc, .int .i64 cf.1, .slice MB cf.2.length md, .slice none 0 0] ?_ ?_ _ _ HRV2.out rsize22 rfl (by simp [Value.oneCell']) ?_
                    · rfl
                    · rfl
                    go_wp2
                    refine bodyPost_ret (v := .tuple #[.agg #[.int .u8 (x0.toNat : Int), .int .i64 x1, .int .i64 x2, .int .i64 x3, .int .i64 x4, .int .i64 x5, .string ⟨x6.toArray⟩, .slice DA x7.length dc, .int .i64 z0, .int .i64 z1, .int .i64 z2, .int .i64 z3, .int .i64 z4, .int .i64 z5, .int .i64 z6, .int .i64 z7, .int .i64 z8, .int .i64 z9, .slice LA j lc, .int .i64 cf.1, .slice MB cf.2.length md, .slice none 0 0], .bool false]) (results_row_tmp (fn := Tryd.f54) (p := 4) (u := 5) (ty := 43) (by kernel_rfl) _ _ RV 43 _ _ _ rfl (setRow_heap _ _ _ _ _ _ HRV2.out) Tryd.underlying43 rfl (by kernel_rfl)) rfl ?_
                    have hfs : Fr (OneB RV) wr (wr.setRow RV #[.int .u8 (x0.toNat : Int), .int .i64 x1, .int .i64 x2, .int .i64 x3, .int .i64 x4, .int .i64 x5, .string ⟨x6.toArray⟩, .slice DA x7.length dc, .int .i64 z0, .int .i64 z1, .int .i64 z2, .int .i64 z3, .int .i64 z4, .int .i64 z5, .int .i64 z6, .int .i64 z7, .int .i64 z8, .int .i64 z9, .slice LA j lc, .int .i64 cf.1, .slice MB cf.2.length md, .slice none 0 0]) := (Fr.refl (OneB RV) wr).setRow (fun _ => rfl) _
                    have hrs : Rows (wr.setRow RV #[.int .u8 (x0.toNat : Int), .int .i64 x1, .int .i64 x2, .int .i64 x3, .int .i64 x4, .int .i64 x5, .string ⟨x6.toArray⟩, .slice DA x7.length dc, .int .i64 z0, .int .i64 z1, .int .i64 z2, .int .i64 z3, .int .i64 z4, .int .i64 z5, .int .i64 z6, .int .i64 z7, .int .i64 z8, .int .i64 z9, .slice LA j lc, .int .i64 cf.1, .slice MB cf.2.length md, .slice none 0 0]) w.heap.size _ := (T.out.rows.fr hfs (fun k hk x hx hg => by have h1 := ((T.out.rows.own x hx).lt hg).1; have h2 := HSW.out; simp only [OneB] at hk; omega)).low F0.out.size
                    have hrr : Rdr (wr.setRow RV #[.int .u8 (x0.toNat : Int), .int .i64 x1, .int .i64 x2, .int .i64 x3, .int .i64 x4, .int .i64 x5, .string ⟨x6.toArray⟩, .slice DA x7.length dc, .int .i64 z0, .int .i64 z1, .int .i64 z2, .int .i64 z3, .int .i64 z4, .int .i64 z5, .int .i64 z6, .int .i64 z7, .int .i64 z8, .int .i64 z9, .slice LA j lc, .int .i64 cf.1, .slice MB cf.2.length md, .slice none 0 0]) lo pr _ := T.out.a.fr hfs (fun k _ hk hx => by have := HPR.out; simp only [OneB] at hx; omega) HLO.out
                    have hff : Fr (OneB pr) w (wr.setRow RV #[.int .u8 (x0.toNat : Int), .int .i64 x1, .int .i64 x2, .int .i64 x3, .int .i64 x4, .int .i64 x5, .string ⟨x6.toArray⟩, .slice DA x7.length dc, .int .i64 z0, .int .i64 z1, .int .i64 z2, .int .i64 z3, .int .i64 z4, .int .i64 z5, .int .i64 z6, .int .i64 z7, .int .i64 z8, .int .i64 z9, .slice LA j lc, .int .i64 cf.1, .slice MB cf.2.length md, .slice none 0 0]) := (F0.out.no.then T.out.fr).setRow (fun hx => absurd hx (by have := HWR.out; omega)) _
                    exact ⟨⟨DA, dc, LA, lc, MB, md, none, 0⟩, [], by rw [HF.out]; simp only [yval, ycells, HTL.out, List.getD_cons_zero, List.getD_cons_succ]; rw [decide_eq_false hmn]; rfl, by rw [HF.out]; rfl, by rw [HF.out]; exact hrr, hff, by rw [HF.out]; simp only [rowsYd, rowsY, List.reverse_nil, List.flatMap_nil, List.nil_append, List.length_nil, HTL.out]; exact hrs, fun _ => ⟨rfl, rfl⟩⟩
                  · as_aux_lemma =>
                    have HRV2 := Lib.hid (T.out.fr.at_ HRV.out (fun e => by have := HPR.out; simp only [OneB] at e; omega))
                    go_wp2_with (first | (with_reducible refine held_load (ty := 43) ?_) | fail)
                    unfold Held
                    refine wpList_load_row rfl 43 (.tmp 6) rfl b rfl 43 #[.int .u8 (x0.toNat : Int), .int .i64 x1, .int .i64 x2, .int .i64 x3, .int .i64 x4, .int .i64 x5, .string ⟨x6.toArray⟩, .slice DA x7.length dc, .int .i64 z0, .int .i64 z1, .int .i64 z2, .int .i64 z3, .int .i64 z4, .int .i64 z5, .int .i64 z6, .int .i64 z7, .int .i64 z8, .int .i64 z9, .slice LA j lc, .int .i64 cf.1, .slice MB cf.2.length md, .slice none 0 0] (0, 0) _ T.out.bx Tryd.underlying43 rfl rsize22 ?_
                    go_wp2_with (first | (with_reducible refine held_store (ty := 43) ?_) | fail)
                    unfold Held
                    refine wpList_store_row rfl 43 _ _ rfl RV #[.int .u8 (x0.toNat : Int), .int .i64 x1, .int .i64 x2, .int .i64 x3, .int .i64 x4, .int .i64 x5, .string ⟨x6.toArray⟩, .slice DA x7.length dc, .int .i64 z0, .int .i64 z1, .int .i64 z2, .int .i64 z3, .int .i64 z4, .int .i64 z5, .int .i64 z6, .int .i64 z7, .int .i64 z8, .int .i64 z9, .slice LA j lc, .int .i64 cf.1, .slice MB cf.2.length md, .slice none 0 0] ?_ ?_ _ _ HRV2.out rsize22 rfl (by simp [Value.oneCell']) ?_
                    · rfl
                    · rfl
                    go_wp2
                    refine bodyPost_ret (v := .tuple #[.agg #[.int .u8 (x0.toNat : Int), .int .i64 x1, .int .i64 x2, .int .i64 x3, .int .i64 x4, .int .i64 x5, .string ⟨x6.toArray⟩, .slice DA x7.length dc, .int .i64 z0, .int .i64 z1, .int .i64 z2, .int .i64 z3, .int .i64 z4, .int .i64 z5, .int .i64 z6, .int .i64 z7, .int .i64 z8, .int .i64 z9, .slice LA j lc, .int .i64 cf.1, .slice MB cf.2.length md, .slice none 0 0], .bool false]) (results_row_tmp (fn := Tryd.f54) (p := 4) (u := 5) (ty := 43) (by kernel_rfl) _ _ RV 43 _ _ _ rfl (setRow_heap _ _ _ _ _ _ HRV2.out) Tryd.underlying43 rfl (by kernel_rfl)) rfl ?_
                    have hfs : Fr (OneB RV) wr (wr.setRow RV #[.int .u8 (x0.toNat : Int), .int .i64 x1, .int .i64 x2, .int .i64 x3, .int .i64 x4, .int .i64 x5, .string ⟨x6.toArray⟩, .slice DA x7.length dc, .int .i64 z0, .int .i64 z1, .int .i64 z2, .int .i64 z3, .int .i64 z4, .int .i64 z5, .int .i64 z6, .int .i64 z7, .int .i64 z8, .int .i64 z9, .slice LA j lc, .int .i64 cf.1, .slice MB cf.2.length md, .slice none 0 0]) := (Fr.refl (OneB RV) wr).setRow (fun _ => rfl) _
                    have hrs : Rows (wr.setRow RV #[.int .u8 (x0.toNat : Int), .int .i64 x1, .int .i64 x2, .int .i64 x3, .int .i64 x4, .int .i64 x5, .string ⟨x6.toArray⟩, .slice DA x7.length dc, .int .i64 z0, .int .i64 z1, .int .i64 z2, .int .i64 z3, .int .i64 z4, .int .i64 z5, .int .i64 z6, .int .i64 z7, .int .i64 z8, .int .i64 z9, .slice LA j lc, .int .i64 cf.1, .slice MB cf.2.length md, .slice none 0 0]) w.heap.size _ := (T.out.rows.fr hfs (fun k hk x hx hg => by have h1 := ((T.out.rows.own x hx).lt hg).1; have h2 := HSW.out; simp only [OneB] at hk; omega)).low F0.out.size
                    have hrr : Rdr (wr.setRow RV #[.int .u8 (x0.toNat : Int), .int .i64 x1, .int .i64 x2, .int .i64 x3, .int .i64 x4, .int .i64 x5, .string ⟨x6.toArray⟩, .slice DA x7.length dc, .int .i64 z0, .int .i64 z1, .int .i64 z2, .int .i64 z3, .int .i64 z4, .int .i64 z5, .int .i64 z6, .int .i64 z7, .int .i64 z8, .int .i64 z9, .slice LA j lc, .int .i64 cf.1, .slice MB cf.2.length md, .slice none 0 0]) lo pr _ := T.out.a.fr hfs (fun k _ hk hx => by have := HPR.out; simp only [OneB] at hx; omega) HLO.out
                    have hff : Fr (OneB pr) w (wr.setRow RV #[.int .u8 (x0.toNat : Int), .int .i64 x1, .int .i64 x2, .int .i64 x3, .int .i64 x4, .int .i64 x5, .string ⟨x6.toArray⟩, .slice DA x7.length dc, .int .i64 z0, .int .i64 z1, .int .i64 z2, .int .i64 z3, .int .i64 z4, .int .i64 z5, .int .i64 z6, .int .i64 z7, .int .i64 z8, .int .i64 z9, .slice LA j lc, .int .i64 cf.1, .slice MB cf.2.length md, .slice none 0 0]) := (F0.out.no.then T.out.fr).setRow (fun hx => absurd hx (by have := HWR.out; omega)) _
                    exact ⟨⟨DA, dc, LA, lc, MB, md, none, 0⟩, [], by rw [HF.out]; simp only [yval, ycells, HTL.out, List.getD_cons_zero, List.getD_cons_succ]; rw [decide_eq_false hmn]; rfl, by rw [HF.out]; rfl, by rw [HF.out]; exact hrr, hff, by rw [HF.out]; simp only [rowsYd, rowsY, List.reverse_nil, List.flatMap_nil, List.nil_append, List.length_nil, HTL.out]; exact hrs, fun _ => ⟨rfl, rfl⟩⟩
            · have hfin := HFIN.out
              rw [if_pos rfl] at hfin
              have HF := Lib.hid hfin
              clear hfin HFIN
              obtain ⟨i1, hi1, hr0, hr1, hr2⟩ := info_parts info_reply
              go_loopw [9, 14] (fun ok i W => ∃ (k : Nat) (PV : Value) (PL : List (Fy × Py)), k ≤ m ∧ i = .int .i64 (k : Int) ∧ ok = .bool (cok && (rdYs k s12).1.2) ∧ PL.length = k ∧ (rdYs k s12).1.1 = PL.map (fun x => (x.1, 0)) ∧ YW wb W lo pr b (rdYs k s12).2 #[.int .u8 (x0.toNat : Int), .int .i64 x1, .int .i64 x2, .int .i64 x3, .int .i64 x4, .int .i64 x5, .string ⟨x6.toArray⟩, .slice DA x7.length dc, .int .i64 z0, .int .i64 z1, .int .i64 z2, .int .i64 z3, .int .i64 z4, .int .i64 z5, .int .i64 z6, .int .i64 z7, .int .i64 z8, .int .i64 z9, .slice LA j lc, .int .i64 cf.1, .slice MB cf.2.length md, PV] (⟨PV, 43, 22, k, yv PL⟩ :: (PL.reverse.flatMap (fun x => rowsY x.1 x.2) ++ (⟨.slice MB cf.2.length md, 106, 4, cf.2.length, mv cf.2⟩ :: ⟨.slice LA j lc, 9, 1, j, tv tl⟩ :: [⟨.slice DA x7.length dc, 5, 1, x7.length, bv x7⟩])))) (fun _ i _ => m - (intOf i).toNat)
              case atStart => exact ⟨0, _, [], Nat.zero_le _, rfl, by simp [rdYs], rfl, rfl, T4.out⟩
              case round =>
                obtain ⟨k, PV, PL, hk, rfl, rfl, hpk, hpl, ht⟩ := hrel
                obtain ⟨PA, pc, rfl, -, -⟩ := own_form4 (show World.ownsRow _ _ _ 22 PV k _ from ht.rows.own _ (List.mem_cons_self))
                have T := Lib.hid ht
                have HPK := Lib.hid hpk
                have HPM := Lib.hid hpl
                clear ht T4 hpk hpl
                by_cases hlt : k < m
                · have hki : (k : Int) < (m : Int) := by omega
                  have hstep : rdYs (k + 1) s12 = (((rdYs k s12).1.1 ++ [((rdYp (rdYs k s12).2).1.1, 0)], (rdYs k s12).1.2 && (rdYp (rdYs k s12).2).1.2), (rdYp (rdYs k s12).2).2) := rfl
                  have hlk := rdYs_lim HL12.out k
                  have hrc := (HREC.out rfl wr _ T.out.a hlk).mono (fun e w' h => GetRes.flat h)
                  have hlen := rdY0_len (rdYs k s12).2
                  rw [show (rdY0 (rdYs k s12).2).1.1 = (rdYp (rdYs k s12).2).1.1 from rfl] at hlen
                  generalize (rdYs k s12).1.1 = q0 at HPM hstep
                  generalize (rdYs k s12).2 = sk at T hstep hrc hlen
                  obtain ⟨okk, hokk⟩ : ∃ okk, (rdYs k s12).1.2 = okk := ⟨_, rfl⟩
                  rw [hokk] at hstep ⊢
                  obtain ⟨⟨f', o'⟩, s', g⟩ : ∃ x t, rdYp sk = (x, t) := ⟨_, _, rfl⟩
                  rw [g] at hrc hstep hlen
                  obtain ⟨k', hd', p', d', st', ls', cv', ms'⟩ := f'
                  simp only at hlen
                  obtain ⟨a0, a1, a2, a3, a4, rfl⟩ := len5 hlen.1
                  obtain ⟨b0, b1, b2, b3, b4, b5, b6, b7, b8, b9, rfl⟩ := len10 hlen.2
                  simp only [yval, ycells, List.getD_cons_zero, List.getD_cons_succ] at hrc
                  have HRC := Lib.hid hrc
                  have HSTEP := Lib.hid hstep
                  obtain ⟨ok, hok⟩ : ∃ ok, (cok && okk) = ok := ⟨_, rfl⟩
                  rw [hok]
                  have HOK := Lib.hid hok
                  clear hrc hstep g hlen hlk hokk hok
                  go_wp2_with (fail)
                  refine HRC.out.mono ?_
                  rintro e v1 ⟨⟨A', c', L', n', B', e1, P', e2⟩, rfl, a, f, hrw⟩
                  have t1 := (T.out.made (T.out.read a f) hrw).perm List.perm_middle
                  rw [← List.append_assoc] at t1
                  have T1 := Lib.hid t1
                  clear a f hrw t1 T HRC
                  go_wp2_with (first | (with_reducible refine held_store (ty := 43) ?_) | fail)
                  unfold Held
                  refine wpList_store_row rfl 43 _ _ rfl v1.heap.size #[.int .u8 k', .int .i64 a0, .int .i64 a1, .int .i64 a2, .int .i64 a3, .int .i64 a4, .string ⟨p'.toArray⟩, .slice A' d'.length c', .int .i64 b0, .int .i64 b1, .int .i64 b2, .int .i64 b3, .int .i64 b4, .int .i64 b5, .int .i64 b6, .int .i64 b7, .int .i64 b8, .int .i64 b9, .slice L' ls'.length n', .int .i64 cv', .slice B' ms'.length e1, .slice P' 0 e2] ?_ ?_ _ _ (heap_alloc_new v1 _) rsize22 rfl (by simp [Value.oneCell']) ?_
                  · rfl
                  · rfl
                  rw [World.setRow_alloc_new]
                  have hb15 := heap_alloc_new v1 (.cells #[.int .u8 k', .int .i64 a0, .int .i64 a1, .int .i64 a2, .int .i64 a3, .int .i64 a4, .string ⟨p'.toArray⟩, .slice A' d'.length c', .int .i64 b0, .int .i64 b1, .int .i64 b2, .int .i64 b3, .int .i64 b4, .int .i64 b5, .int .i64 b6, .int .i64 b7, .int .i64 b8, .int .i64 b9, .slice L' ls'.length n', .int .i64 cv', .slice B' ms'.length e1, .slice P' 0 e2] 43)
                  have FN := Lib.hid ((Fr.refl NoB v1).alloc (.cells #[.int .u8 k', .int .i64 a0, .int .i64 a1, .int .i64 a2, .int .i64 a3, .int .i64 a4, .string ⟨p'.toArray⟩, .slice A' d'.length c', .int .i64 b0, .int .i64 b1, .int .i64 b2, .int .i64 b3, .int .i64 b4, .int .i64 b5, .int .i64 b6, .int .i64 b7, .int .i64 b8, .int .i64 b9, .slice L' ls'.length n', .int .i64 cv', .slice B' ms'.length e1, .slice P' 0 e2] 43))
                  generalize v1.alloc (.cells #[.int .u8 k', .int .i64 a0, .int .i64 a1, .int .i64 a2, .int .i64 a3, .int .i64 a4, .string ⟨p'.toArray⟩, .slice A' d'.length c', .int .i64 b0, .int .i64 b1, .int .i64 b2, .int .i64 b3, .int .i64 b4, .int .i64 b5, .int .i64 b6, .int .i64 b7, .int .i64 b8, .int .i64 b9, .slice L' ls'.length n', .int .i64 cv', .slice B' ms'.length e1, .slice P' 0 e2] 43) = v2 at hb15 FN ⊢
                  generalize v1.heap.size = C at hb15 ⊢
                  have T2 := Lib.hid (T1.out.keep FN.out)
                  have HB15 := Lib.hid hb15
                  have y21 := (T2.out.cell 21).1
                  simp only [List.getElem?_toArray, List.getElem?_cons_zero, List.getElem?_cons_succ] at y21
                  clear T1 hb15 FN
                  go_wp2_with (first | (with_reducible refine held_load (ty := 43) ?_) | fail)
                  unfold Held
                  refine wpList_load_row rfl 43 (.tmp 15) rfl C rfl 43 #[.int .u8 k', .int .i64 a0, .int .i64 a1, .int .i64 a2, .int .i64 a3, .int .i64 a4, .string ⟨p'.toArray⟩, .slice A' d'.length c', .int .i64 b0, .int .i64 b1, .int .i64 b2, .int .i64 b3, .int .i64 b4, .int .i64 b5, .int .i64 b6, .int .i64 b7, .int .i64 b8, .int .i64 b9, .slice L' ls'.length n', .int .i64 cv', .slice B' ms'.length e1, .slice P' 0 e2] (0, 0) _ HB15.out Tryd.underlying43 rfl rsize22 ?_
                  have FW := Lib.hid ((Fr.refl NoB v2).alloc (.cells #[.int .u8 k', .int .i64 a0, .int .i64 a1, .int .i64 a2, .int .i64 a3, .int .i64 a4, .string ⟨p'.toArray⟩, .slice A' d'.length c', .int .i64 b0, .int .i64 b1, .int .i64 b2, .int .i64 b3, .int .i64 b4, .int .i64 b5, .int .i64 b6, .int .i64 b7, .int .i64 b8, .int .i64 b9, .slice L' ls'.length n', .int .i64 cv', .slice B' ms'.length e1, .slice P' 0 e2] 43))
                  have SR := Lib.hid (src_block v2 #[.int .u8 k', .int .i64 a0, .int .i64 a1, .int .i64 a2, .int .i64 a3, .int .i64 a4, .string ⟨p'.toArray⟩, .slice A' d'.length c', .int .i64 b0, .int .i64 b1, .int .i64 b2, .int .i64 b3, .int .i64 b4, .int .i64 b5, .int .i64 b6, .int .i64 b7, .int .i64 b8, .int .i64 b9, .slice L' ls'.length n', .int .i64 cv', .slice B' ms'.length e1, .slice P' 0 e2] 43 (yv [(⟨k', [a0, a1, a2, a3, a4], p', d', [b0, b1, b2, b3, b4, b5, b6, b7, b8, b9], ls', (cv', ms')⟩, ⟨A', c', L', n', B', e1, P', e2⟩)]) rfl)
                  have HSZ := Lib.hid (Nat.le_trans T2.out.fr.size FW.out.size)
                  have HOW := Lib.hid ((T2.out.keep FW.out).rows.own _ (List.mem_cons_self))
                  go_wp2_with (at_builtin; go_loud (refine wpList_append_src _ rfl _ _ 41 rfl wb.heap.size 43 i1 (.agg #[.int .u8 0, .int .i64 0, .int .i64 0, .int .i64 0, .int .i64 0, .int .i64 0, .string ⟨#[]⟩, .slice none 0 0, .int .i64 0, .int .i64 0, .int .i64 0, .int .i64 0, .int .i64 0, .int .i64 0, .int .i64 0, .int .i64 0, .int .i64 0, .int .i64 0, .slice none 0 0, .int .i64 0, .slice none 0 0, .slice none 0 0]) 22 248 Tryd.underlying41 hi1 hr0 hr1 hr2 rfl (by decide) (.slice PA k pc) k (yv PL) rfl HOW.out _ 1 _ (yv [(⟨k', [a0, a1, a2, a3, a4], p', d', [b0, b1, b2, b3, b4, b5, b6, b7, b8, b9], ls', (cv', ms')⟩, ⟨A', c', L', n', B', e1, P', e2⟩)]) rfl rfl (fun _ => SR.out) (by intro u hu; rw [yv_one] at hu; exact (Array.all_eq_true_iff_forall_mem.1 (ycells_one _ _ _)) u (by simpa using hu)) (by unfold maxLen; omega) (by omega) HSZ.out ?_))
                  intro v' wA hA
                  have hpu := T2.out.push FW.out hA
                  obtain ⟨A2, c2, rfl, -, -⟩ := own_form4 hA.own
                  have T3 := Lib.hid hpu
                  have q21 := (T3.out.cell 21).1
                  have z21 := (T3.out.cell 21).2
                  simp only [List.getElem?_toArray, List.getElem?_cons_zero, List.getElem?_cons_succ] at q21
                  have t4 := T3.out.set 21 (.slice A2 (k + 1) c2)
                  simp only [List.setIfInBounds_toArray, List.set_cons_zero, List.set_cons_succ] at t4
                  have T4 := Lib.hid t4
                  clear hA hpu t4 T3 T2 FW SR HSZ HOW y21 HB15
                  cases ok
                  · go_wp2
                    go_roundw
                    case rel => exact ⟨k + 1, _, PL ++ [(⟨k', [a0, a1, a2, a3, a4], p', d', [b0, b1, b2, b3, b4, b5, b6, b7, b8, b9], ls', (cv', ms')⟩, ⟨A', c', L', n', B', e1, P', e2⟩)], by omega, by go_num, by rw [HSTEP.out]; simp only; rw [← Bool.and_assoc, HOK.out, Bool.false_and], by rw [List.length_append, HPK.out]; rfl, by rw [HSTEP.out, List.map_append, HPM.out]; rfl, by rw [HSTEP.out, yv_append, List.reverse_append, List.reverse_singleton, List.singleton_append, List.flatMap_cons]; exact T4.out⟩
                    case measure => simp [intOf]; omega
                  · go_wp2
                    go_roundw
                    case rel => exact ⟨k + 1, _, PL ++ [(⟨k', [a0, a1, a2, a3, a4], p', d', [b0, b1, b2, b3, b4, b5, b6, b7, b8, b9], ls', (cv', ms')⟩, ⟨A', c', L', n', B', e1, P', e2⟩)], by omega, by go_num, by rw [HSTEP.out]; simp only; rw [← Bool.and_assoc, HOK.out, Bool.true_and], by rw [List.length_append, HPK.out]; rfl, by rw [HSTEP.out, List.map_append, HPM.out]; rfl, by rw [HSTEP.out, yv_append, List.reverse_append, List.reverse_singleton, List.singleton_append, List.flatMap_cons]; exact T4.out⟩
                    case measure => simp [intOf]; omega
                · obtain rfl : k = m := by omega
                  obtain ⟨ok, hok⟩ : ∃ ok, (cok && (rdYs k s12).1.2) = ok := ⟨_, rfl⟩
                  rw [hok]
                  have HOK := Lib.hid hok
                  clear hok HREC HL12
                  cases ok
                  · as_aux_lemma =>
                    have HRV2 := Lib.hid (T.out.fr.at_ HRV.out (fun e => by have := HPR.out; simp only [OneB] at e; omega))
                    go_wp2_with (first | (with_reducible refine held_load (ty := 43) ?_) | fail)
                    unfold Held
                    refine wpList_load_row rfl 43 (.tmp 6) rfl b rfl 43 #[.int .u8 (x0.toNat : Int), .int .i64 x1, .int .i64 x2, .int .i64 x3, .int .i64 x4, .int .i64 x5, .string ⟨x6.toArray⟩, .slice DA x7.length dc, .int .i64 z0, .int .i64 z1, .int .i64 z2, .int .i64 z3, .int .i64 z4, .int .i64 z5, .int .i64 z6, .int .i64 z7, .int .i64 z8, .int .i64 z9, .slice LA j lc, .int .i64 cf.1, .slice MB cf.2.length md, .slice PA k pc] (0, 0) _ T.out.bx Tryd.underlying43 rfl rsize22 ?_
                    go_wp2_with (first | (with_reducible refine held_store (ty := 43) ?_) | fail)
                    unfold Held
                    refine wpList_store_row rfl 43 _ _ rfl RV #[.int .u8 (x0.toNat : Int), .int .i64 x1, .int .i64 x2, .int .i64 x3, .int .i64 x4, .int .i64 x5, .string ⟨x6.toArray⟩, .slice DA x7.length dc, .int .i64 z0, .int .i64 z1, .int .i64 z2, .int .i64 z3, .int .i64 z4, .int .i64 z5, .int .i64 z6, .int .i64 z7, .int .i64 z8, .int .i64 z9, .slice LA j lc, .int .i64 cf.1, .slice MB cf.2.length md, .slice PA k pc] ?_ ?_ _ _ HRV2.out rsize22 rfl (by simp [Value.oneCell']) ?_
                    · rfl
                    · rfl
                    go_wp2
                    refine bodyPost_ret (v := .tuple #[.agg #[.int .u8 (x0.toNat : Int), .int .i64 x1, .int .i64 x2, .int .i64 x3, .int .i64 x4, .int .i64 x5, .string ⟨x6.toArray⟩, .slice DA x7.length dc, .int .i64 z0, .int .i64 z1, .int .i64 z2, .int .i64 z3, .int .i64 z4, .int .i64 z5, .int .i64 z6, .int .i64 z7, .int .i64 z8, .int .i64 z9, .slice LA j lc, .int .i64 cf.1, .slice MB cf.2.length md, .slice PA k pc], .bool false]) (results_row_tmp (fn := Tryd.f54) (p := 4) (u := 5) (ty := 43) (by kernel_rfl) _ _ RV 43 _ _ _ rfl (setRow_heap _ _ _ _ _ _ HRV2.out) Tryd.underlying43 rfl (by kernel_rfl)) rfl ?_
                    have hfs : Fr (OneB RV) wr (wr.setRow RV #[.int .u8 (x0.toNat : Int), .int .i64 x1, .int .i64 x2, .int .i64 x3, .int .i64 x4, .int .i64 x5, .string ⟨x6.toArray⟩, .slice DA x7.length dc, .int .i64 z0, .int .i64 z1, .int .i64 z2, .int .i64 z3, .int .i64 z4, .int .i64 z5, .int .i64 z6, .int .i64 z7, .int .i64 z8, .int .i64 z9, .slice LA j lc, .int .i64 cf.1, .slice MB cf.2.length md, .slice PA k pc]) := (Fr.refl (OneB RV) wr).setRow (fun _ => rfl) _
                    have hrs : Rows (wr.setRow RV #[.int .u8 (x0.toNat : Int), .int .i64 x1, .int .i64 x2, .int .i64 x3, .int .i64 x4, .int .i64 x5, .string ⟨x6.toArray⟩, .slice DA x7.length dc, .int .i64 z0, .int .i64 z1, .int .i64 z2, .int .i64 z3, .int .i64 z4, .int .i64 z5, .int .i64 z6, .int .i64 z7, .int .i64 z8, .int .i64 z9, .slice LA j lc, .int .i64 cf.1, .slice MB cf.2.length md, .slice PA k pc]) w.heap.size _ := (T.out.rows.fr hfs (fun k hk x hx hg => by have h1 := ((T.out.rows.own x hx).lt hg).1; have h2 := HSW.out; simp only [OneB] at hk; omega)).low F0.out.size
                    have hrr : Rdr (wr.setRow RV #[.int .u8 (x0.toNat : Int), .int .i64 x1, .int .i64 x2, .int .i64 x3, .int .i64 x4, .int .i64 x5, .string ⟨x6.toArray⟩, .slice DA x7.length dc, .int .i64 z0, .int .i64 z1, .int .i64 z2, .int .i64 z3, .int .i64 z4, .int .i64 z5, .int .i64 z6, .int .i64 z7, .int .i64 z8, .int .i64 z9, .slice LA j lc, .int .i64 cf.1, .slice MB cf.2.length md, .slice PA k pc]) lo pr _ := T.out.a.fr hfs (fun k _ hk hx => by have := HPR.out; simp only [OneB] at hx; omega) HLO.out
                    have hff : Fr (OneB pr) w (wr.setRow RV #[.int .u8 (x0.toNat : Int), .int .i64 x1, .int .i64 x2, .int .i64 x3, .int .i64 x4, .int .i64 x5, .string ⟨x6.toArray⟩, .slice DA x7.length dc, .int .i64 z0, .int .i64 z1, .int .i64 z2, .int .i64 z3, .int .i64 z4, .int .i64 z5, .int .i64 z6, .int .i64 z7, .int .i64 z8, .int .i64 z9, .slice LA j lc, .int .i64 cf.1, .slice MB cf.2.length md, .slice PA k pc]) := (F0.out.no.then T.out.fr).setRow (fun hx => absurd hx (by have := HWR.out; omega)) _
                    exact ⟨⟨DA, dc, LA, lc, MB, md, PA, pc⟩, PL, by rw [HF.out]; simp only [yval, ycells, HTL.out, HPK.out, HOK.out, List.getD_cons_zero, List.getD_cons_succ], by rw [HF.out]; exact HPM.out, by rw [HF.out]; exact hrr, hff, by rw [HF.out]; simp only [rowsYd, rowsY, HTL.out, HPK.out]; exact hrs, fun h => absurd h (by simp)⟩
                  · as_aux_lemma =>
                    have HRV2 := Lib.hid (T.out.fr.at_ HRV.out (fun e => by have := HPR.out; simp only [OneB] at e; omega))
                    go_wp2_with (first | (with_reducible refine held_load (ty := 43) ?_) | fail)
                    unfold Held
                    refine wpList_load_row rfl 43 (.tmp 6) rfl b rfl 43 #[.int .u8 (x0.toNat : Int), .int .i64 x1, .int .i64 x2, .int .i64 x3, .int .i64 x4, .int .i64 x5, .string ⟨x6.toArray⟩, .slice DA x7.length dc, .int .i64 z0, .int .i64 z1, .int .i64 z2, .int .i64 z3, .int .i64 z4, .int .i64 z5, .int .i64 z6, .int .i64 z7, .int .i64 z8, .int .i64 z9, .slice LA j lc, .int .i64 cf.1, .slice MB cf.2.length md, .slice PA k pc] (0, 0) _ T.out.bx Tryd.underlying43 rfl rsize22 ?_
                    go_wp2_with (first | (with_reducible refine held_store (ty := 43) ?_) | fail)
                    unfold Held
                    refine wpList_store_row rfl 43 _ _ rfl RV #[.int .u8 (x0.toNat : Int), .int .i64 x1, .int .i64 x2, .int .i64 x3, .int .i64 x4, .int .i64 x5, .string ⟨x6.toArray⟩, .slice DA x7.length dc, .int .i64 z0, .int .i64 z1, .int .i64 z2, .int .i64 z3, .int .i64 z4, .int .i64 z5, .int .i64 z6, .int .i64 z7, .int .i64 z8, .int .i64 z9, .slice LA j lc, .int .i64 cf.1, .slice MB cf.2.length md, .slice PA k pc] ?_ ?_ _ _ HRV2.out rsize22 rfl (by simp [Value.oneCell']) ?_
                    · rfl
                    · rfl
                    go_wp2
                    refine bodyPost_ret (v := .tuple #[.agg #[.int .u8 (x0.toNat : Int), .int .i64 x1, .int .i64 x2, .int .i64 x3, .int .i64 x4, .int .i64 x5, .string ⟨x6.toArray⟩, .slice DA x7.length dc, .int .i64 z0, .int .i64 z1, .int .i64 z2, .int .i64 z3, .int .i64 z4, .int .i64 z5, .int .i64 z6, .int .i64 z7, .int .i64 z8, .int .i64 z9, .slice LA j lc, .int .i64 cf.1, .slice MB cf.2.length md, .slice PA k pc], .bool true]) (results_row_tmp (fn := Tryd.f54) (p := 4) (u := 5) (ty := 43) (by kernel_rfl) _ _ RV 43 _ _ _ rfl (setRow_heap _ _ _ _ _ _ HRV2.out) Tryd.underlying43 rfl (by kernel_rfl)) rfl ?_
                    have hfs : Fr (OneB RV) wr (wr.setRow RV #[.int .u8 (x0.toNat : Int), .int .i64 x1, .int .i64 x2, .int .i64 x3, .int .i64 x4, .int .i64 x5, .string ⟨x6.toArray⟩, .slice DA x7.length dc, .int .i64 z0, .int .i64 z1, .int .i64 z2, .int .i64 z3, .int .i64 z4, .int .i64 z5, .int .i64 z6, .int .i64 z7, .int .i64 z8, .int .i64 z9, .slice LA j lc, .int .i64 cf.1, .slice MB cf.2.length md, .slice PA k pc]) := (Fr.refl (OneB RV) wr).setRow (fun _ => rfl) _
                    have hrs : Rows (wr.setRow RV #[.int .u8 (x0.toNat : Int), .int .i64 x1, .int .i64 x2, .int .i64 x3, .int .i64 x4, .int .i64 x5, .string ⟨x6.toArray⟩, .slice DA x7.length dc, .int .i64 z0, .int .i64 z1, .int .i64 z2, .int .i64 z3, .int .i64 z4, .int .i64 z5, .int .i64 z6, .int .i64 z7, .int .i64 z8, .int .i64 z9, .slice LA j lc, .int .i64 cf.1, .slice MB cf.2.length md, .slice PA k pc]) w.heap.size _ := (T.out.rows.fr hfs (fun k hk x hx hg => by have h1 := ((T.out.rows.own x hx).lt hg).1; have h2 := HSW.out; simp only [OneB] at hk; omega)).low F0.out.size
                    have hrr : Rdr (wr.setRow RV #[.int .u8 (x0.toNat : Int), .int .i64 x1, .int .i64 x2, .int .i64 x3, .int .i64 x4, .int .i64 x5, .string ⟨x6.toArray⟩, .slice DA x7.length dc, .int .i64 z0, .int .i64 z1, .int .i64 z2, .int .i64 z3, .int .i64 z4, .int .i64 z5, .int .i64 z6, .int .i64 z7, .int .i64 z8, .int .i64 z9, .slice LA j lc, .int .i64 cf.1, .slice MB cf.2.length md, .slice PA k pc]) lo pr _ := T.out.a.fr hfs (fun k _ hk hx => by have := HPR.out; simp only [OneB] at hx; omega) HLO.out
                    have hff : Fr (OneB pr) w (wr.setRow RV #[.int .u8 (x0.toNat : Int), .int .i64 x1, .int .i64 x2, .int .i64 x3, .int .i64 x4, .int .i64 x5, .string ⟨x6.toArray⟩, .slice DA x7.length dc, .int .i64 z0, .int .i64 z1, .int .i64 z2, .int .i64 z3, .int .i64 z4, .int .i64 z5, .int .i64 z6, .int .i64 z7, .int .i64 z8, .int .i64 z9, .slice LA j lc, .int .i64 cf.1, .slice MB cf.2.length md, .slice PA k pc]) := (F0.out.no.then T.out.fr).setRow (fun hx => absurd hx (by have := HWR.out; omega)) _
                    exact ⟨⟨DA, dc, LA, lc, MB, md, PA, pc⟩, PL, by rw [HF.out]; simp only [yval, ycells, HTL.out, HPK.out, HOK.out, List.getD_cons_zero, List.getD_cons_succ], by rw [HF.out]; exact HPM.out, by rw [HF.out]; exact hrr, hff, by rw [HF.out]; simp only [rowsYd, rowsY, HTL.out, HPK.out]; exact hrs, fun h => absurd h (by simp)⟩
theorem ygetFlat_calls (lo pr : Nat) (st : RSt) (w : World) (ha : Rdr w lo pr st) (h1 : lo ≤ pr) (hlim : RLim st) : Calls Tryd.prog 54 #[.pointer (some ⟨pr, 0, none⟩), .bool false] w (GetRes false lo pr st w) :=
  yget_core false lo pr st w ha h1 hlim (fun h => absurd h (by simp))
theorem ygetDeep_calls (lo pr : Nat) (st : RSt) (w : World) (ha : Rdr w lo pr st) (h1 : lo ≤ pr) (hlim : RLim st) : Calls Tryd.prog 54 #[.pointer (some ⟨pr, 0, none⟩), .bool true] w (GetRes true lo pr st w) :=
  yget_core true lo pr st w ha h1 hlim (fun _ W s r l => ygetFlat_calls lo pr s W r h1 l)
end Go.Proofs.YtlckgkpgllhpbaaDoor
