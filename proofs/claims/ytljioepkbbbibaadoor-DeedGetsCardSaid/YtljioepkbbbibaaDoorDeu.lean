/-
  Deu: read of a kind with parts.
-/
import Derived.Test.YtljioepkbbbibaaDoorDet
import Derived.Deep.DrawnRows
import Derived.Deep.RegionLaw
namespace Go.Proofs.YtljioepkbbbibaaDoor
open Go.RowKit
attribute [local go_sem ↓] Go.wp_at_zero Go.wp_at_succ

theorem rdFd_lim {f : Fd} {st : RSt} (h : RLim st) : RLim (rdFd f st).2 := by
  have h1 := rBytes_lim (m := 200) h
  have h2 := rBytes_lim (m := 1000) h1
  unfold rdFd
  split
  · exact rInt_lim (rInt_lim h2)
  split
  · exact rInt_lim h1
  split
  · exact rInt_lim h2
  split
  · exact rInt_lim h
  split
  · exact rInt_lim h
  split
  · exact rBytes_lim h
  split
  · exact rInt_lim h
  · exact h
/-- Where a walk stands still. -/
def Held (p : Prop) : Prop := p
theorem held_store {P : Program} {ops : Array Oper} {Q : Exit → Act → World → Prop} {rest : List Oper} {a : Act} {w : World} {ty tp : TypeId} {x y : Operand} {dst : Option Tmp} {ps : String} {af : Array Edge} {gd : Option (Nat × Bool)} (h : Held (wpList P ops Q ({ dst := dst, op := .store ty x y, type := tp, pos := ps, after := af, guard := gd } :: rest) a w)) : wpList P ops Q ({ dst := dst, op := .store ty x y, type := tp, pos := ps, after := af, guard := gd } :: rest) a w := h
theorem info_deed : (Tryd.prog.info? 31).map (fun i => (i.zero, i.size, i.bytes)) = some (some (.agg (dcells (bareF 0) pl0 0)), 16, 184) := by kernel_rfl
set_option maxHeartbeats 6400000 in
set_option maxRecDepth 8000 in
theorem rdp5_calls (f : Fd) (lo pr b : Nat) (st : RSt) (w : World) (hz : f = bareOf f) (ha : Rdr w lo pr st) (h1 : lo ≤ pr) (h2 : pr < b) (hbx : w.heap[b]? = some (.cells (dcells f pl0 0) 31 (0, 0))) (hlim : RLim st) (hH : Has w) (hgp : 0 < pr) (hk : f.k = 5) :
    Calls Tryd.prog 39 #[.pointer (some ⟨pr, 0, none⟩), .pointer (some ⟨b, 0, none⟩), .bool true] w fun e w' => e = .returned (.tuple #[]) ∧ ∃ V PL, DP w w' lo pr b (rdPs (rCount (rdFd f st).2 500).1.toNat (rCount (rdFd f st).2 500).2).2 (rdFd f st).1 V PL ∧ (rdPs (rCount (rdFd f st).2 500).1.toNat (rCount (rdFd f st).2 500).2).1 = PL.map (fun x => (x.1, 0)) := by
  obtain ⟨z, k, s, t, x, m, path, data, ow, ve, cv, ti, er, cver, ms⟩ := f
  simp only [bareOf, Fd.mk.injEq, Prod.mk.injEq, true_and] at hz
  obtain ⟨rfl, rfl, rfl, rfl, rfl, rfl, rfl, rfl, rfl⟩ := hz
  simp only at hk
  subst hk
  have hcell : w.cell? ⟨0, 5, none⟩ = some (.int .i64 260) := hH.2 5 (by decide)
  have b1 : bits .and .i64 260 1 = 0 := by decide
  have b2 : bits .and .i64 260 2 = 0 := by decide
  have b4 : bits .and .i64 260 4 = 4 := by decide
  have b8 : bits .and .i64 260 8 = 0 := by decide
  have b16 : bits .and .i64 260 16 = 0 := by decide
  have b32 : bits .and .i64 260 32 = 0 := by decide
  have b64 : bits .and .i64 260 64 = 0 := by decide
  have b128 : bits .and .i64 260 128 = 0 := by decide
  have b256 : bits .and .i64 260 256 = 256 := by decide
  have T0 := Lib.hid (DR.start ha hbx h1 h2)
  have hbw := Lib.lt_of_heap hbx
  have d1 := T0.out.cell 1 _ rfl
  obtain ⟨d1, -⟩ := d1
  have HH := Lib.hid hH
  have hhas := hH.1
  obtain ⟨x0, s1, g0⟩ : ∃ x t, rInt st = (x, t) := ⟨_, _, rfl⟩
  have hc0 := fun W (r : Rdr W lo pr st) => rInt_calls lo pr st W r
  rw [g0] at hc0
  have hlim1 : RLim s1 := by have := rInt_lim hlim; rw [g0] at this; exact this
  rw [show rdFd ⟨z, 5, s, t, x, m, [], [], 0, 0, 0, 0, 0, (0, [])⟩ st = (⟨z, 5, s, t, x, m, [], [], x0, 0, 0, 0, 0, (0, [])⟩, s1) by simp [rdFd, g0]]
  simp only
  have hrc := rCount_range s1 500 (by omega)
  have hlim2 : RLim (rCount s1 500).2 := rCount_lim hlim1
  have hc1 := fun W (r : Rdr W lo pr s1) => rCount_calls lo pr s1 500 W r
  obtain ⟨ni, s2, g1⟩ : ∃ x t, rCount s1 500 = (x, t) := ⟨_, _, rfl⟩
  rw [g1] at hrc hlim2 hc1 ⊢
  simp only at hrc hlim2
  obtain ⟨n, rfl⟩ := Int.eq_ofNat_of_zero_le hrc.1
  have hn5 : n ≤ 500 := by omega
  simp only [Int.toNat_natCast]
  obtain ⟨rl, hrl⟩ : ∃ rl, rdPs n s2 = rl := ⟨_, rfl⟩
  rw [hrl]
  have HRL := Lib.hid hrl
  have HC0 := Lib.hid hc0
  have HC1 := Lib.hid hc1
  have HLIM2 := Lib.hid hlim2
  have HB := Lib.hid hbw
  have HHAS := Lib.hid hhas
  simp only [dcells, pl0] at T0 d1
  clear ha hbx hlim hH hrl g1 hrc hc1 hlim1 hlim2 hc0 g0
  obtain ⟨i0, hi0, hz0, hz1, hz2⟩ := info_parts info_deed
  go_enter Tryd.func39, Tryd.ntmps39
  go_wp2_with (fail)
  refine (HC0.out _ T0.out.a).mono ?_
  rintro e v0 ⟨rfl, a0, f0, -⟩
  have U0 := Lib.hid (T0.out.read a0 f0)
  clear a0 f0 T0
  have y := (cells_of U0.out.bx 8).1
  have n0 := (cells_of U0.out.bx 8).2
  simp only [List.getElem?_toArray, List.getElem?_cons_zero, List.getElem?_cons_succ] at y
  have T1 := Lib.hid (U0.out.set 8 (.int .i64 x0))
  simp only [List.setIfInBounds_toArray, List.set_cons_zero, List.set_cons_succ] at T1
  go_wp2_with (fail)
  clear y n0
  generalize v0.setCell ⟨b, 8, none⟩ (.int .i64 x0) = v1 at *
  clear U0
  refine (HC1.out _ T1.out.a).mono ?_
  rintro e v2 ⟨rfl, a2, f2, -⟩
  have T2 := Lib.hid (T1.out.read a2 f2)
  clear a2 f2 T1
  go_wp2
  clear d1 hcell b1 b2 b4 b8 b16 b32 b64 b128 b256
  go_loopw [102] (fun i W => ∃ (k : Nat) (A : Option Addr) (cA : Nat) (PL : List (Fd × Pl)) (st1 : RSt), k ≤ n ∧ i = .int .i64 (k : Int) ∧ PL.length = k ∧ DP w W lo pr b st1 ⟨z, 5, s, t, x, m, [], [], x0, 0, 0, 0, 0, (0, [])⟩ (.slice A k cA) PL ∧ rl = (PL.map (fun x => (x.1, 0)) ++ (rdPs (n - k) st1).1, (rdPs (n - k) st1).2) ∧ RLim st1) (fun i _ => n - (intOf i).toNat)
  case atStart => exact ⟨0, none, 0, [], s2, Nat.zero_le _, rfl, rfl, ⟨T2.out, World.ownsRow_nil _ _ _ _, fun x hx => absurd hx (by simp), HB.out⟩, by simpa using HRL.out.symm, HLIM2.out⟩
  case round =>
    obtain ⟨k, A, cA, PL, st1, hk, rfl, hpl, ht, hr, hlm⟩ := hrel
    have T := Lib.hid ht
    have HR := Lib.hid hr
    have HLM := Lib.hid hlm
    have HPL := Lib.hid hpl
    clear ht hr hlm hpl T2
    by_cases hlt : k < n
    · have hki : (k : Int) < (n : Int) := by omega
      obtain ⟨q, hq⟩ : ∃ q, n - k = q + 1 := ⟨n - k - 1, by omega⟩
      have hr2 := HR.out
      rw [hq, rdPs] at hr2
      have HR2 := Lib.hid hr2
      have HQ := Lib.hid hq
      clear hr2 hq HR
      have hbc := rByte_calls lo pr st1 wr T.out.r.a
      obtain ⟨kb, s3, g3⟩ : ∃ x t, rByte st1 = (x, t) := ⟨_, _, rfl⟩
      rw [g3] at hbc
      have hlm3 : RLim s3 := by
        have := HLM.out
        rcases st1 with _ | ⟨_ | ⟨c0, l0⟩⟩
        · cases g3; trivial
        · cases g3; trivial
        · cases g3; simp only [RLim, List.length_cons] at this ⊢; omega
      have hrp : rdPart st1 = rdFd (bareF kb.toNat) s3 := by unfold rdPart; rw [g3]
      rw [hrp] at HR2
      have HLM3 := Lib.hid hlm3
      have HBC := Lib.hid hbc
      clear hbc g3 hlm3 hrp
      go_wp2_with (fail)
      refine HBC.out.mono ?_
      rintro e w3 ⟨rfl, a3, f3, -⟩
      have T3 := Lib.hid (T.out.read a3 f3)
      clear a3 f3 HBC T
      go_wp2_with (fail)
      have HRD := Lib.hid (rdFlat_calls (bareF kb.toNat) false lo pr w3.heap.size s3 (w3.alloc (.cells (dcells (bareF kb.toNat) pl0 0) 31)) (bareF_ok kb) rfl (T3.out.r.a.fr ((Fr.refl NoB w3).alloc _) (fun _ _ _ x => x) h1) h1 T3.out.r.a.lt (heap_alloc_new w3 _) HLM3.out (HH.out.frw (T3.out.r.fr.trans ((Fr.refl NoB w3).alloc _) (fun _ _ x => x.elim)) (by simp only [ReadB]; omega)) (fun _ => rfl))
      obtain ⟨f', s4, g4⟩ : ∃ x t, rdFd (bareF kb.toNat) s3 = (x, t) := ⟨_, _, rfl⟩
      have hlm4 : RLim s4 := by have := rdFd_lim (f := bareF kb.toNat) HLM3.out; rw [g4] at this; exact this
      have HLM4 := Lib.hid hlm4
      rw [g4] at HRD HR2
      clear hlm4 g4
      refine HRD.out.mono ?_
      rintro e w5 ⟨rfl, pl, hg⟩
      have HG := Lib.hid hg
      have ftot := ((Fr.refl (OneB pr) w3).alloc (.cells (dcells (bareF kb.toNat) pl0 0) 31)).trans hg.r.fr (fun j hj hx => by
        rcases hx with hx | hx
        · exact hx
        · omega)
      have T5 := Lib.hid (T3.out.read hg.r.a ftot)
      have hlo : w3.heap.size + 1 ≤ w5.heap.size := by have := hg.r.fr.size; simpa using this
      have HPA : Hid (PartAt w w5 (.slice A k cA) (f', pl)) := by
        refine ⟨(w3.alloc (.cells (dcells (bareF kb.toNat) pl0 0) 31)).heap.size, w5.heap.size, Nat.le_trans T3.out.r.fr.size (by simp), Nat.le_refl _, fun g hg2 h3 => ?_, hg.d, fun g hg2 => (hg.d.lt g hg2).2, hg.m, hg.p.1, hg.p.2⟩
        have h4 := (T3.out.own.lt g hg2).2
        have h5 := h3.1
        simp at h5
        omega
      have HBX := Lib.hid hg.r.bx
      have HBC3 := Lib.hid (Lib.lt_of_heap T3.out.r.bx)
      have HVC := Lib.hid (fun (g : Nat) (hg2 : (Value.slice A k cA).ownBlock = some g) => Nat.ne_of_lt (T3.out.own.lt g hg2).2)
      have hgc := rGood_calls lo pr s4 w5 hg.r.a
      clear hg ftot HG HRD T3
      have HGC := Lib.hid hgc
      clear hgc
      go_wp2_with (fail)
      refine HGC.out.mono ?_
      rintro e w6 ⟨rfl, rfl⟩
      clear HGC
      by_cases hgood : rGood s4 = true
      · rw [hgood] at HR2 ⊢
        go_wp2
        clear HH HHAS hhas HLM HLM3 h1 h2 hgp HRL HC0 HC1 HLIM2
        have HSZ5 := Lib.hid hlo
        clear hlo
        have HCB : Hid (b < w3.heap.size) := HBC3.out
        obtain ⟨C, hC⟩ : ∃ C, w3.heap.size = C := ⟨_, rfl⟩
        rw [hC] at HBX HSZ5 HVC HCB ⊢
        clear hC
        go_region
        · have F6 := Lib.hid (((Fr.refl NoB w5).alloc (.cells #[.bool false] 4)).drew)
          generalize (w5.alloc (.cells #[.bool false] 4)).drew = w6 at F6 ⊢
          have T6 := Lib.hid (T5.out.keep F6.out)
          have HB6 := Lib.hid (F6.out.at_ HBX.out (fun x => x))
          have HP6 := Lib.hid (HPA.out.keep F6.out (fun _ h => h.elim) (fun g h => .inl h))
          have HLC : Hid (C < w6.heap.size) := Nat.lt_of_lt_of_le HSZ5.out F6.out.size
          have HLCB := HCB
          clear T5 HBX HPA F6 HSZ5
          have y15 := (cells_of T6.out.r.bx 15).1
          have n15 := (cells_of T6.out.r.bx 15).2
          simp only [dcells, List.setIfInBounds_toArray, List.set_cons_zero, List.set_cons_succ, List.getElem?_toArray, List.getElem?_cons_zero, List.getElem?_cons_succ] at y15
          have HOWN := Lib.hid (HPL.out ▸ T6.out.own : w6.ownsRow w.heap.size 31 16 (.slice A k cA) k (pv PL))
          have HBB : Hid (w.heap.size ≤ w6.heap.size) := T6.out.r.fr.size
          have HNB := Lib.hid (fun (g : Nat) (hg : (Value.slice A k cA).ownBlock = some g) => Nat.ne_of_gt (Nat.lt_of_lt_of_le HB.out (HOWN.out.lt g hg).1))
          have hk5 : k ≤ 500 := by omega
          obtain ⟨z1, kk, sn, t1, x1, m1, path1, data1, ow1, ve1, cv1, ti1, er1, cver1, ms1⟩ := f'
          obtain ⟨A1, ca, B1, cb, P1, cp⟩ := pl
          simp only [dcells] at HB6
          go_wp2_with (first
            | (at_builtin; go_loud (refine wpList_append_lies _ rfl _ _ 29 rfl w.heap.size 31 i0 (.agg (dcells (bareF 0) pl0 0)) 16 184 Tryd.underlying29 hi0 hz0 hz1 hz2 rfl (by decide) (.slice A k cA) k (pv PL) rfl (HOWN.out.alloc _) _ 1 _ (dcells (bareF 0) pl0 0).toList rfl rfl (World.news_of_block (heap_alloc_new w6 _)) (dcells_one _ _ _) (by decide) (by unfold maxLen; omega) (by omega) (Nat.le_trans HBB.out (by simp)) (w6.heap.size + 1) (by simp) ?_))
            | fail)
          have cc0 := (cells_of HB6.out 0).1
          have cc1 := (cells_of HB6.out 1).1
          have cc2 := (cells_of HB6.out 2).1
          have cc3 := (cells_of HB6.out 3).1
          have cc4 := (cells_of HB6.out 4).1
          have cc5 := (cells_of HB6.out 5).1
          have cc6 := (cells_of HB6.out 6).1
          have cc7 := (cells_of HB6.out 7).1
          have cc8 := (cells_of HB6.out 8).1
          have cc9 := (cells_of HB6.out 9).1
          have cc10 := (cells_of HB6.out 10).1
          have cc11 := (cells_of HB6.out 11).1
          have cc12 := (cells_of HB6.out 12).1
          have cc13 := (cells_of HB6.out 13).1
          have cc14 := (cells_of HB6.out 14).1
          have cc15 := (cells_of HB6.out 15).1
          simp only [List.getElem?_toArray, List.getElem?_cons_zero, List.getElem?_cons_succ] at cc0 cc1 cc2 cc3 cc4 cc5 cc6 cc7 cc8 cc9 cc10 cc11 cc12 cc13 cc14 cc15
          have y15b : ∀ o, (w6.alloc o).cell? ⟨b, 15, none⟩ = some (.slice A k cA) := fun o => (((Fr.refl NoB w6).alloc o).cell (p := ⟨b, 15, none⟩) (World.block_lt_of_cell? _ _ y15) (fun x => x)).trans y15
          go_region_law ((refine step_append_lies _ (by rfl) _ _ 29 (by rfl) w.heap.size 31 i0 (.agg (dcells (bareF 0) pl0 0)) 16 184 Tryd.underlying29 hi0 hz0 hz1 hz2 (by rfl) (by decide) (.slice A k cA) k (pv PL) (by rfl) ((HOWN.out.alloc _).drew) _ 1 _ (dcells ⟨z1, kk, sn, t1, x1, m1, path1, data1, ow1, ve1, cv1, ti1, er1, (cver1, ms1)⟩ ⟨A1, ca, B1, cb, P1, cp⟩ 0).toList (by rfl) (by rfl) (World.news_of_block (heap_alloc_new w6 _)) (dcells_one _ _ _) (by decide) (by unfold maxLen; omega) (by omega) (Nat.le_trans HBB.out (by simp)) (w6.heap.size + 1) (by simp) ?_; intro g cap w7 hown hgrow hat hlt; have hb7 := (hgrow.block b (by have := Lib.lt_of_heap T6.out.r.bx; simp; omega) (fun e => HNB.out b e.symm rfl)).trans ((Below.heap_alloc w6 _ b (Lib.lt_of_heap T6.out.r.bx)).trans T6.out.r.bx); have y7 := (cells_of hb7 15).1; have n7 := (cells_of hb7 15).2; clear hb7; simp only [dcells, List.setIfInBounds_toArray, List.set_cons_zero, List.set_cons_succ, List.getElem?_toArray, List.getElem?_cons_zero, List.getElem?_cons_succ] at y7))
          all_goals
            have HFIN := Lib.hid (DP.pushB (x := (⟨z1, kk, sn, t1, x1, m1, path1, data1, ow1, ve1, cv1, ti1, er1, (cver1, ms1)⟩, ⟨A1, ca, B1, cb, P1, cp⟩)) HPL.out (T6.out.keep ((Fr.refl NoB w6).drew)) (HP6.out.keep ((Fr.refl NoB w6).drew) (fun _ h => h.elim) (fun g h => .inl h)) (by rw [pv_one]; exact hown) hgrow hat)
            clear hown hgrow hat hlt y15 y15b n15 y7 n7 T6 HP6 HB6 hz0 hz1 hz2 hi0 cc0 cc1 cc2 cc3 cc4 cc5 cc6 cc7 cc8 cc9 cc10 cc11 cc12 cc13 cc14 cc15
            go_wp2
            go_roundw
            case rel => exact ⟨k + 1, some ⟨g, 0, none⟩, cap, PL ++ [(⟨z1, kk, sn, t1, x1, m1, path1, data1, ow1, ve1, cv1, ti1, er1, (cver1, ms1)⟩, ⟨A1, ca, B1, cb, P1, cp⟩)], s4, by omega, by go_num, by rw [List.length_append, HPL.out]; rfl, HFIN.out, by rw [HR2.out, show n - (k + 1) = q by have := HQ.out; omega]; simp, HLM4.out⟩
            case measure => simp [intOf]; omega
        · have F6 := Lib.hid (((Fr.refl NoB w5).alloc (.cells #[.bool true] 4)).drew)
          generalize (w5.alloc (.cells #[.bool true] 4)).drew = w6 at F6 ⊢
          have T6 := Lib.hid (T5.out.keep F6.out)
          have HB6 := Lib.hid (F6.out.at_ HBX.out (fun x => x))
          have HP6 := Lib.hid (HPA.out.keep F6.out (fun _ h => h.elim) (fun g h => .inl h))
          have HLC : Hid (C < w6.heap.size) := Nat.lt_of_lt_of_le HSZ5.out F6.out.size
          have HLCB := HCB
          clear T5 HBX HPA F6 HSZ5
          have y15 := (cells_of T6.out.r.bx 15).1
          have n15 := (cells_of T6.out.r.bx 15).2
          simp only [dcells, List.setIfInBounds_toArray, List.set_cons_zero, List.set_cons_succ, List.getElem?_toArray, List.getElem?_cons_zero, List.getElem?_cons_succ] at y15
          have HOWN := Lib.hid (HPL.out ▸ T6.out.own : w6.ownsRow w.heap.size 31 16 (.slice A k cA) k (pv PL))
          have HBB : Hid (w.heap.size ≤ w6.heap.size) := T6.out.r.fr.size
          have HNB := Lib.hid (fun (g : Nat) (hg : (Value.slice A k cA).ownBlock = some g) => Nat.ne_of_gt (Nat.lt_of_lt_of_le HB.out (HOWN.out.lt g hg).1))
          have hk5 : k ≤ 500 := by omega
          obtain ⟨z1, kk, sn, t1, x1, m1, path1, data1, ow1, ve1, cv1, ti1, er1, cver1, ms1⟩ := f'
          obtain ⟨A1, ca, B1, cb, P1, cp⟩ := pl
          simp only [dcells] at HB6
          go_wp2_with (first
            | (at_builtin; go_loud (refine wpList_append_lies _ rfl _ _ 29 rfl w.heap.size 31 i0 (.agg (dcells (bareF 0) pl0 0)) 16 184 Tryd.underlying29 hi0 hz0 hz1 hz2 rfl (by decide) (.slice A k cA) k (pv PL) rfl (HOWN.out.alloc _) _ 1 _ (dcells (bareF 0) pl0 0).toList rfl rfl (World.news_of_block (heap_alloc_new w6 _)) (dcells_one _ _ _) (by decide) (by unfold maxLen; omega) (by omega) (Nat.le_trans HBB.out (by simp)) (w6.heap.size + 1) (by simp) ?_))
            | fail)
          intro g cap w7 hown hgrow hat hlt
          have HB7 := Lib.hid ((hgrow.block b (by have := Lib.lt_of_heap T6.out.r.bx; simp; omega) (fun e => HNB.out b e.symm rfl)).trans ((Below.heap_alloc w6 _ b (Lib.lt_of_heap T6.out.r.bx)).trans T6.out.r.bx))
          have HC7 := Lib.hid ((hgrow.block C (by have := HLC.out; simp; omega) (fun e => HVC.out C e.symm rfl)).trans ((Below.heap_alloc w6 _ C HLC.out).trans HB6.out))
          have y7 := (cells_of HB7.out 15).1
          have n7 := (cells_of HB7.out 15).2
          simp only [dcells, List.setIfInBounds_toArray, List.set_cons_zero, List.set_cons_succ, List.getElem?_toArray, List.getElem?_cons_zero, List.getElem?_cons_succ] at y7
          have HGB : Hid (g ≠ b) := by
            have h8 := hown.lt g rfl
            have h9 := HB.out
            show _ ≠ _
            omega
          have HO8 := Lib.hid (own_by hown ((Fr.refl (OneB b) w7).setCell (p := ⟨b, 15, none⟩) (fun _ => rfl) (.slice (some ⟨g, 0, none⟩) (k + 1) cap)) (fun g2 hg2 => by
            have h8 : g = g2 := by simpa [Value.ownBlock] using hg2
            subst h8
            exact HGB.out))
          have HC8 := Lib.hid ((Below.heap_setCell w7 ⟨b, 15, none⟩ (.slice (some ⟨g, 0, none⟩) (k + 1) cap) C (by have := HLCB.out; simp only; omega)).trans HC7.out)
          have HTH : Hid ((w7.setCell ⟨b, 15, none⟩ (.slice (some ⟨g, 0, none⟩) (k + 1) cap)).there g (k * 16) 16) := fun j hj => by
            refine ⟨?_, HO8.out.frozenAt _⟩
            rw [HO8.out.cellAt _ (by omega), List.getElem?_eq_getElem (by rw [List.length_append, pv_length, HPL.out]; simp [dcells, bareF, pl0]; omega)]
            rfl
          have HFIN := Lib.hid (DP.pushA (x := (⟨z1, kk, sn, t1, x1, m1, path1, data1, ow1, ve1, cv1, ti1, er1, (cver1, ms1)⟩, ⟨A1, ca, B1, cb, P1, cp⟩)) rfl HPL.out T6.out HP6.out hown hgrow hat)
          have HCAP := Lib.hid (hown.lt g rfl)
          clear hown hgrow hat hlt HB7 HO8 y15 n15 T6 HP6 HB6 hz0 hz1 hz2 hi0
          have c0 := (cells_of HC7.out 0).1
          have c1 := (cells_of HC7.out 1).1
          have c2 := (cells_of HC7.out 2).1
          have c3 := (cells_of HC7.out 3).1
          have c4 := (cells_of HC7.out 4).1
          have c5 := (cells_of HC7.out 5).1
          have c6 := (cells_of HC7.out 6).1
          have c7 := (cells_of HC7.out 7).1
          have c8 := (cells_of HC7.out 8).1
          have c9 := (cells_of HC7.out 9).1
          have c10 := (cells_of HC7.out 10).1
          have c11 := (cells_of HC7.out 11).1
          have c12 := (cells_of HC7.out 12).1
          have c13 := (cells_of HC7.out 13).1
          have c14 := (cells_of HC7.out 14).1
          have c15 := (cells_of HC7.out 15).1
          simp only [List.getElem?_toArray, List.getElem?_cons_zero, List.getElem?_cons_succ] at c0 c1 c2 c3 c4 c5 c6 c7 c8 c9 c10 c11 c12 c13 c14 c15
          have hne1 : ¬ C = b := by have := HLCB.out; omega
          have hne2 : ¬ b = C := by have := HLCB.out; omega
          clear HC7 HC8
          go_wp2_with (first | (with_reducible refine held_store (ty := 31) ?_) | fail)
          unfold Held
          refine wpList_store_mid rfl 31 (.tmp 124) (.tmp 123) rfl g (k * 16) #[.int .i64 z1, .int .u8 kk, .int .i64 sn, .int .i64 t1, .int .i64 x1, .int .i64 m1, .string ⟨path1.toArray⟩, .slice A1 data1.length ca, .int .i64 ow1, .int .i64 ve1, .int .i64 cv1, .int .i64 ti1, .int .i64 er1, .int .i64 cver1, .slice B1 ms1.length cb, .slice P1 0 cp] ?_ ?_ ?_ size16 ?_ ?_
          · rfl
          · rfl
          · exact HTH.out
          · simp [Value.oneCell']
          simp only [dcells] at HFIN
          generalize ((w7.setCell ⟨b, 15, none⟩ (.slice (some ⟨g, 0, none⟩) (k + 1) cap)).setCells g (k * 16) _) = w9 at HFIN ⊢
          go_wp2
          go_roundw
          case rel => exact ⟨k + 1, some ⟨g, 0, none⟩, cap, PL ++ [(⟨z1, kk, sn, t1, x1, m1, path1, data1, ow1, ve1, cv1, ti1, er1, (cver1, ms1)⟩, ⟨A1, ca, B1, cb, P1, cp⟩)], s4, by omega, by go_num, by rw [List.length_append, HPL.out]; rfl, HFIN.out, by rw [HR2.out, show n - (k + 1) = q by have := HQ.out; omega]; simp, HLM4.out⟩
          case measure => simp [intOf]; omega
      · have hgf : rGood s4 = false := by simpa using hgood
        rw [hgf] at HR2 ⊢
        clear hgood
        go_wp2
        refine bodyPost_ret (results_none rfl _ _ _) rfl ?_
        refine ⟨rfl, .slice A k cA, PL, ?_, ?_⟩
        · rw [HR2.out]; exact T5.out
        · rw [HR2.out]; simp
    · obtain rfl : k = n := by omega
      go_wp2
      go_end0
      have hr := HR.out
      rw [Nat.sub_self, rdPs] at hr
      refine ⟨rfl, .slice A k cA, PL, ?_, ?_⟩
      · rw [hr]; exact T.out
      · rw [hr]; simp
set_option maxHeartbeats 6400000 in
set_option maxRecDepth 8000 in
theorem rdp8_calls (f : Fd) (lo pr b : Nat) (st : RSt) (w : World) (hz : f = bareOf f) (ha : Rdr w lo pr st) (h1 : lo ≤ pr) (h2 : pr < b) (hbx : w.heap[b]? = some (.cells (dcells f pl0 0) 31 (0, 0))) (hlim : RLim st) (hH : Has w) (hgp : 0 < pr) (hk : f.k = 8) :
    Calls Tryd.prog 39 #[.pointer (some ⟨pr, 0, none⟩), .pointer (some ⟨b, 0, none⟩), .bool true] w fun e w' => e = .returned (.tuple #[]) ∧ ∃ V PL, DP w w' lo pr b (rdPs (rCount (rdFd f st).2 500).1.toNat (rCount (rdFd f st).2 500).2).2 (rdFd f st).1 V PL ∧ (rdPs (rCount (rdFd f st).2 500).1.toNat (rCount (rdFd f st).2 500).2).1 = PL.map (fun x => (x.1, 0)) := by
  obtain ⟨z, k, s, t, x, m, path, data, ow, ve, cv, ti, er, cver, ms⟩ := f
  simp only [bareOf, Fd.mk.injEq, Prod.mk.injEq, true_and] at hz
  obtain ⟨rfl, rfl, rfl, rfl, rfl, rfl, rfl, rfl, rfl⟩ := hz
  simp only at hk
  subst hk
  have hcell : w.cell? ⟨0, 8, none⟩ = some (.int .i64 256) := hH.2 8 (by decide)
  have b1 : bits .and .i64 256 1 = 0 := by decide
  have b2 : bits .and .i64 256 2 = 0 := by decide
  have b4 : bits .and .i64 256 4 = 0 := by decide
  have b8 : bits .and .i64 256 8 = 0 := by decide
  have b16 : bits .and .i64 256 16 = 0 := by decide
  have b32 : bits .and .i64 256 32 = 0 := by decide
  have b64 : bits .and .i64 256 64 = 0 := by decide
  have b128 : bits .and .i64 256 128 = 0 := by decide
  have b256 : bits .and .i64 256 256 = 256 := by decide
  have T0 := Lib.hid (DR.start ha hbx h1 h2)
  have hbw := Lib.lt_of_heap hbx
  have d1 := T0.out.cell 1 _ rfl
  obtain ⟨d1, -⟩ := d1
  have HH := Lib.hid hH
  have hhas := hH.1
  have hlim1 : RLim st := hlim
  rw [show rdFd ⟨z, 8, s, t, x, m, [], [], 0, 0, 0, 0, 0, (0, [])⟩ st = (⟨z, 8, s, t, x, m, [], [], 0, 0, 0, 0, 0, (0, [])⟩, st) by simp [rdFd]]
  simp only
  have hrc := rCount_range st 500 (by omega)
  have hlim2 : RLim (rCount st 500).2 := rCount_lim hlim1
  have hc1 := fun W (r : Rdr W lo pr st) => rCount_calls lo pr st 500 W r
  obtain ⟨ni, s2, g1⟩ : ∃ x t, rCount st 500 = (x, t) := ⟨_, _, rfl⟩
  rw [g1] at hrc hlim2 hc1 ⊢
  simp only at hrc hlim2
  obtain ⟨n, rfl⟩ := Int.eq_ofNat_of_zero_le hrc.1
  have hn5 : n ≤ 500 := by omega
  simp only [Int.toNat_natCast]
  obtain ⟨rl, hrl⟩ : ∃ rl, rdPs n s2 = rl := ⟨_, rfl⟩
  rw [hrl]
  have HRL := Lib.hid hrl
  skip
  have HC1 := Lib.hid hc1
  have HLIM2 := Lib.hid hlim2
  have HB := Lib.hid hbw
  have HHAS := Lib.hid hhas
  simp only [dcells, pl0] at T0 d1
  clear ha hbx hlim hH hrl g1 hrc hc1 hlim1 hlim2 
  obtain ⟨i0, hi0, hz0, hz1, hz2⟩ := info_parts info_deed
  go_enter Tryd.func39, Tryd.ntmps39
  go_wp2_with (fail)
  have T1 := T0
  clear T0
  refine (HC1.out _ T1.out.a).mono ?_
  rintro e v2 ⟨rfl, a2, f2, -⟩
  have T2 := Lib.hid (T1.out.read a2 f2)
  clear a2 f2 T1
  go_wp2
  clear d1 hcell b1 b2 b4 b8 b16 b32 b64 b128 b256
  go_loopw [102] (fun i W => ∃ (k : Nat) (A : Option Addr) (cA : Nat) (PL : List (Fd × Pl)) (st1 : RSt), k ≤ n ∧ i = .int .i64 (k : Int) ∧ PL.length = k ∧ DP w W lo pr b st1 ⟨z, 8, s, t, x, m, [], [], 0, 0, 0, 0, 0, (0, [])⟩ (.slice A k cA) PL ∧ rl = (PL.map (fun x => (x.1, 0)) ++ (rdPs (n - k) st1).1, (rdPs (n - k) st1).2) ∧ RLim st1) (fun i _ => n - (intOf i).toNat)
  case atStart => exact ⟨0, none, 0, [], s2, Nat.zero_le _, rfl, rfl, ⟨T2.out, World.ownsRow_nil _ _ _ _, fun x hx => absurd hx (by simp), HB.out⟩, by simpa using HRL.out.symm, HLIM2.out⟩
  case round =>
    obtain ⟨k, A, cA, PL, st1, hk, rfl, hpl, ht, hr, hlm⟩ := hrel
    have T := Lib.hid ht
    have HR := Lib.hid hr
    have HLM := Lib.hid hlm
    have HPL := Lib.hid hpl
    clear ht hr hlm hpl T2
    by_cases hlt : k < n
    · have hki : (k : Int) < (n : Int) := by omega
      obtain ⟨q, hq⟩ : ∃ q, n - k = q + 1 := ⟨n - k - 1, by omega⟩
      have hr2 := HR.out
      rw [hq, rdPs] at hr2
      have HR2 := Lib.hid hr2
      have HQ := Lib.hid hq
      clear hr2 hq HR
      have hbc := rByte_calls lo pr st1 wr T.out.r.a
      obtain ⟨kb, s3, g3⟩ : ∃ x t, rByte st1 = (x, t) := ⟨_, _, rfl⟩
      rw [g3] at hbc
      have hlm3 : RLim s3 := by
        have := HLM.out
        rcases st1 with _ | ⟨_ | ⟨c0, l0⟩⟩
        · cases g3; trivial
        · cases g3; trivial
        · cases g3; simp only [RLim, List.length_cons] at this ⊢; omega
      have hrp : rdPart st1 = rdFd (bareF kb.toNat) s3 := by unfold rdPart; rw [g3]
      rw [hrp] at HR2
      have HLM3 := Lib.hid hlm3
      have HBC := Lib.hid hbc
      clear hbc g3 hlm3 hrp
      go_wp2_with (fail)
      refine HBC.out.mono ?_
      rintro e w3 ⟨rfl, a3, f3, -⟩
      have T3 := Lib.hid (T.out.read a3 f3)
      clear a3 f3 HBC T
      go_wp2_with (fail)
      have HRD := Lib.hid (rdFlat_calls (bareF kb.toNat) false lo pr w3.heap.size s3 (w3.alloc (.cells (dcells (bareF kb.toNat) pl0 0) 31)) (bareF_ok kb) rfl (T3.out.r.a.fr ((Fr.refl NoB w3).alloc _) (fun _ _ _ x => x) h1) h1 T3.out.r.a.lt (heap_alloc_new w3 _) HLM3.out (HH.out.frw (T3.out.r.fr.trans ((Fr.refl NoB w3).alloc _) (fun _ _ x => x.elim)) (by simp only [ReadB]; omega)) (fun _ => rfl))
      obtain ⟨f', s4, g4⟩ : ∃ x t, rdFd (bareF kb.toNat) s3 = (x, t) := ⟨_, _, rfl⟩
      have hlm4 : RLim s4 := by have := rdFd_lim (f := bareF kb.toNat) HLM3.out; rw [g4] at this; exact this
      have HLM4 := Lib.hid hlm4
      rw [g4] at HRD HR2
      clear hlm4 g4
      refine HRD.out.mono ?_
      rintro e w5 ⟨rfl, pl, hg⟩
      have HG := Lib.hid hg
      have ftot := ((Fr.refl (OneB pr) w3).alloc (.cells (dcells (bareF kb.toNat) pl0 0) 31)).trans hg.r.fr (fun j hj hx => by
        rcases hx with hx | hx
        · exact hx
        · omega)
      have T5 := Lib.hid (T3.out.read hg.r.a ftot)
      have hlo : w3.heap.size + 1 ≤ w5.heap.size := by have := hg.r.fr.size; simpa using this
      have HPA : Hid (PartAt w w5 (.slice A k cA) (f', pl)) := by
        refine ⟨(w3.alloc (.cells (dcells (bareF kb.toNat) pl0 0) 31)).heap.size, w5.heap.size, Nat.le_trans T3.out.r.fr.size (by simp), Nat.le_refl _, fun g hg2 h3 => ?_, hg.d, fun g hg2 => (hg.d.lt g hg2).2, hg.m, hg.p.1, hg.p.2⟩
        have h4 := (T3.out.own.lt g hg2).2
        have h5 := h3.1
        simp at h5
        omega
      have HBX := Lib.hid hg.r.bx
      have HBC3 := Lib.hid (Lib.lt_of_heap T3.out.r.bx)
      have HVC := Lib.hid (fun (g : Nat) (hg2 : (Value.slice A k cA).ownBlock = some g) => Nat.ne_of_lt (T3.out.own.lt g hg2).2)
      have hgc := rGood_calls lo pr s4 w5 hg.r.a
      clear hg ftot HG HRD T3
      have HGC := Lib.hid hgc
      clear hgc
      go_wp2_with (fail)
      refine HGC.out.mono ?_
      rintro e w6 ⟨rfl, rfl⟩
      clear HGC
      by_cases hgood : rGood s4 = true
      · rw [hgood] at HR2 ⊢
        go_wp2
        clear HH HHAS hhas HLM HLM3 h1 h2 hgp HRL  HC1 HLIM2
        have HSZ5 := Lib.hid hlo
        clear hlo
        have HCB : Hid (b < w3.heap.size) := HBC3.out
        obtain ⟨C, hC⟩ : ∃ C, w3.heap.size = C := ⟨_, rfl⟩
        rw [hC] at HBX HSZ5 HVC HCB ⊢
        clear hC
        go_region
        · have F6 := Lib.hid (((Fr.refl NoB w5).alloc (.cells #[.bool false] 4)).drew)
          generalize (w5.alloc (.cells #[.bool false] 4)).drew = w6 at F6 ⊢
          have T6 := Lib.hid (T5.out.keep F6.out)
          have HB6 := Lib.hid (F6.out.at_ HBX.out (fun x => x))
          have HP6 := Lib.hid (HPA.out.keep F6.out (fun _ h => h.elim) (fun g h => .inl h))
          have HLC : Hid (C < w6.heap.size) := Nat.lt_of_lt_of_le HSZ5.out F6.out.size
          have HLCB := HCB
          clear T5 HBX HPA F6 HSZ5
          have y15 := (cells_of T6.out.r.bx 15).1
          have n15 := (cells_of T6.out.r.bx 15).2
          simp only [dcells, List.setIfInBounds_toArray, List.set_cons_zero, List.set_cons_succ, List.getElem?_toArray, List.getElem?_cons_zero, List.getElem?_cons_succ] at y15
          have HOWN := Lib.hid (HPL.out ▸ T6.out.own : w6.ownsRow w.heap.size 31 16 (.slice A k cA) k (pv PL))
          have HBB : Hid (w.heap.size ≤ w6.heap.size) := T6.out.r.fr.size
          have HNB := Lib.hid (fun (g : Nat) (hg : (Value.slice A k cA).ownBlock = some g) => Nat.ne_of_gt (Nat.lt_of_lt_of_le HB.out (HOWN.out.lt g hg).1))
          have hk5 : k ≤ 500 := by omega
          obtain ⟨z1, kk, sn, t1, x1, m1, path1, data1, ow1, ve1, cv1, ti1, er1, cver1, ms1⟩ := f'
          obtain ⟨A1, ca, B1, cb, P1, cp⟩ := pl
          simp only [dcells] at HB6
          go_wp2_with (first
            | (at_builtin; go_loud (refine wpList_append_lies _ rfl _ _ 29 rfl w.heap.size 31 i0 (.agg (dcells (bareF 0) pl0 0)) 16 184 Tryd.underlying29 hi0 hz0 hz1 hz2 rfl (by decide) (.slice A k cA) k (pv PL) rfl (HOWN.out.alloc _) _ 1 _ (dcells (bareF 0) pl0 0).toList rfl rfl (World.news_of_block (heap_alloc_new w6 _)) (dcells_one _ _ _) (by decide) (by unfold maxLen; omega) (by omega) (Nat.le_trans HBB.out (by simp)) (w6.heap.size + 1) (by simp) ?_))
            | fail)
          have cc0 := (cells_of HB6.out 0).1
          have cc1 := (cells_of HB6.out 1).1
          have cc2 := (cells_of HB6.out 2).1
          have cc3 := (cells_of HB6.out 3).1
          have cc4 := (cells_of HB6.out 4).1
          have cc5 := (cells_of HB6.out 5).1
          have cc6 := (cells_of HB6.out 6).1
          have cc7 := (cells_of HB6.out 7).1
          have cc8 := (cells_of HB6.out 8).1
          have cc9 := (cells_of HB6.out 9).1
          have cc10 := (cells_of HB6.out 10).1
          have cc11 := (cells_of HB6.out 11).1
          have cc12 := (cells_of HB6.out 12).1
          have cc13 := (cells_of HB6.out 13).1
          have cc14 := (cells_of HB6.out 14).1
          have cc15 := (cells_of HB6.out 15).1
          simp only [List.getElem?_toArray, List.getElem?_cons_zero, List.getElem?_cons_succ] at cc0 cc1 cc2 cc3 cc4 cc5 cc6 cc7 cc8 cc9 cc10 cc11 cc12 cc13 cc14 cc15
          have y15b : ∀ o, (w6.alloc o).cell? ⟨b, 15, none⟩ = some (.slice A k cA) := fun o => (((Fr.refl NoB w6).alloc o).cell (p := ⟨b, 15, none⟩) (World.block_lt_of_cell? _ _ y15) (fun x => x)).trans y15
          go_region_law ((refine step_append_lies _ (by rfl) _ _ 29 (by rfl) w.heap.size 31 i0 (.agg (dcells (bareF 0) pl0 0)) 16 184 Tryd.underlying29 hi0 hz0 hz1 hz2 (by rfl) (by decide) (.slice A k cA) k (pv PL) (by rfl) ((HOWN.out.alloc _).drew) _ 1 _ (dcells ⟨z1, kk, sn, t1, x1, m1, path1, data1, ow1, ve1, cv1, ti1, er1, (cver1, ms1)⟩ ⟨A1, ca, B1, cb, P1, cp⟩ 0).toList (by rfl) (by rfl) (World.news_of_block (heap_alloc_new w6 _)) (dcells_one _ _ _) (by decide) (by unfold maxLen; omega) (by omega) (Nat.le_trans HBB.out (by simp)) (w6.heap.size + 1) (by simp) ?_; intro g cap w7 hown hgrow hat hlt; have hb7 := (hgrow.block b (by have := Lib.lt_of_heap T6.out.r.bx; simp; omega) (fun e => HNB.out b e.symm rfl)).trans ((Below.heap_alloc w6 _ b (Lib.lt_of_heap T6.out.r.bx)).trans T6.out.r.bx); have y7 := (cells_of hb7 15).1; have n7 := (cells_of hb7 15).2; clear hb7; simp only [dcells, List.setIfInBounds_toArray, List.set_cons_zero, List.set_cons_succ, List.getElem?_toArray, List.getElem?_cons_zero, List.getElem?_cons_succ] at y7))
          all_goals
            have HFIN := Lib.hid (DP.pushB (x := (⟨z1, kk, sn, t1, x1, m1, path1, data1, ow1, ve1, cv1, ti1, er1, (cver1, ms1)⟩, ⟨A1, ca, B1, cb, P1, cp⟩)) HPL.out (T6.out.keep ((Fr.refl NoB w6).drew)) (HP6.out.keep ((Fr.refl NoB w6).drew) (fun _ h => h.elim) (fun g h => .inl h)) (by rw [pv_one]; exact hown) hgrow hat)
            clear hown hgrow hat hlt y15 y15b n15 y7 n7 T6 HP6 HB6 hz0 hz1 hz2 hi0 cc0 cc1 cc2 cc3 cc4 cc5 cc6 cc7 cc8 cc9 cc10 cc11 cc12 cc13 cc14 cc15
            go_wp2
            go_roundw
            case rel => exact ⟨k + 1, some ⟨g, 0, none⟩, cap, PL ++ [(⟨z1, kk, sn, t1, x1, m1, path1, data1, ow1, ve1, cv1, ti1, er1, (cver1, ms1)⟩, ⟨A1, ca, B1, cb, P1, cp⟩)], s4, by omega, by go_num, by rw [List.length_append, HPL.out]; rfl, HFIN.out, by rw [HR2.out, show n - (k + 1) = q by have := HQ.out; omega]; simp, HLM4.out⟩
            case measure => simp [intOf]; omega
        · have F6 := Lib.hid (((Fr.refl NoB w5).alloc (.cells #[.bool true] 4)).drew)
          generalize (w5.alloc (.cells #[.bool true] 4)).drew = w6 at F6 ⊢
          have T6 := Lib.hid (T5.out.keep F6.out)
          have HB6 := Lib.hid (F6.out.at_ HBX.out (fun x => x))
          have HP6 := Lib.hid (HPA.out.keep F6.out (fun _ h => h.elim) (fun g h => .inl h))
          have HLC : Hid (C < w6.heap.size) := Nat.lt_of_lt_of_le HSZ5.out F6.out.size
          have HLCB := HCB
          clear T5 HBX HPA F6 HSZ5
          have y15 := (cells_of T6.out.r.bx 15).1
          have n15 := (cells_of T6.out.r.bx 15).2
          simp only [dcells, List.setIfInBounds_toArray, List.set_cons_zero, List.set_cons_succ, List.getElem?_toArray, List.getElem?_cons_zero, List.getElem?_cons_succ] at y15
          have HOWN := Lib.hid (HPL.out ▸ T6.out.own : w6.ownsRow w.heap.size 31 16 (.slice A k cA) k (pv PL))
          have HBB : Hid (w.heap.size ≤ w6.heap.size) := T6.out.r.fr.size
          have HNB := Lib.hid (fun (g : Nat) (hg : (Value.slice A k cA).ownBlock = some g) => Nat.ne_of_gt (Nat.lt_of_lt_of_le HB.out (HOWN.out.lt g hg).1))
          have hk5 : k ≤ 500 := by omega
          obtain ⟨z1, kk, sn, t1, x1, m1, path1, data1, ow1, ve1, cv1, ti1, er1, cver1, ms1⟩ := f'
          obtain ⟨A1, ca, B1, cb, P1, cp⟩ := pl
          simp only [dcells] at HB6
          go_wp2_with (first
            | (at_builtin; go_loud (refine wpList_append_lies _ rfl _ _ 29 rfl w.heap.size 31 i0 (.agg (dcells (bareF 0) pl0 0)) 16 184 Tryd.underlying29 hi0 hz0 hz1 hz2 rfl (by decide) (.slice A k cA) k (pv PL) rfl (HOWN.out.alloc _) _ 1 _ (dcells (bareF 0) pl0 0).toList rfl rfl (World.news_of_block (heap_alloc_new w6 _)) (dcells_one _ _ _) (by decide) (by unfold maxLen; omega) (by omega) (Nat.le_trans HBB.out (by simp)) (w6.heap.size + 1) (by simp) ?_))
            | fail)
          intro g cap w7 hown hgrow hat hlt
          have HB7 := Lib.hid ((hgrow.block b (by have := Lib.lt_of_heap T6.out.r.bx; simp; omega) (fun e => HNB.out b e.symm rfl)).trans ((Below.heap_alloc w6 _ b (Lib.lt_of_heap T6.out.r.bx)).trans T6.out.r.bx))
          have HC7 := Lib.hid ((hgrow.block C (by have := HLC.out; simp; omega) (fun e => HVC.out C e.symm rfl)).trans ((Below.heap_alloc w6 _ C HLC.out).trans HB6.out))
          have y7 := (cells_of HB7.out 15).1
          have n7 := (cells_of HB7.out 15).2
          simp only [dcells, List.setIfInBounds_toArray, List.set_cons_zero, List.set_cons_succ, List.getElem?_toArray, List.getElem?_cons_zero, List.getElem?_cons_succ] at y7
          have HGB : Hid (g ≠ b) := by
            have h8 := hown.lt g rfl
            have h9 := HB.out
            show _ ≠ _
            omega
          have HO8 := Lib.hid (own_by hown ((Fr.refl (OneB b) w7).setCell (p := ⟨b, 15, none⟩) (fun _ => rfl) (.slice (some ⟨g, 0, none⟩) (k + 1) cap)) (fun g2 hg2 => by
            have h8 : g = g2 := by simpa [Value.ownBlock] using hg2
            subst h8
            exact HGB.out))
          have HC8 := Lib.hid ((Below.heap_setCell w7 ⟨b, 15, none⟩ (.slice (some ⟨g, 0, none⟩) (k + 1) cap) C (by have := HLCB.out; simp only; omega)).trans HC7.out)
          have HTH : Hid ((w7.setCell ⟨b, 15, none⟩ (.slice (some ⟨g, 0, none⟩) (k + 1) cap)).there g (k * 16) 16) := fun j hj => by
            refine ⟨?_, HO8.out.frozenAt _⟩
            rw [HO8.out.cellAt _ (by omega), List.getElem?_eq_getElem (by rw [List.length_append, pv_length, HPL.out]; simp [dcells, bareF, pl0]; omega)]
            rfl
          have HFIN := Lib.hid (DP.pushA (x := (⟨z1, kk, sn, t1, x1, m1, path1, data1, ow1, ve1, cv1, ti1, er1, (cver1, ms1)⟩, ⟨A1, ca, B1, cb, P1, cp⟩)) rfl HPL.out T6.out HP6.out hown hgrow hat)
          have HCAP := Lib.hid (hown.lt g rfl)
          clear hown hgrow hat hlt HB7 HO8 y15 n15 T6 HP6 HB6 hz0 hz1 hz2 hi0
          have c0 := (cells_of HC7.out 0).1
          have c1 := (cells_of HC7.out 1).1
          have c2 := (cells_of HC7.out 2).1
          have c3 := (cells_of HC7.out 3).1
          have c4 := (cells_of HC7.out 4).1
          have c5 := (cells_of HC7.out 5).1
          have c6 := (cells_of HC7.out 6).1
          have c7 := (cells_of HC7.out 7).1
          have c8 := (cells_of HC7.out 8).1
          have c9 := (cells_of HC7.out 9).1
          have c10 := (cells_of HC7.out 10).1
          have c11 := (cells_of HC7.out 11).1
          have c12 := (cells_of HC7.out 12).1
          have c13 := (cells_of HC7.out 13).1
          have c14 := (cells_of HC7.out 14).1
          have c15 := (cells_of HC7.out 15).1
          simp only [List.getElem?_toArray, List.getElem?_cons_zero, List.getElem?_cons_succ] at c0 c1 c2 c3 c4 c5 c6 c7 c8 c9 c10 c11 c12 c13 c14 c15
          have hne1 : ¬ C = b := by have := HLCB.out; omega
          have hne2 : ¬ b = C := by have := HLCB.out; omega
          clear HC7 HC8
          go_wp2_with (first | (with_reducible refine held_store (ty := 31) ?_) | fail)
          unfold Held
          refine wpList_store_mid rfl 31 (.tmp 124) (.tmp 123) rfl g (k * 16) #[.int .i64 z1, .int .u8 kk, .int .i64 sn, .int .i64 t1, .int .i64 x1, .int .i64 m1, .string ⟨path1.toArray⟩, .slice A1 data1.length ca, .int .i64 ow1, .int .i64 ve1, .int .i64 cv1, .int .i64 ti1, .int .i64 er1, .int .i64 cver1, .slice B1 ms1.length cb, .slice P1 0 cp] ?_ ?_ ?_ size16 ?_ ?_
          · rfl
          · rfl
          · exact HTH.out
          · simp [Value.oneCell']
          simp only [dcells] at HFIN
          generalize ((w7.setCell ⟨b, 15, none⟩ (.slice (some ⟨g, 0, none⟩) (k + 1) cap)).setCells g (k * 16) _) = w9 at HFIN ⊢
          go_wp2
          go_roundw
          case rel => exact ⟨k + 1, some ⟨g, 0, none⟩, cap, PL ++ [(⟨z1, kk, sn, t1, x1, m1, path1, data1, ow1, ve1, cv1, ti1, er1, (cver1, ms1)⟩, ⟨A1, ca, B1, cb, P1, cp⟩)], s4, by omega, by go_num, by rw [List.length_append, HPL.out]; rfl, HFIN.out, by rw [HR2.out, show n - (k + 1) = q by have := HQ.out; omega]; simp, HLM4.out⟩
          case measure => simp [intOf]; omega
      · have hgf : rGood s4 = false := by simpa using hgood
        rw [hgf] at HR2 ⊢
        clear hgood
        go_wp2
        refine bodyPost_ret (results_none rfl _ _ _) rfl ?_
        refine ⟨rfl, .slice A k cA, PL, ?_, ?_⟩
        · rw [HR2.out]; exact T5.out
        · rw [HR2.out]; simp
    · obtain rfl : k = n := by omega
      go_wp2
      go_end0
      have hr := HR.out
      rw [Nat.sub_self, rdPs] at hr
      refine ⟨rfl, .slice A k cA, PL, ?_, ?_⟩
      · rw [hr]; exact T.out
      · rw [hr]; simp
end Go.Proofs.YtljioepkbbbibaaDoor
