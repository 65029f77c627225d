/-
  Age: ask.read of any kind; GetAsk of any bytes.
-/
import Derived.Test.YtlckgkpgllhpbaaDoorArq
import Derived.Test.YtlckgkpgllhpbaaDoorApk
namespace Go.Proofs.YtlckgkpgllhpbaaDoor
open Go.RowKit

theorem PartAtA.low {w0 w1 w : World} {V : Value} {x : Fa × Pl} (h : PartAtA w1 w V x) (hs : w0.heap.size ≤ w1.heap.size) : PartAtA w0 w V x := by
  obtain ⟨lo, hi, h1, h2⟩ := h.e
  exact ⟨lo, hi, Nat.le_trans hs h1, h2⟩
/-- A call that was read: its lists are new memory. -/
structure GotAs (w0 w : World) (f : Fa) (pl : Pl) (l : List (Fa × Nat)) : Prop where
  d : w.ownsRow w0.heap.size 5 1 (.slice pl.A f.data.length pl.c) f.data.length (bv f.data)
  m : RdM w w0.heap.size w.heap.size pl.B f.ms
  p : ∃ PL : List (Fa × Pl), l = PL.map (fun x => (x.1, 0)) ∧ w.ownsRow w0.heap.size 29 15 (.slice pl.P l.length pl.e) l.length (av PL) ∧ ∀ x ∈ PL, PartAtA w0 w (.slice pl.P l.length pl.e) x
theorem GotAs.low {w0 w1 w : World} {f : Fa} {pl : Pl} {l : List (Fa × Nat)} (h : GotAs w1 w f pl l) (hs : w0.heap.size ≤ w1.heap.size) : GotAs w0 w f pl l := by
  obtain ⟨PL, h1, h2, h3⟩ := h.p
  exact ⟨own_low h.d hs, h.m.wide hs (Nat.le_refl _), PL, h1, own_low h2 hs, fun x hx => (h3 x hx).low hs⟩
theorem GotAs.keep {w0 w w1 : World} {M : Nat → Prop} {f : Fa} {pl : Pl} {l : List (Fa × Nat)} (h : GotAs w0 w f pl l) (fr : Fr M w w1) (hm : ∀ k, M k → k < w0.heap.size ∨ w.heap.size ≤ k) : GotAs w0 w1 f pl l := by
  obtain ⟨PL, h1, h2, h3⟩ := h.p
  have hfar : ∀ k, w0.heap.size ≤ k → k < w.heap.size → ¬ M k := fun k a b c => by rcases hm k c with h | h <;> omega
  exact ⟨own_by h.d fr (fun g hg => hfar g (h.d.lt g hg).1 (h.d.lt g hg).2), (h.m.fr fr (Nat.le_refl _) hfar).wide (Nat.le_refl _) fr.size, PL, h1, own_by h2 fr (fun g hg => hfar g (h2.lt g hg).1 (h2.lt g hg).2),
    fun x hx => (h3 x hx).keep fr (fun k hk => (hm k hk).elim .inl (fun h => .inr (.inl h))) (fun g hg => .inl hg)⟩
theorem GotAs.rd {w0 w : World} {f : Fa} {pl : Pl} {l : List (Fa × Nat)} (h : GotAs w0 w f pl l) : RdA w w0.heap.size w.heap.size f pl l := by
  obtain ⟨PL, rfl, ho, hp⟩ := h.p
  refine ⟨own_rd h.d, h.m, fun hl => ?_⟩
  obtain ⟨g, cap, hv, hb, hlt⟩ := ho.form hl
  have hP : pl.P = some ⟨g, 0, none⟩ := by injection hv
  refine ⟨g, 0, hP, hb, hlt, fun i q hq => ?_⟩
  rw [List.getElem?_map] at hq
  cases hx : PL[i]? with
  | none => rw [hx] at hq; cases hq
  | some x =>
    rw [hx] at hq
    simp only [Option.map_some, Option.some.injEq] at hq
    subst hq
    obtain ⟨lo, hi, h1, h2, h3, h4, h5, h6, h7, h8⟩ := (hp x (List.mem_of_getElem? hx)).e
    refine ⟨x.2, fun j v hv => ?_, (own_rd h4).wide h1 (Nat.le_refl _), h6.wide h1 h2⟩
    have := ho.cells (g := g) (by rw [hP]; rfl) (i * 15 + j) v (av_get hx j v hv)
    rw [Lib.addr_add, Nat.zero_add] at this
    rw [Nat.zero_add]
    exact this
theorem GotAs.none (w0 w : World) : GotAs w0 w (bareA 0) pl0 [] :=
  ⟨own_nil0 _ _, RdM.nil' _ _ _ _, [], rfl, World.ownsRow_nil _ _ _ _, fun x hx => absurd hx (by simp)⟩
theorem ap_cells (f : Fa) (A : Option Addr) (n c : Nat) : (acells f pl0 0).setIfInBounds 14 (.slice A n c) = acells f ⟨none, 0, none, 0, A, c⟩ n := by simp [acells, pl0]
theorem AP.got {w0 w : World} {lo pr b : Nat} {st : RSt} {f : Fa} {A : Option Addr} {c : Nat} {PL : List (Fa × Pl)} (h : AP w0 w lo pr b st f (.slice A PL.length c) PL) (hd : f.data = []) (hm : f.ms = []) : AR w0 w lo pr b st (acells f ⟨none, 0, none, 0, A, c⟩ PL.length) ∧ GotAs w0 w f ⟨none, 0, none, 0, A, c⟩ (PL.map fun x => (x.1, 0)) := by
  refine ⟨by rw [← ap_cells]; exact h.r, ⟨by rw [hd]; exact own_nil0 _ _, by rw [hm]; exact RdM.nil' _ _ _ _, PL, rfl, ?_, ?_⟩⟩
  · rw [List.length_map]; exact h.own
  · rw [List.length_map]; exact h.parts
theorem aread_all (f : Fa) (lo pr b : Nat) (st : RSt) (w : World) (hf : f.Ok) (hz : f = bareAO f) (ha : Rdr w lo pr st) (h1 : lo ≤ pr) (h2 : pr < b) (hbx : w.heap[b]? = some (.cells (acells f pl0 0) 29 (0, 0))) (hlim : RLim st) :
    Calls Tryd.prog 50 #[.pointer (some ⟨pr, 0, none⟩), .pointer (some ⟨b, 0, none⟩), .bool true] w fun e w' => e = .returned (.bool (rdTa f st).1.2.2) ∧ ∃ pl, AR w w' lo pr b (rdTa f st).2 (acells (rdTa f st).1.1 pl (rdTa f st).1.2.1.length) ∧ GotAs w w' (rdTa f st).1.1 pl (rdTa f st).1.2.1 := by
  unfold rdTa
  by_cases h11 : f.k = 11
  · rw [if_pos h11]
    refine (ardp_calls f lo pr b st w hz ha h1 h2 hbx hlim h11).mono ?_
    rintro e w' ⟨rfl, V, PL, hp, hl⟩
    refine ⟨rfl, ?_⟩
    simp only
    rw [hl]
    obtain ⟨A, c, rfl, _, _⟩ := own_form4 hp.own
    refine ⟨⟨none, 0, none, 0, A, c⟩, ?_⟩
    rw [List.length_map]
    exact hp.got (by rw [hz]; rfl) (by rw [hz]; rfl)
  · rw [if_neg h11]
    refine (ardFlat_calls f true lo pr b st w hf hz ha h1 h2 hbx hlim (fun h => absurd h h11)).mono ?_
    rintro e w' ⟨rfl, pl, hg⟩
    refine ⟨rfl, pl, hg.r, hg.d, hg.m, [], rfl, ?_, fun x hx => absurd hx (by simp)⟩
    rw [hg.p.1, hg.p.2]
    exact World.ownsRow_nil _ _ _ _

set_option maxRecDepth 8000 in
set_option maxHeartbeats 6400000 in
theorem aget_calls (A : Option Addr) (b : List UInt8) (c lo hi : Nat) (w : World) (h : Rd w lo hi A b) (hh : hi ≤ w.heap.size) (hl : b.length ≤ 140737488355328) :
    Calls Tryd.prog 19 #[.slice A b.length c] w fun e w' => ∃ f pl l zz, e = .returned (.tuple #[aval f pl l.length, .int .i64 zz]) ∧ ((getA b = some (f, l) ∧ zz = 0) ∨ (getA b = none ∧ f = bareA 0 ∧ l = [] ∧ pl = pl0 ∧ zz = 4)) ∧ GotAs w w' f pl l ∧ Fr NoB w w' := by
  have HGD : Hid (getA b = if (rdAsk b).1.2.2 = true ∧ rWhole (rdAsk b).2 = true ∧ RightA (rdAsk b).1.1 (rdAsk b).1.2.1 then some ((rdAsk b).1.1, (rdAsk b).1.2.1) else none) := rfl
  have hdt : rdAsk b = rdTa (rdHa b).1 (rdHa b).2 := rfl
  obtain ⟨x0, s0, g0⟩ : ∃ x t, rByte (some b) = (x, t) := ⟨_, _, rfl⟩
  obtain ⟨x1, s1, g1⟩ : ∃ x t, rInt s0 = (x, t) := ⟨_, _, rfl⟩
  obtain ⟨x2, s2, g2⟩ : ∃ x t, rInt s1 = (x, t) := ⟨_, _, rfl⟩
  obtain ⟨x3, s3, g3⟩ : ∃ x t, rInt s2 = (x, t) := ⟨_, _, rfl⟩
  have hhd : rdHa b = (⟨x0.toNat, x1, x2, x3, [], [], 0, 0, false, 0, 0, 0, 0, []⟩, s3) := by simp [rdHa, g0, g1, g2, g3]
  have hhok := rdHa_ok b
  rw [hhd] at hdt hhok
  simp only at hdt hhok
  have hlim0 : RLim s0 := by have h9 := rByte_lim (st := some b) (by simp only [RLim]; omega); rw [g0] at h9; exact h9
  have hlim3 : RLim s3 := by
    have h1 := rInt_lim hlim0; rw [g1] at h1
    have h2 := rInt_lim h1; rw [g2] at h2
    have h3 := rInt_lim h2; rw [g3] at h3
    exact h3
  have HLIM := Lib.hid hlim3
  have HHOK := Lib.hid hhok
  obtain ⟨rl, hrl⟩ : ∃ rl, rdAsk b = rl := ⟨_, rfl⟩
  rw [hrl] at HGD hdt
  have HDT := Lib.hid hdt
  have hb0 := fun W lo p (r : Rdr W lo p (some b)) => rByte_calls lo p (some b) W r
  rw [g0] at hb0
  have hb1 := fun W lo p (r : Rdr W lo p s0) => rInt_calls lo p s0 W r
  rw [g1] at hb1
  have hb2 := fun W lo p (r : Rdr W lo p s1) => rInt_calls lo p s1 W r
  rw [g2] at hb2
  have hb3 := fun W lo p (r : Rdr W lo p s2) => rInt_calls lo p s2 W r
  rw [g3] at hb3
  have HB0 := Lib.hid hb0
  have HB1 := Lib.hid hb1
  have HB2 := Lib.hid hb2
  have HB3 := Lib.hid hb3
  have HR := Lib.hid h
  clear h hb0 hb1 hb2 hb3 g0 g1 g2 g3 hlim0 hlim3 hhd hhok hdt hrl
  go_enter Tryd.func19, Tryd.ntmps19
  go_wp2_with (fail)
  have F0 := Lib.hid ((Fr.refl NoB w).alloc (.cells #[.int .u8 0, .int .i64 0, .int .i64 0, .int .i64 0, .string ⟨#[]⟩, .slice none 0 0, .int .i64 0, .int .i64 0, .bool false, .int .u8 0, .int .i64 0, .int .i64 0, .int .i64 0, .slice none 0 0, .slice none 0 0] 29))
  have HRV := Lib.hid (heap_alloc_new w (.cells #[.int .u8 0, .int .i64 0, .int .i64 0, .int .i64 0, .string ⟨#[]⟩, .slice none 0 0, .int .i64 0, .int .i64 0, .bool false, .int .u8 0, .int .i64 0, .int .i64 0, .int .i64 0, .slice none 0 0, .slice none 0 0] 29))
  have HSW : Hid ((w.alloc (.cells #[.int .u8 0, .int .i64 0, .int .i64 0, .int .i64 0, .string ⟨#[]⟩, .slice none 0 0, .int .i64 0, .int .i64 0, .bool false, .int .u8 0, .int .i64 0, .int .i64 0, .int .i64 0, .slice none 0 0, .slice none 0 0] 29)).heap.size = w.heap.size + 1) := by show _ = _; simp
  generalize w.alloc (.cells #[.int .u8 0, .int .i64 0, .int .i64 0, .int .i64 0, .string ⟨#[]⟩, .slice none 0 0, .int .i64 0, .int .i64 0, .bool false, .int .u8 0, .int .i64 0, .int .i64 0, .int .i64 0, .slice none 0 0, .slice none 0 0] 29) = wb at F0 HRV HSW ⊢
  obtain ⟨RV, hRV⟩ : ∃ RV, w.heap.size = RV := ⟨_, rfl⟩
  have HWR := Lib.hid hRV
  rw [hRV] at HRV HSW ⊢
  clear hRV
  refine (rNew_calls A b c lo hi wb (HR.out.fr F0.out hh (fun _ _ _ x => x)) hl).mono ?_
  rintro e w1 ⟨p, rfl, q1, q2, q3, -⟩
  have Q1 := Lib.hid q1
  have Q2 := Lib.hid q2
  have Q3 := Lib.hid q3
  clear q1 q2 q3 HR
  go_wp2_with (fail)
  refine (HB0.out _ _ _ Q2.out).mono ?_
  rintro e w2 ⟨rfl, a2, f2, -⟩
  have A2 := Lib.hid a2
  have F2 := Lib.hid f2
  clear a2 f2 Q2 HB0
  go_wp2_with (fail)
  obtain ⟨w3, hw3⟩ : ∃ w3, w2.alloc (.cells (acells (bareA x0.toNat) pl0 0) 29) = w3 := ⟨_, rfl⟩
  have T3 := Lib.hid (AR.start (w := w3) (by rw [← hw3]; exact A2.out.fr ((Fr.refl NoB w2).alloc _) (fun _ _ _ x => x) Q1.out) (by rw [← hw3]; exact heap_alloc_new w2 _) Q1.out A2.out.lt)
  have F3 : Hid (Fr NoB wb w3) := by
    rw [← hw3]
    exact (Q3.out.upE F2.out (fun k hk => by simp only [OneB] at hk; have := Q1.out; omega)).alloc _
  simp only [acells, bareA, pl0, List.length_nil] at T3 hw3
  rw [hw3]
  clear hw3 F2 A2 Q3
  obtain ⟨E, hE⟩ : ∃ E, w2.heap.size = E := ⟨_, rfl⟩
  rw [hE] at T3 ⊢
  clear hE
  refine (HB1.out _ _ _ T3.out.a).mono ?_
  rintro e w4 ⟨rfl, a4, f4, -⟩
  have T4 := Lib.hid (T3.out.read a4 f4)
  clear a4 f4 HB1 T3
  go_wp2_with (fail)
  refine (HB2.out _ _ _ T4.out.a).mono ?_
  rintro e w5 ⟨rfl, a5, f5, -⟩
  have T5 := Lib.hid (T4.out.read a5 f5)
  clear a5 f5 HB2 T4
  go_wp2_with (fail)
  refine (HB3.out _ _ _ T5.out.a).mono ?_
  rintro e w9 ⟨rfl, a9, f9, -⟩
  have T9 := Lib.hid (T5.out.read a9 f9)
  clear a9 f9 HB3 T5
  have y1 := (cells_of T9.out.bx 1).1
  have n1 := (cells_of T9.out.bx 1).2
  have y2 := (cells_of T9.out.bx 2).1
  have n2 := (cells_of T9.out.bx 2).2
  have y3 := (cells_of T9.out.bx 3).1
  have n3 := (cells_of T9.out.bx 3).2
  simp only [List.getElem?_toArray, List.getElem?_cons_zero, List.getElem?_cons_succ] at y1 y2 y3
  have T10 := Lib.hid (((T9.out.set 1 (.int .i64 x1)).set 2 (.int .i64 x2)).set 3 (.int .i64 x3))
  simp only [List.setIfInBounds_toArray, List.set_cons_zero, List.set_cons_succ] at T10
  go_wp2_with (fail)
  clear y1 n1 y2 n2 y3 n3 T9
  generalize ((w9.setCell ⟨E, 1, none⟩ (.int .i64 x1)).setCell ⟨E, 2, none⟩ (.int .i64 x2)).setCell ⟨E, 3, none⟩ (.int .i64 x3) = w10 at *
  have HLO := Lib.hid T10.out.lo1
  have HPE := Lib.hid T10.out.lo2
  have F10 : Hid (Fr NoB wb w10) := F3.out.upE T10.out.fr (fun k hk => by rcases hk with hk | hk <;> (have := HLO.out; have := HPE.out; omega))
  have hrd := aread_all ⟨x0.toNat, x1, x2, x3, [], [], 0, 0, false, 0, 0, 0, 0, []⟩ wb.heap.size p E s3 w10 HHOK.out.1 rfl T10.out.a HLO.out HPE.out T10.out.bx HLIM.out
  rw [← HDT.out] at hrd
  have HWB : Hid (w.heap.size ≤ w10.heap.size) := Nat.le_trans F0.out.size F10.out.size
  have HRVW : Hid (wb.heap.size ≤ w10.heap.size) := F10.out.size
  have HEB : Hid (E < w10.heap.size) := Lib.lt_of_heap T10.out.bx
  clear T10 HLIM HHOK F3
  refine hrd.mono ?_
  rintro e w11 ⟨rfl, pl, hr, hg⟩
  clear hrd
  obtain ⟨⟨⟨k, x, s, t, path, data, fl, ve, wa, so, la, ti, fr, ms⟩, l, ok⟩, st⟩ := rl
  obtain ⟨A1, c1, B1, d1, P1, e1⟩ := pl
  simp only at hr hg ⊢
  have R11 := Lib.hid hr
  have G11 := Lib.hid hg
  have F11 : Hid (Fr NoB wb w11) := F10.out.upE hr.fr (fun k hk => by rcases hk with hk | hk <;> (have := HLO.out; have := HPE.out; omega))
  clear hr hg F10
  have hwc := rWhole_calls wb.heap.size p st w11 R11.out.a
  have HWC := Lib.hid hwc
  clear hwc
  have HRVb : Hid (RV < wb.heap.size) := by have := HSW.out; show _ < _; omega
  cases ok
  · as_aux_lemma =>
    have hnone : getA b = none := by rw [HGD.out, if_neg (fun hx => by cases hx.1)]
    have HNONE := Lib.hid hnone
    have HRV2 := Lib.hid (F11.out.at_ HRV.out (fun x => x))
    clear hnone HGD HDT R11 G11 HWC
    go_wp2_with (first | (with_reducible refine held_store (ty := 29) ?_) | fail)
    unfold Held
    refine wpList_store_row rfl 29 _ _ rfl RV #[.int .u8 0, .int .i64 0, .int .i64 0, .int .i64 0, .string ⟨#[]⟩, .slice none 0 0, .int .i64 0, .int .i64 0, .bool false, .int .u8 0, .int .i64 0, .int .i64 0, .int .i64 0, .slice none 0 0, .slice none 0 0] ?_ ?_ _ _ HRV2.out asize15 rfl (by simp [Value.oneCell']) ?_
    · rfl
    · rfl
    go_wp2
    refine bodyPost_ret (v := .tuple #[.agg #[.int .u8 0, .int .i64 0, .int .i64 0, .int .i64 0, .string ⟨#[]⟩, .slice none 0 0, .int .i64 0, .int .i64 0, .bool false, .int .u8 0, .int .i64 0, .int .i64 0, .int .i64 0, .slice none 0 0, .slice none 0 0], .int .i64 4]) (results_row_tmp (fn := Tryd.f19) (p := 2) (u := 3) (ty := 29) (by kernel_rfl) _ _ RV 29 _ _ _ rfl (setRow_heap _ _ _ _ _ _ HRV2.out) Tryd.underlying29 rfl (by kernel_rfl)) rfl ?_
    exact ⟨bareA 0, pl0, [], 4, rfl, .inr ⟨HNONE.out, rfl, rfl, rfl, rfl⟩, GotAs.none _ _, (F0.out.then F11.out).setRow (fun hx => absurd hx (by have := HWR.out; omega)) _⟩
  go_wp2_with (fail)
  refine HWC.out.mono ?_
  rintro e w12 ⟨rfl, rfl⟩
  clear HWC
  by_cases hwh : rWhole st = true
  rotate_left
  · as_aux_lemma =>
    have hwf : rWhole st = false := by simpa using hwh
    rw [hwf]
    have hnone : getA b = none := by rw [HGD.out, if_neg (fun hx => hwh hx.2.1)]
    have HNONE := Lib.hid hnone
    have HRV2 := Lib.hid (F11.out.at_ HRV.out (fun x => x))
    clear hnone HGD HDT R11 G11
    go_wp2_with (first | (with_reducible refine held_store (ty := 29) ?_) | fail)
    unfold Held
    refine wpList_store_row rfl 29 _ _ rfl RV #[.int .u8 0, .int .i64 0, .int .i64 0, .int .i64 0, .string ⟨#[]⟩, .slice none 0 0, .int .i64 0, .int .i64 0, .bool false, .int .u8 0, .int .i64 0, .int .i64 0, .int .i64 0, .slice none 0 0, .slice none 0 0] ?_ ?_ _ _ HRV2.out asize15 rfl (by simp [Value.oneCell']) ?_
    · rfl
    · rfl
    go_wp2
    refine bodyPost_ret (v := .tuple #[.agg #[.int .u8 0, .int .i64 0, .int .i64 0, .int .i64 0, .string ⟨#[]⟩, .slice none 0 0, .int .i64 0, .int .i64 0, .bool false, .int .u8 0, .int .i64 0, .int .i64 0, .int .i64 0, .slice none 0 0, .slice none 0 0], .int .i64 4]) (results_row_tmp (fn := Tryd.f19) (p := 2) (u := 3) (ty := 29) (by kernel_rfl) _ _ RV 29 _ _ _ rfl (setRow_heap _ _ _ _ _ _ HRV2.out) Tryd.underlying29 rfl (by kernel_rfl)) rfl ?_
    exact ⟨bareA 0, pl0, [], 4, rfl, .inr ⟨HNONE.out, rfl, rfl, rfl, rfl⟩, GotAs.none _ _, (F0.out.then F11.out).setRow (fun hx => absurd hx (by have := HWR.out; omega)) _⟩
  · rw [hwh]
    have hrc := aright_calls ⟨k, x, s, t, path, data, fl, ve, wa, so, la, ti, fr, ms⟩ ⟨A1, c1, B1, d1, P1, e1⟩ l _ _ w11 G11.out.rd.parts (Nat.le_refl _)
    simp only [aval] at hrc
    have HRC := Lib.hid hrc
    have R11b := R11.out.bx
    simp only [acells] at R11b HRC
    have qq0 := (cells_of R11b 0).1
    have qq1 := (cells_of R11b 1).1
    have qq2 := (cells_of R11b 2).1
    have qq3 := (cells_of R11b 3).1
    have qq4 := (cells_of R11b 4).1
    have qq5 := (cells_of R11b 5).1
    have qq6 := (cells_of R11b 6).1
    have qq7 := (cells_of R11b 7).1
    have qq8 := (cells_of R11b 8).1
    have qq9 := (cells_of R11b 9).1
    have qq10 := (cells_of R11b 10).1
    have qq11 := (cells_of R11b 11).1
    have qq12 := (cells_of R11b 12).1
    have qq13 := (cells_of R11b 13).1
    have qq14 := (cells_of R11b 14).1
    simp only [List.getElem?_toArray, List.getElem?_cons_zero, List.getElem?_cons_succ] at qq0 qq1 qq2 qq3 qq4 qq5 qq6 qq7 qq8 qq9 qq10 qq11 qq12 qq13 qq14
    clear R11b hrc
    go_wp2_with (fail)
    refine HRC.out.mono ?_
    rintro e w13 ⟨rfl, f13⟩
    clear qq0 qq1 qq2 qq3 qq4 qq5 qq6 qq7 qq8 qq9 qq10 qq11 qq12 qq13 qq14
    have HRV2 := Lib.hid ((F11.out.then f13).at_ HRV.out (fun x => x))
    have F13 := Lib.hid (F11.out.then f13)
    have G13 := Lib.hid (G11.out.keep f13 (fun _ hk => hk.elim))
    have R13 := f13.at_ R11.out.bx (fun x => x)
    simp only [acells] at R13
    by_cases hright : RightA ⟨k, x, s, t, path, data, fl, ve, wa, so, la, ti, fr, ms⟩ l
    · as_aux_lemma =>
      rw [decide_eq_true hright]
      have hsome : getA b = some (⟨k, x, s, t, path, data, fl, ve, wa, so, la, ti, fr, ms⟩, l) := by rw [HGD.out, if_pos ⟨by first | rfl | trivial, hwh, hright⟩]
      have HSOME := Lib.hid hsome
      have HR13 := Lib.hid R13
      have qq0 := (cells_of R13 0).1
      have qq1 := (cells_of R13 1).1
      have qq2 := (cells_of R13 2).1
      have qq3 := (cells_of R13 3).1
      have qq4 := (cells_of R13 4).1
      have qq5 := (cells_of R13 5).1
      have qq6 := (cells_of R13 6).1
      have qq7 := (cells_of R13 7).1
      have qq8 := (cells_of R13 8).1
      have qq9 := (cells_of R13 9).1
      have qq10 := (cells_of R13 10).1
      have qq11 := (cells_of R13 11).1
      have qq12 := (cells_of R13 12).1
      have qq13 := (cells_of R13 13).1
      have qq14 := (cells_of R13 14).1
      simp only [List.getElem?_toArray, List.getElem?_cons_zero, List.getElem?_cons_succ] at qq0 qq1 qq2 qq3 qq4 qq5 qq6 qq7 qq8 qq9 qq10 qq11 qq12 qq13 qq14
      clear hsome HGD HDT R11 G11 HRC hright f13 R13
      go_wp2_with (first | (with_reducible refine held_store (ty := 29) ?_) | fail)
      unfold Held
      refine wpList_store_row rfl 29 _ _ rfl RV #[.int .u8 k, .int .i64 x, .int .i64 s, .int .i64 t, .string ⟨path.toArray⟩, .slice A1 data.length c1, .int .i64 fl, .int .i64 ve, .bool wa, .int .u8 so, .int .i64 la, .int .i64 ti, .int .i64 fr, .slice B1 ms.length d1, .slice P1 l.length e1] ?_ ?_ _ _ HRV2.out asize15 rfl (by simp [Value.oneCell']) ?_
      · rfl
      · rfl
      clear qq0 qq1 qq2 qq3 qq4 qq5 qq6 qq7 qq8 qq9 qq10 qq11 qq12 qq13 qq14
      go_wp2
      refine bodyPost_ret (v := .tuple #[.agg #[.int .u8 k, .int .i64 x, .int .i64 s, .int .i64 t, .string ⟨path.toArray⟩, .slice A1 data.length c1, .int .i64 fl, .int .i64 ve, .bool wa, .int .u8 so, .int .i64 la, .int .i64 ti, .int .i64 fr, .slice B1 ms.length d1, .slice P1 l.length e1], .int .i64 0]) (results_row_tmp (fn := Tryd.f19) (p := 2) (u := 3) (ty := 29) (by kernel_rfl) _ _ RV 29 _ _ _ rfl (setRow_heap _ _ _ _ _ _ HRV2.out) Tryd.underlying29 rfl (by kernel_rfl)) rfl ?_
      refine ⟨⟨k, x, s, t, path, data, fl, ve, wa, so, la, ti, fr, ms⟩, ⟨A1, c1, B1, d1, P1, e1⟩, l, 0, rfl, .inl ⟨HSOME.out, rfl⟩, ?_, (F0.out.then F13.out).setRow (fun hx => absurd hx (by have := HWR.out; omega)) _⟩
      exact ((G13.out.keep ((Fr.refl (OneB RV) w13).setRow (fun _ => rfl) _) (fun k hk => .inl (by simp only [OneB] at hk; have := HRVb.out; have := HRVW.out; omega))).low HWB.out)
    · as_aux_lemma =>
      rw [decide_eq_false hright]
      have hnone : getA b = none := by rw [HGD.out, if_neg (fun hx => hright hx.2.2)]
      have HNONE := Lib.hid hnone
      clear hnone HGD HDT R11 G11 HRC hright f13 R13
      go_wp2_with (first | (with_reducible refine held_store (ty := 29) ?_) | fail)
      unfold Held
      refine wpList_store_row rfl 29 _ _ rfl RV #[.int .u8 0, .int .i64 0, .int .i64 0, .int .i64 0, .string ⟨#[]⟩, .slice none 0 0, .int .i64 0, .int .i64 0, .bool false, .int .u8 0, .int .i64 0, .int .i64 0, .int .i64 0, .slice none 0 0, .slice none 0 0] ?_ ?_ _ _ HRV2.out asize15 rfl (by simp [Value.oneCell']) ?_
      · rfl
      · rfl
      go_wp2
      refine bodyPost_ret (v := .tuple #[.agg #[.int .u8 0, .int .i64 0, .int .i64 0, .int .i64 0, .string ⟨#[]⟩, .slice none 0 0, .int .i64 0, .int .i64 0, .bool false, .int .u8 0, .int .i64 0, .int .i64 0, .int .i64 0, .slice none 0 0, .slice none 0 0], .int .i64 4]) (results_row_tmp (fn := Tryd.f19) (p := 2) (u := 3) (ty := 29) (by kernel_rfl) _ _ RV 29 _ _ _ rfl (setRow_heap _ _ _ _ _ _ HRV2.out) Tryd.underlying29 rfl (by kernel_rfl)) rfl ?_
      exact ⟨bareA 0, pl0, [], 4, rfl, .inr ⟨HNONE.out, rfl, rfl, rfl, rfl⟩, GotAs.none _ _, (F0.out.then F13.out).setRow (fun hx => absurd hx (by have := HWR.out; omega)) _⟩
end Go.Proofs.YtlckgkpgllhpbaaDoor
