/-
  Drr: the document's read of a kind and what it has, without parts.
-/
import Derived.Test.YtmlmbahimklfiaaGreatDoorDev
import Derived.Test.YtmlmbahimklfiaaGreatDoorEnr
namespace Go.Proofs.YtmlmbahimklfiaaGreatDoor
open Go.RowKit

/-- The document's reader, a deed's box behind it that the call made. -/
structure DX (w0 w : World) (lo pr b : Nat) (st : RSt) (cs : Array Value) : Prop where
  a : RRd w lo pr st
  fr : Fr (OneB pr) w0 w
  bx : w.heap[b]? = some (.cells cs 31 (0, 0))
  lo1 : lo ≤ pr
  lo2 : pr < w0.heap.size
  nb : w0.heap.size ≤ b
  rv : ∃ cs, w.heap[b + 1]? = some (.cells cs 31 (0, 0)) ∧ cs.size = 16
theorem DX.read {w0 w w1 : World} {lo pr b : Nat} {st st1 : RSt} {cs : Array Value} (h : DX w0 w lo pr b st cs) (a : RRd w1 lo pr st1) (f : Fr (OneB pr) w w1) : DX w0 w1 lo pr b st1 cs :=
  ⟨a, h.fr.trans f (fun k _ hx => hx), f.at_ h.bx (by have := h.lo2; have := h.nb; simp only [OneB]; omega), h.lo1, h.lo2, h.nb, h.rv.imp fun _ x => ⟨f.at_ x.1 (by have := h.lo2; have := h.nb; simp only [OneB]; omega), x.2⟩⟩
theorem DX.keep {w0 w w1 : World} {lo pr b : Nat} {st : RSt} {cs : Array Value} (h : DX w0 w lo pr b st cs) (f : Fr NoB w w1) : DX w0 w1 lo pr b st cs :=
  ⟨h.a.fr f (fun _ _ _ x => x) h.lo1, h.fr.trans f (fun _ _ x => x.elim), f.at_ h.bx (fun x => x), h.lo1, h.lo2, h.nb, h.rv.imp fun _ x => ⟨f.at_ x.1 (fun x => x), x.2⟩⟩
theorem DX.set {w0 w : World} {lo pr b : Nat} {st : RSt} {cs : Array Value} (h : DX w0 w lo pr b st cs) (i : Nat) (u : Value) : DX w0 (w.setCell ⟨b, i, none⟩ u) lo pr b st (cs.setIfInBounds i u) := by
  have h2 := h.lo2
  have h3 := h.nb
  have f : Fr (OneB b) w (w.setCell ⟨b, i, none⟩ u) := (Fr.refl (OneB b) w).setCell (p := ⟨b, i, none⟩) (fun _ => rfl) u
  exact ⟨h.a.fr f (fun k _ hk hx => by simp only [OneB] at hx; omega) h.lo1, h.fr.trans f (fun k hk hx => by simp only [OneB] at hx; omega), by rw [heap_set h.bx], h.lo1, h2, h3, h.rv.imp fun _ x => ⟨f.at_ x.1 (by simp only [OneB]; omega), x.2⟩⟩
theorem DX.start {w : World} {lo pr : Nat} {st : RSt} (a : RRd w lo pr st) (cs zs : Array Value) (hz : zs.size = 16) (h1 : lo ≤ pr) : DX w ((w.alloc (.cells cs 31)).alloc (.cells zs 31)) lo pr w.heap.size st cs :=
  ⟨a.fr (((Fr.refl NoB w).alloc _).alloc _) (fun _ _ _ x => x) h1, ((Fr.refl _ w).alloc _).alloc _, heap_alloc2_old w _ _, h1, a.lt, Nat.le_refl _, zs, heap_alloc2_new w _ _, hz⟩
theorem rd_over {w w' : World} {b q : Nat} {A : Option Addr} {l : List UInt8} (h : Rd w (b + 2) w.heap.size A l) (f : Fr (OneB q) w w') (hq : q ≤ b + 1) : Rd w' (b + 2) w'.heap.size A l :=
  (h.fr f (Nat.le_refl _) (fun k h1 _ hx => by simp only [OneB] at hx; omega)).wide (Nat.le_refl _) f.size
/-- What read answers: a deed, its lists are new. -/
def RdR (w w' : World) (lo pr : Nat) (st : RSt) (f : Fd) (e : Ending) : Prop :=
  ∃ pl, e = .returned (dval f pl 0) ∧ RRd w' lo pr st ∧ Fr (OneB pr) w w' ∧ Rd w' w.heap.size w'.heap.size pl.A f.data ∧ RdM w' w.heap.size w'.heap.size pl.B f.c.2 ∧ pl.P = none ∧ pl.e = 0
theorem DX.done {w0 w : World} {lo pr B : Nat} {st : RSt} {cs : Array Value} (h : DX w0 w lo pr B st cs) (h1 : lo ≤ pr) (hB : w0.heap.size = B) (vs : Array Value) (pl : Pl) (f : Fd) (e : Ending) (he : e = .returned (dval f pl 0)) (hd : Rd w (B + 2) w.heap.size pl.A f.data) (hm : RdM w (B + 2) w.heap.size pl.B f.c.2) (hp : pl.P = none) (hpe : pl.e = 0) : RdR w0 (w.setRow (B + 1) vs) lo pr st f e := by
  have h2 := h.lo2
  have fs : Fr (OneB (B + 1)) w (w.setRow (B + 1) vs) := (Fr.refl (OneB (B + 1)) w).setRow (fun _ => rfl) _
  exact ⟨pl, he, h.a.fr fs (fun k _ hk hx => by simp only [OneB] at hx; omega) h1, h.fr.setRow (fun hx => absurd hx (by omega)) _, (hd.fr fs (Nat.le_refl _) (fun k hk _ hx => by simp only [OneB] at hx; omega)).wide (by omega) fs.size, (hm.fr fs (Nat.le_refl _) (fun k hk _ hx => by simp only [OneB] at hx; omega)).wide (by omega) fs.size, hp, hpe⟩
set_option maxHeartbeats 3200000 in
set_option maxRecDepth 8000 in
theorem rr1_calls (f : Fd) (deep : Bool) (lo pr : Nat) (st : RSt) (w : World) (hz : f = bareOf f) (ha : RRd w lo pr st) (h1 : lo ≤ pr) (hlim : RLim st) (hk : f.k = 1) :
    Calls Tryz.prog 73 #[.pointer (some ⟨pr, 0, none⟩), dval f pl0 0, .bool deep] w fun e w' => RdR w w' lo pr (rdFd f st).2 (rdFd f st).1 e := by
  obtain ⟨z, k, s, t, x, m, path, data, ow, ve, cv, ti, er, cver, ms⟩ := f
  simp only [bareOf, Fd.mk.injEq, Prod.mk.injEq, true_and] at hz
  obtain ⟨rfl, rfl, rfl, rfl, rfl, rfl, rfl, rfl, rfl⟩ := hz
  simp only at hk
  subst hk
  have T0 := Lib.hid (DX.start ha (dcells ⟨z, 1, s, t, x, m, [], [], 0, 0, 0, 0, 0, (0, [])⟩ pl0 0) (dcells (bareF 0) pl0 0) rfl h1)
  obtain ⟨x0, s1, g0⟩ : ∃ x t, rBytes st 200 = (x, t) := ⟨_, _, rfl⟩
  have hc0 := fun W (r : RRd W lo pr st) => rrText lo pr st 200 W r
  rw [g0] at hc0
  have hlim1 : RLim s1 := by have := rBytes_lim (m := 200) hlim; rw [g0] at this; exact this
  obtain ⟨x1, s2, g1⟩ : ∃ x t, rBytes s1 1000 = (x, t) := ⟨_, _, rfl⟩
  have hc1 := fun W (r : RRd W lo pr s1) => rrBytes lo pr s1 1000 W r h1 hlim1
  rw [g1] at hc1
  obtain ⟨x2, s3, g2⟩ : ∃ x t, rInt s2 = (x, t) := ⟨_, _, rfl⟩
  have hc2 := fun W (r : RRd W lo pr s2) => rrInt lo pr s2 W r
  rw [g2] at hc2
  obtain ⟨x3, s4, g3⟩ : ∃ x t, rInt s3 = (x, t) := ⟨_, _, rfl⟩
  have hc3 := fun W (r : RRd W lo pr s3) => rrInt lo pr s3 W r
  rw [g3] at hc3
  have HFIN : Hid (rdFd ⟨z, 1, s, t, x, m, [], [], 0, 0, 0, 0, 0, (0, [])⟩ st = (⟨z, 1, s, t, x, m, x0, x1, x2, 0, x3, 0, 0, (0, [])⟩, s4)) := by show _ = _; simp [rdFd, g0, g1, g2, g3]
  have HC0 := Lib.hid hc0
  have HC1 := Lib.hid hc1
  have HC2 := Lib.hid hc2
  have HC3 := Lib.hid hc3
  have HPB := Lib.hid ha.lt
  simp only [dval, dcells, pl0, bareF] at *
  clear ha hlim hc0 hc1 hc2 hc3 g0 g1 g2 g3 hlim1
  go_enter Tryz.func73, Tryz.ntmps73
  go_wp2_with (fail)
  obtain ⟨B, hB⟩ : ∃ B, w.heap.size = B := ⟨_, rfl⟩
  have HB := Lib.hid hB
  rw [hB] at T0 HPB ⊢
  clear hB
  refine (HC0.out _ T0.out.a).mono ?_
  rintro e v0 ⟨rfl, a0, f0, -⟩
  have U0 := Lib.hid (T0.out.read a0 f0)
  clear a0 f0 T0
  have y := (cells_of U0.out.bx 6).1
  have n := (cells_of U0.out.bx 6).2
  simp only [List.getElem?_toArray, List.getElem?_cons_zero, List.getElem?_cons_succ] at y
  have T1 := Lib.hid (U0.out.set 6 (.string ⟨x0.toArray⟩))
  simp only [List.setIfInBounds_toArray, List.set_cons_zero, List.set_cons_succ] at T1
  go_wp2_with (fail)
  clear y n
  generalize v0.setCell ⟨B, 6, none⟩ (.string ⟨x0.toArray⟩) = t0 at *
  refine (HC1.out _ T1.out.a).mono ?_
  rintro e v1 ⟨DA, dc, rfl, -, -, o1, a1, f1⟩
  have HO := Lib.hid (o1.wide (by obtain ⟨_, h, _⟩ := T1.out.rv; exact Lib.lt_of_heap h) (Nat.le_refl _))
  have U1 := Lib.hid (T1.out.read a1 f1)
  clear a1 f1 o1 T1
  have y := (cells_of U1.out.bx 7).1
  have n := (cells_of U1.out.bx 7).2
  simp only [List.getElem?_toArray, List.getElem?_cons_zero, List.getElem?_cons_succ] at y
  have T2 := Lib.hid (U1.out.set 7 (.slice DA x1.length dc))
  simp only [List.setIfInBounds_toArray, List.set_cons_zero, List.set_cons_succ] at T2
  have HOs1 := Lib.hid (rd_over HO.out ((Fr.refl (OneB B) v1).setCell (p := ⟨B, 7, none⟩) (fun _ => rfl) (.slice DA x1.length dc)) (Nat.le_succ _))
  clear HO
  go_wp2_with (fail)
  clear y n
  generalize v1.setCell ⟨B, 7, none⟩ (.slice DA x1.length dc) = t1 at *
  refine (HC2.out _ T2.out.a).mono ?_
  rintro e v2 ⟨rfl, a2, f2, -⟩
  have U2 := Lib.hid (T2.out.read a2 f2)
  have HOr2 := Lib.hid (rd_over HOs1.out f2 (by have := HPB.out; omega))
  clear HOs1
  clear a2 f2 T2
  have y := (cells_of U2.out.bx 8).1
  have n := (cells_of U2.out.bx 8).2
  simp only [List.getElem?_toArray, List.getElem?_cons_zero, List.getElem?_cons_succ] at y
  have T3 := Lib.hid (U2.out.set 8 (.int .i64 x2))
  simp only [List.setIfInBounds_toArray, List.set_cons_zero, List.set_cons_succ] at T3
  have HOs2 := Lib.hid (rd_over HOr2.out ((Fr.refl (OneB B) v2).setCell (p := ⟨B, 8, none⟩) (fun _ => rfl) (.int .i64 x2)) (Nat.le_succ _))
  clear HOr2
  go_wp2_with (fail)
  clear y n
  generalize v2.setCell ⟨B, 8, none⟩ (.int .i64 x2) = t2 at *
  refine (HC3.out _ T3.out.a).mono ?_
  rintro e v3 ⟨rfl, a3, f3, -⟩
  have U3 := Lib.hid (T3.out.read a3 f3)
  have HOr3 := Lib.hid (rd_over HOs2.out f3 (by have := HPB.out; omega))
  clear HOs2
  clear a3 f3 T3
  have y := (cells_of U3.out.bx 10).1
  have n := (cells_of U3.out.bx 10).2
  simp only [List.getElem?_toArray, List.getElem?_cons_zero, List.getElem?_cons_succ] at y
  have T4 := Lib.hid (U3.out.set 10 (.int .i64 x3))
  simp only [List.setIfInBounds_toArray, List.set_cons_zero, List.set_cons_succ] at T4
  have HOs3 := Lib.hid (rd_over HOr3.out ((Fr.refl (OneB B) v3).setCell (p := ⟨B, 10, none⟩) (fun _ => rfl) (.int .i64 x3)) (Nat.le_succ _))
  clear HOr3
  go_wp2_with (first | (refine wpList_load_row rfl 31 _ rfl B rfl _ _ _ _ T4.out.bx Tryz.underlying31 rfl size16 ?_) | (with_reducible refine held_store (ty := 31) ?_) | fail)
  clear y n
  unfold Held
  obtain ⟨ZC, hrv, hzs⟩ := T4.out.rv
  have TE := Lib.hid T4.out
  have hrv2 := hrv
  refine wpList_store_row rfl 31 _ _ rfl (B + 1) #[.int .i64 z, .int .u8 1, .int .i64 s, .int .i64 t, .int .i64 x, .int .i64 m, .string ⟨x0.toArray⟩, .slice DA x1.length dc, .int .i64 x2, .int .i64 0, .int .i64 x3, .int .i64 0, .int .i64 0, .int .i64 0, .slice none 0 0, .slice none 0 0] ?_ ?_ _ _ hrv size16 hzs (by simp [Value.oneCell']) ?_
  · rfl
  · rfl
  go_wp2
  refine bodyPost_ret (v := .agg #[.int .i64 z, .int .u8 1, .int .i64 s, .int .i64 t, .int .i64 x, .int .i64 m, .string ⟨x0.toArray⟩, .slice DA x1.length dc, .int .i64 x2, .int .i64 0, .int .i64 x3, .int .i64 0, .int .i64 0, .int .i64 0, .slice none 0 0, .slice none 0 0]) (results_cell_row (fn := Tryz.f73) (p := 6) (ty := 31) (by kernel_rfl) _ _ (B + 1) 31 _ _ _ rfl (setRow_heap _ _ _ _ _ _ hrv2) Tryz.underlying31 rfl (by kernel_rfl)) rfl ?_
  rw [HFIN.out]
  exact TE.out.done h1 HB.out #[.int .i64 z, .int .u8 1, .int .i64 s, .int .i64 t, .int .i64 x, .int .i64 m, .string ⟨x0.toArray⟩, .slice DA x1.length dc, .int .i64 x2, .int .i64 0, .int .i64 x3, .int .i64 0, .int .i64 0, .int .i64 0, .slice none 0 0, .slice none 0 0] ⟨DA, dc, none, 0, none, 0⟩ _ _ rfl (HOs3.out) (RdM.nil' _ _ _ _) rfl rfl
set_option maxHeartbeats 3200000 in
set_option maxRecDepth 8000 in
theorem rr2_calls (f : Fd) (deep : Bool) (lo pr : Nat) (st : RSt) (w : World) (hz : f = bareOf f) (ha : RRd w lo pr st) (h1 : lo ≤ pr) (hlim : RLim st) (hk : f.k = 2) :
    Calls Tryz.prog 73 #[.pointer (some ⟨pr, 0, none⟩), dval f pl0 0, .bool deep] w fun e w' => RdR w w' lo pr (rdFd f st).2 (rdFd f st).1 e := by
  obtain ⟨z, k, s, t, x, m, path, data, ow, ve, cv, ti, er, cver, ms⟩ := f
  simp only [bareOf, Fd.mk.injEq, Prod.mk.injEq, true_and] at hz
  obtain ⟨rfl, rfl, rfl, rfl, rfl, rfl, rfl, rfl, rfl⟩ := hz
  simp only at hk
  subst hk
  have T0 := Lib.hid (DX.start ha (dcells ⟨z, 2, s, t, x, m, [], [], 0, 0, 0, 0, 0, (0, [])⟩ pl0 0) (dcells (bareF 0) pl0 0) rfl h1)
  obtain ⟨x0, s1, g0⟩ : ∃ x t, rBytes st 200 = (x, t) := ⟨_, _, rfl⟩
  have hc0 := fun W (r : RRd W lo pr st) => rrText lo pr st 200 W r
  rw [g0] at hc0
  have hlim1 : RLim s1 := by have := rBytes_lim (m := 200) hlim; rw [g0] at this; exact this
  obtain ⟨x1, s2, g1⟩ : ∃ x t, rInt s1 = (x, t) := ⟨_, _, rfl⟩
  have hc1 := fun W (r : RRd W lo pr s1) => rrInt lo pr s1 W r
  rw [g1] at hc1
  have HFIN : Hid (rdFd ⟨z, 2, s, t, x, m, [], [], 0, 0, 0, 0, 0, (0, [])⟩ st = (⟨z, 2, s, t, x, m, x0, [], 0, 0, x1, 0, 0, (0, [])⟩, s2)) := by show _ = _; simp [rdFd, g0, g1]
  have HC0 := Lib.hid hc0
  have HC1 := Lib.hid hc1
  have HPB := Lib.hid ha.lt
  simp only [dval, dcells, pl0, bareF] at *
  clear ha hlim hc0 hc1 g0 g1 hlim1
  go_enter Tryz.func73, Tryz.ntmps73
  go_wp2_with (fail)
  obtain ⟨B, hB⟩ : ∃ B, w.heap.size = B := ⟨_, rfl⟩
  have HB := Lib.hid hB
  rw [hB] at T0 HPB ⊢
  clear hB
  refine (HC0.out _ T0.out.a).mono ?_
  rintro e v0 ⟨rfl, a0, f0, -⟩
  have U0 := Lib.hid (T0.out.read a0 f0)
  clear a0 f0 T0
  have y := (cells_of U0.out.bx 6).1
  have n := (cells_of U0.out.bx 6).2
  simp only [List.getElem?_toArray, List.getElem?_cons_zero, List.getElem?_cons_succ] at y
  have T1 := Lib.hid (U0.out.set 6 (.string ⟨x0.toArray⟩))
  simp only [List.setIfInBounds_toArray, List.set_cons_zero, List.set_cons_succ] at T1
  go_wp2_with (fail)
  clear y n
  generalize v0.setCell ⟨B, 6, none⟩ (.string ⟨x0.toArray⟩) = t0 at *
  refine (HC1.out _ T1.out.a).mono ?_
  rintro e v1 ⟨rfl, a1, f1, -⟩
  have U1 := Lib.hid (T1.out.read a1 f1)
  clear a1 f1 T1
  have y := (cells_of U1.out.bx 10).1
  have n := (cells_of U1.out.bx 10).2
  simp only [List.getElem?_toArray, List.getElem?_cons_zero, List.getElem?_cons_succ] at y
  have T2 := Lib.hid (U1.out.set 10 (.int .i64 x1))
  simp only [List.setIfInBounds_toArray, List.set_cons_zero, List.set_cons_succ] at T2
  go_wp2_with (first | (refine wpList_load_row rfl 31 _ rfl B rfl _ _ _ _ T2.out.bx Tryz.underlying31 rfl size16 ?_) | (with_reducible refine held_store (ty := 31) ?_) | fail)
  clear y n
  unfold Held
  obtain ⟨ZC, hrv, hzs⟩ := T2.out.rv
  have TE := Lib.hid T2.out
  have hrv2 := hrv
  refine wpList_store_row rfl 31 _ _ rfl (B + 1) #[.int .i64 z, .int .u8 2, .int .i64 s, .int .i64 t, .int .i64 x, .int .i64 m, .string ⟨x0.toArray⟩, .slice none 0 0, .int .i64 0, .int .i64 0, .int .i64 x1, .int .i64 0, .int .i64 0, .int .i64 0, .slice none 0 0, .slice none 0 0] ?_ ?_ _ _ hrv size16 hzs (by simp [Value.oneCell']) ?_
  · rfl
  · rfl
  go_wp2
  refine bodyPost_ret (v := .agg #[.int .i64 z, .int .u8 2, .int .i64 s, .int .i64 t, .int .i64 x, .int .i64 m, .string ⟨x0.toArray⟩, .slice none 0 0, .int .i64 0, .int .i64 0, .int .i64 x1, .int .i64 0, .int .i64 0, .int .i64 0, .slice none 0 0, .slice none 0 0]) (results_cell_row (fn := Tryz.f73) (p := 6) (ty := 31) (by kernel_rfl) _ _ (B + 1) 31 _ _ _ rfl (setRow_heap _ _ _ _ _ _ hrv2) Tryz.underlying31 rfl (by kernel_rfl)) rfl ?_
  rw [HFIN.out]
  exact TE.out.done h1 HB.out #[.int .i64 z, .int .u8 2, .int .i64 s, .int .i64 t, .int .i64 x, .int .i64 m, .string ⟨x0.toArray⟩, .slice none 0 0, .int .i64 0, .int .i64 0, .int .i64 x1, .int .i64 0, .int .i64 0, .int .i64 0, .slice none 0 0, .slice none 0 0] pl0 _ _ rfl (Rd.nil _ _ _ _) (RdM.nil' _ _ _ _) rfl rfl
set_option maxHeartbeats 3200000 in
set_option maxRecDepth 8000 in
theorem rr3_calls (f : Fd) (deep : Bool) (lo pr : Nat) (st : RSt) (w : World) (hz : f = bareOf f) (ha : RRd w lo pr st) (h1 : lo ≤ pr) (hlim : RLim st) (hk : f.k = 3) :
    Calls Tryz.prog 73 #[.pointer (some ⟨pr, 0, none⟩), dval f pl0 0, .bool deep] w fun e w' => RdR w w' lo pr (rdFd f st).2 (rdFd f st).1 e := by
  obtain ⟨z, k, s, t, x, m, path, data, ow, ve, cv, ti, er, cver, ms⟩ := f
  simp only [bareOf, Fd.mk.injEq, Prod.mk.injEq, true_and] at hz
  obtain ⟨rfl, rfl, rfl, rfl, rfl, rfl, rfl, rfl, rfl⟩ := hz
  simp only at hk
  subst hk
  have T0 := Lib.hid (DX.start ha (dcells ⟨z, 3, s, t, x, m, [], [], 0, 0, 0, 0, 0, (0, [])⟩ pl0 0) (dcells (bareF 0) pl0 0) rfl h1)
  obtain ⟨x0, s1, g0⟩ : ∃ x t, rBytes st 200 = (x, t) := ⟨_, _, rfl⟩
  have hc0 := fun W (r : RRd W lo pr st) => rrText lo pr st 200 W r
  rw [g0] at hc0
  have hlim1 : RLim s1 := by have := rBytes_lim (m := 200) hlim; rw [g0] at this; exact this
  obtain ⟨x1, s2, g1⟩ : ∃ x t, rBytes s1 1000 = (x, t) := ⟨_, _, rfl⟩
  have hc1 := fun W (r : RRd W lo pr s1) => rrBytes lo pr s1 1000 W r h1 hlim1
  rw [g1] at hc1
  obtain ⟨x2, s3, g2⟩ : ∃ x t, rInt s2 = (x, t) := ⟨_, _, rfl⟩
  have hc2 := fun W (r : RRd W lo pr s2) => rrInt lo pr s2 W r
  rw [g2] at hc2
  have HFIN : Hid (rdFd ⟨z, 3, s, t, x, m, [], [], 0, 0, 0, 0, 0, (0, [])⟩ st = (⟨z, 3, s, t, x, m, x0, x1, 0, x2, 0, 0, 0, (0, [])⟩, s3)) := by show _ = _; simp [rdFd, g0, g1, g2]
  have HC0 := Lib.hid hc0
  have HC1 := Lib.hid hc1
  have HC2 := Lib.hid hc2
  have HPB := Lib.hid ha.lt
  simp only [dval, dcells, pl0, bareF] at *
  clear ha hlim hc0 hc1 hc2 g0 g1 g2 hlim1
  go_enter Tryz.func73, Tryz.ntmps73
  go_wp2_with (fail)
  obtain ⟨B, hB⟩ : ∃ B, w.heap.size = B := ⟨_, rfl⟩
  have HB := Lib.hid hB
  rw [hB] at T0 HPB ⊢
  clear hB
  refine (HC0.out _ T0.out.a).mono ?_
  rintro e v0 ⟨rfl, a0, f0, -⟩
  have U0 := Lib.hid (T0.out.read a0 f0)
  clear a0 f0 T0
  have y := (cells_of U0.out.bx 6).1
  have n := (cells_of U0.out.bx 6).2
  simp only [List.getElem?_toArray, List.getElem?_cons_zero, List.getElem?_cons_succ] at y
  have T1 := Lib.hid (U0.out.set 6 (.string ⟨x0.toArray⟩))
  simp only [List.setIfInBounds_toArray, List.set_cons_zero, List.set_cons_succ] at T1
  go_wp2_with (fail)
  clear y n
  generalize v0.setCell ⟨B, 6, none⟩ (.string ⟨x0.toArray⟩) = t0 at *
  refine (HC1.out _ T1.out.a).mono ?_
  rintro e v1 ⟨DA, dc, rfl, -, -, o1, a1, f1⟩
  have HO := Lib.hid (o1.wide (by obtain ⟨_, h, _⟩ := T1.out.rv; exact Lib.lt_of_heap h) (Nat.le_refl _))
  have U1 := Lib.hid (T1.out.read a1 f1)
  clear a1 f1 o1 T1
  have y := (cells_of U1.out.bx 7).1
  have n := (cells_of U1.out.bx 7).2
  simp only [List.getElem?_toArray, List.getElem?_cons_zero, List.getElem?_cons_succ] at y
  have T2 := Lib.hid (U1.out.set 7 (.slice DA x1.length dc))
  simp only [List.setIfInBounds_toArray, List.set_cons_zero, List.set_cons_succ] at T2
  have HOs1 := Lib.hid (rd_over HO.out ((Fr.refl (OneB B) v1).setCell (p := ⟨B, 7, none⟩) (fun _ => rfl) (.slice DA x1.length dc)) (Nat.le_succ _))
  clear HO
  go_wp2_with (fail)
  clear y n
  generalize v1.setCell ⟨B, 7, none⟩ (.slice DA x1.length dc) = t1 at *
  refine (HC2.out _ T2.out.a).mono ?_
  rintro e v2 ⟨rfl, a2, f2, -⟩
  have U2 := Lib.hid (T2.out.read a2 f2)
  have HOr2 := Lib.hid (rd_over HOs1.out f2 (by have := HPB.out; omega))
  clear HOs1
  clear a2 f2 T2
  have y := (cells_of U2.out.bx 9).1
  have n := (cells_of U2.out.bx 9).2
  simp only [List.getElem?_toArray, List.getElem?_cons_zero, List.getElem?_cons_succ] at y
  have T3 := Lib.hid (U2.out.set 9 (.int .i64 x2))
  simp only [List.setIfInBounds_toArray, List.set_cons_zero, List.set_cons_succ] at T3
  have HOs2 := Lib.hid (rd_over HOr2.out ((Fr.refl (OneB B) v2).setCell (p := ⟨B, 9, none⟩) (fun _ => rfl) (.int .i64 x2)) (Nat.le_succ _))
  clear HOr2
  go_wp2_with (first | (refine wpList_load_row rfl 31 _ rfl B rfl _ _ _ _ T3.out.bx Tryz.underlying31 rfl size16 ?_) | (with_reducible refine held_store (ty := 31) ?_) | fail)
  clear y n
  unfold Held
  obtain ⟨ZC, hrv, hzs⟩ := T3.out.rv
  have TE := Lib.hid T3.out
  have hrv2 := hrv
  refine wpList_store_row rfl 31 _ _ rfl (B + 1) #[.int .i64 z, .int .u8 3, .int .i64 s, .int .i64 t, .int .i64 x, .int .i64 m, .string ⟨x0.toArray⟩, .slice DA x1.length dc, .int .i64 0, .int .i64 x2, .int .i64 0, .int .i64 0, .int .i64 0, .int .i64 0, .slice none 0 0, .slice none 0 0] ?_ ?_ _ _ hrv size16 hzs (by simp [Value.oneCell']) ?_
  · rfl
  · rfl
  go_wp2
  refine bodyPost_ret (v := .agg #[.int .i64 z, .int .u8 3, .int .i64 s, .int .i64 t, .int .i64 x, .int .i64 m, .string ⟨x0.toArray⟩, .slice DA x1.length dc, .int .i64 0, .int .i64 x2, .int .i64 0, .int .i64 0, .int .i64 0, .int .i64 0, .slice none 0 0, .slice none 0 0]) (results_cell_row (fn := Tryz.f73) (p := 6) (ty := 31) (by kernel_rfl) _ _ (B + 1) 31 _ _ _ rfl (setRow_heap _ _ _ _ _ _ hrv2) Tryz.underlying31 rfl (by kernel_rfl)) rfl ?_
  rw [HFIN.out]
  exact TE.out.done h1 HB.out #[.int .i64 z, .int .u8 3, .int .i64 s, .int .i64 t, .int .i64 x, .int .i64 m, .string ⟨x0.toArray⟩, .slice DA x1.length dc, .int .i64 0, .int .i64 x2, .int .i64 0, .int .i64 0, .int .i64 0, .int .i64 0, .slice none 0 0, .slice none 0 0] ⟨DA, dc, none, 0, none, 0⟩ _ _ rfl (HOs2.out) (RdM.nil' _ _ _ _) rfl rfl
set_option maxHeartbeats 3200000 in
set_option maxRecDepth 8000 in
theorem rr4_calls (f : Fd) (deep : Bool) (lo pr : Nat) (st : RSt) (w : World) (hz : f = bareOf f) (ha : RRd w lo pr st) (h1 : lo ≤ pr) (_hlim : RLim st) (hk : f.k = 4) :
    Calls Tryz.prog 73 #[.pointer (some ⟨pr, 0, none⟩), dval f pl0 0, .bool deep] w fun e w' => RdR w w' lo pr (rdFd f st).2 (rdFd f st).1 e := by
  obtain ⟨z, k, s, t, x, m, path, data, ow, ve, cv, ti, er, cver, ms⟩ := f
  simp only [bareOf, Fd.mk.injEq, Prod.mk.injEq, true_and] at hz
  obtain ⟨rfl, rfl, rfl, rfl, rfl, rfl, rfl, rfl, rfl⟩ := hz
  simp only at hk
  subst hk
  have T0 := Lib.hid (DX.start ha (dcells ⟨z, 4, s, t, x, m, [], [], 0, 0, 0, 0, 0, (0, [])⟩ pl0 0) (dcells (bareF 0) pl0 0) rfl h1)
  obtain ⟨x0, s1, g0⟩ : ∃ x t, rInt st = (x, t) := ⟨_, _, rfl⟩
  have hc0 := fun W (r : RRd W lo pr st) => rrInt lo pr st W r
  rw [g0] at hc0
  have HFIN : Hid (rdFd ⟨z, 4, s, t, x, m, [], [], 0, 0, 0, 0, 0, (0, [])⟩ st = (⟨z, 4, s, t, x, m, [], [], 0, 0, 0, x0, 0, (0, [])⟩, s1)) := by show _ = _; simp [rdFd, g0]
  have HC0 := Lib.hid hc0
  have HPB := Lib.hid ha.lt
  simp only [dval, dcells, pl0, bareF] at *
  clear ha _hlim hc0 g0
  go_enter Tryz.func73, Tryz.ntmps73
  go_wp2_with (fail)
  obtain ⟨B, hB⟩ : ∃ B, w.heap.size = B := ⟨_, rfl⟩
  have HB := Lib.hid hB
  rw [hB] at T0 HPB ⊢
  clear hB
  refine (HC0.out _ T0.out.a).mono ?_
  rintro e v0 ⟨rfl, a0, f0, -⟩
  have U0 := Lib.hid (T0.out.read a0 f0)
  clear a0 f0 T0
  have y := (cells_of U0.out.bx 11).1
  have n := (cells_of U0.out.bx 11).2
  simp only [List.getElem?_toArray, List.getElem?_cons_zero, List.getElem?_cons_succ] at y
  have T1 := Lib.hid (U0.out.set 11 (.int .i64 x0))
  simp only [List.setIfInBounds_toArray, List.set_cons_zero, List.set_cons_succ] at T1
  go_wp2_with (first | (refine wpList_load_row rfl 31 _ rfl B rfl _ _ _ _ T1.out.bx Tryz.underlying31 rfl size16 ?_) | (with_reducible refine held_store (ty := 31) ?_) | fail)
  clear y n
  unfold Held
  obtain ⟨ZC, hrv, hzs⟩ := T1.out.rv
  have TE := Lib.hid T1.out
  have hrv2 := hrv
  refine wpList_store_row rfl 31 _ _ rfl (B + 1) #[.int .i64 z, .int .u8 4, .int .i64 s, .int .i64 t, .int .i64 x, .int .i64 m, .string ⟨#[]⟩, .slice none 0 0, .int .i64 0, .int .i64 0, .int .i64 0, .int .i64 x0, .int .i64 0, .int .i64 0, .slice none 0 0, .slice none 0 0] ?_ ?_ _ _ hrv size16 hzs (by simp [Value.oneCell']) ?_
  · rfl
  · rfl
  go_wp2
  refine bodyPost_ret (v := .agg #[.int .i64 z, .int .u8 4, .int .i64 s, .int .i64 t, .int .i64 x, .int .i64 m, .string ⟨#[]⟩, .slice none 0 0, .int .i64 0, .int .i64 0, .int .i64 0, .int .i64 x0, .int .i64 0, .int .i64 0, .slice none 0 0, .slice none 0 0]) (results_cell_row (fn := Tryz.f73) (p := 6) (ty := 31) (by kernel_rfl) _ _ (B + 1) 31 _ _ _ rfl (setRow_heap _ _ _ _ _ _ hrv2) Tryz.underlying31 rfl (by kernel_rfl)) rfl ?_
  rw [HFIN.out]
  exact TE.out.done h1 HB.out #[.int .i64 z, .int .u8 4, .int .i64 s, .int .i64 t, .int .i64 x, .int .i64 m, .string ⟨#[]⟩, .slice none 0 0, .int .i64 0, .int .i64 0, .int .i64 0, .int .i64 x0, .int .i64 0, .int .i64 0, .slice none 0 0, .slice none 0 0] pl0 _ _ rfl (Rd.nil _ _ _ _) (RdM.nil' _ _ _ _) rfl rfl
set_option maxHeartbeats 3200000 in
set_option maxRecDepth 8000 in
theorem rr5_calls (f : Fd) (deep : Bool) (lo pr : Nat) (st : RSt) (w : World) (hz : f = bareOf f) (ha : RRd w lo pr st) (h1 : lo ≤ pr) (_hlim : RLim st) (hdp : deep = false) (hk : f.k = 5) :
    Calls Tryz.prog 73 #[.pointer (some ⟨pr, 0, none⟩), dval f pl0 0, .bool deep] w fun e w' => RdR w w' lo pr (rdFd f st).2 (rdFd f st).1 e := by
  obtain ⟨z, k, s, t, x, m, path, data, ow, ve, cv, ti, er, cver, ms⟩ := f
  simp only [bareOf, Fd.mk.injEq, Prod.mk.injEq, true_and] at hz
  obtain ⟨rfl, rfl, rfl, rfl, rfl, rfl, rfl, rfl, rfl⟩ := hz
  simp only at hk
  subst hdp
  subst hk
  have T0 := Lib.hid (DX.start ha (dcells ⟨z, 5, s, t, x, m, [], [], 0, 0, 0, 0, 0, (0, [])⟩ pl0 0) (dcells (bareF 0) pl0 0) rfl h1)
  obtain ⟨x0, s1, g0⟩ : ∃ x t, rInt st = (x, t) := ⟨_, _, rfl⟩
  have hc0 := fun W (r : RRd W lo pr st) => rrInt lo pr st W r
  rw [g0] at hc0
  have HFIN : Hid (rdFd ⟨z, 5, s, t, x, m, [], [], 0, 0, 0, 0, 0, (0, [])⟩ st = (⟨z, 5, s, t, x, m, [], [], x0, 0, 0, 0, 0, (0, [])⟩, s1)) := by show _ = _; simp [rdFd, g0]
  have HC0 := Lib.hid hc0
  have HPB := Lib.hid ha.lt
  simp only [dval, dcells, pl0, bareF] at *
  clear ha _hlim hc0 g0
  go_enter Tryz.func73, Tryz.ntmps73
  go_wp2_with (fail)
  obtain ⟨B, hB⟩ : ∃ B, w.heap.size = B := ⟨_, rfl⟩
  have HB := Lib.hid hB
  rw [hB] at T0 HPB ⊢
  clear hB
  refine (HC0.out _ T0.out.a).mono ?_
  rintro e v0 ⟨rfl, a0, f0, -⟩
  have U0 := Lib.hid (T0.out.read a0 f0)
  clear a0 f0 T0
  have y := (cells_of U0.out.bx 8).1
  have n := (cells_of U0.out.bx 8).2
  simp only [List.getElem?_toArray, List.getElem?_cons_zero, List.getElem?_cons_succ] at y
  have T1 := Lib.hid (U0.out.set 8 (.int .i64 x0))
  simp only [List.setIfInBounds_toArray, List.set_cons_zero, List.set_cons_succ] at T1
  go_wp2_with (first | (refine wpList_load_row rfl 31 _ rfl B rfl _ _ _ _ T1.out.bx Tryz.underlying31 rfl size16 ?_) | (with_reducible refine held_store (ty := 31) ?_) | fail)
  clear y n
  unfold Held
  obtain ⟨ZC, hrv, hzs⟩ := T1.out.rv
  have TE := Lib.hid T1.out
  have hrv2 := hrv
  refine wpList_store_row rfl 31 _ _ rfl (B + 1) #[.int .i64 z, .int .u8 5, .int .i64 s, .int .i64 t, .int .i64 x, .int .i64 m, .string ⟨#[]⟩, .slice none 0 0, .int .i64 x0, .int .i64 0, .int .i64 0, .int .i64 0, .int .i64 0, .int .i64 0, .slice none 0 0, .slice none 0 0] ?_ ?_ _ _ hrv size16 hzs (by simp [Value.oneCell']) ?_
  · rfl
  · rfl
  go_wp2
  refine bodyPost_ret (v := .agg #[.int .i64 z, .int .u8 5, .int .i64 s, .int .i64 t, .int .i64 x, .int .i64 m, .string ⟨#[]⟩, .slice none 0 0, .int .i64 x0, .int .i64 0, .int .i64 0, .int .i64 0, .int .i64 0, .int .i64 0, .slice none 0 0, .slice none 0 0]) (results_cell_row (fn := Tryz.f73) (p := 6) (ty := 31) (by kernel_rfl) _ _ (B + 1) 31 _ _ _ rfl (setRow_heap _ _ _ _ _ _ hrv2) Tryz.underlying31 rfl (by kernel_rfl)) rfl ?_
  rw [HFIN.out]
  exact TE.out.done h1 HB.out #[.int .i64 z, .int .u8 5, .int .i64 s, .int .i64 t, .int .i64 x, .int .i64 m, .string ⟨#[]⟩, .slice none 0 0, .int .i64 x0, .int .i64 0, .int .i64 0, .int .i64 0, .int .i64 0, .int .i64 0, .slice none 0 0, .slice none 0 0] pl0 _ _ rfl (Rd.nil _ _ _ _) (RdM.nil' _ _ _ _) rfl rfl
set_option maxHeartbeats 3200000 in
set_option maxRecDepth 8000 in
theorem rr6_calls (f : Fd) (deep : Bool) (lo pr : Nat) (st : RSt) (w : World) (hz : f = bareOf f) (ha : RRd w lo pr st) (h1 : lo ≤ pr) (_hlim : RLim st) (hk : f.k = 6) :
    Calls Tryz.prog 73 #[.pointer (some ⟨pr, 0, none⟩), dval f pl0 0, .bool deep] w fun e w' => RdR w w' lo pr (rdFd f st).2 (rdFd f st).1 e := by
  obtain ⟨z, k, s, t, x, m, path, data, ow, ve, cv, ti, er, cver, ms⟩ := f
  simp only [bareOf, Fd.mk.injEq, Prod.mk.injEq, true_and] at hz
  obtain ⟨rfl, rfl, rfl, rfl, rfl, rfl, rfl, rfl, rfl⟩ := hz
  simp only at hk
  subst hk
  have T0 := Lib.hid (DX.start ha (dcells ⟨z, 6, s, t, x, m, [], [], 0, 0, 0, 0, 0, (0, [])⟩ pl0 0) (dcells (bareF 0) pl0 0) rfl h1)
  have HFIN : Hid (rdFd ⟨z, 6, s, t, x, m, [], [], 0, 0, 0, 0, 0, (0, [])⟩ st = (⟨z, 6, s, t, x, m, [], [], 0, 0, 0, 0, 0, (0, [])⟩, st)) := by show _ = _; simp [rdFd]
  have HPB := Lib.hid ha.lt
  simp only [dval, dcells, pl0, bareF] at *
  clear ha _hlim 
  go_enter Tryz.func73, Tryz.ntmps73
  obtain ⟨B, hB⟩ : ∃ B, w.heap.size = B := ⟨_, rfl⟩
  have HB := Lib.hid hB
  rw [hB] at T0 HPB
  go_wp2_with (first | (rw [hB]; refine wpList_load_row rfl 31 _ rfl B rfl _ _ _ _ T0.out.bx Tryz.underlying31 rfl size16 ?_) | (with_reducible refine held_store (ty := 31) ?_) | fail)
  try rw [hB]
  clear hB
  unfold Held
  obtain ⟨ZC, hrv, hzs⟩ := T0.out.rv
  have TE := Lib.hid T0.out
  have hrv2 := hrv
  refine wpList_store_row rfl 31 _ _ rfl (B + 1) #[.int .i64 z, .int .u8 6, .int .i64 s, .int .i64 t, .int .i64 x, .int .i64 m, .string ⟨#[]⟩, .slice none 0 0, .int .i64 0, .int .i64 0, .int .i64 0, .int .i64 0, .int .i64 0, .int .i64 0, .slice none 0 0, .slice none 0 0] ?_ ?_ _ _ hrv size16 hzs (by simp [Value.oneCell']) ?_
  · rfl
  · rfl
  go_wp2
  refine bodyPost_ret (v := .agg #[.int .i64 z, .int .u8 6, .int .i64 s, .int .i64 t, .int .i64 x, .int .i64 m, .string ⟨#[]⟩, .slice none 0 0, .int .i64 0, .int .i64 0, .int .i64 0, .int .i64 0, .int .i64 0, .int .i64 0, .slice none 0 0, .slice none 0 0]) (results_cell_row (fn := Tryz.f73) (p := 6) (ty := 31) (by kernel_rfl) _ _ (B + 1) 31 _ _ _ rfl (setRow_heap _ _ _ _ _ _ hrv2) Tryz.underlying31 rfl (by kernel_rfl)) rfl ?_
  rw [HFIN.out]
  exact TE.out.done h1 HB.out #[.int .i64 z, .int .u8 6, .int .i64 s, .int .i64 t, .int .i64 x, .int .i64 m, .string ⟨#[]⟩, .slice none 0 0, .int .i64 0, .int .i64 0, .int .i64 0, .int .i64 0, .int .i64 0, .int .i64 0, .slice none 0 0, .slice none 0 0] pl0 _ _ rfl (Rd.nil _ _ _ _) (RdM.nil' _ _ _ _) rfl rfl
set_option maxHeartbeats 3200000 in
set_option maxRecDepth 8000 in
theorem rr8_calls (f : Fd) (deep : Bool) (lo pr : Nat) (st : RSt) (w : World) (hz : f = bareOf f) (ha : RRd w lo pr st) (h1 : lo ≤ pr) (_hlim : RLim st) (hdp : deep = false) (hk : f.k = 8) :
    Calls Tryz.prog 73 #[.pointer (some ⟨pr, 0, none⟩), dval f pl0 0, .bool deep] w fun e w' => RdR w w' lo pr (rdFd f st).2 (rdFd f st).1 e := by
  obtain ⟨z, k, s, t, x, m, path, data, ow, ve, cv, ti, er, cver, ms⟩ := f
  simp only [bareOf, Fd.mk.injEq, Prod.mk.injEq, true_and] at hz
  obtain ⟨rfl, rfl, rfl, rfl, rfl, rfl, rfl, rfl, rfl⟩ := hz
  simp only at hk
  subst hdp
  subst hk
  have T0 := Lib.hid (DX.start ha (dcells ⟨z, 8, s, t, x, m, [], [], 0, 0, 0, 0, 0, (0, [])⟩ pl0 0) (dcells (bareF 0) pl0 0) rfl h1)
  have HFIN : Hid (rdFd ⟨z, 8, s, t, x, m, [], [], 0, 0, 0, 0, 0, (0, [])⟩ st = (⟨z, 8, s, t, x, m, [], [], 0, 0, 0, 0, 0, (0, [])⟩, st)) := by show _ = _; simp [rdFd]
  have HPB := Lib.hid ha.lt
  simp only [dval, dcells, pl0, bareF] at *
  clear ha _hlim 
  go_enter Tryz.func73, Tryz.ntmps73
  obtain ⟨B, hB⟩ : ∃ B, w.heap.size = B := ⟨_, rfl⟩
  have HB := Lib.hid hB
  rw [hB] at T0 HPB
  go_wp2_with (first | (rw [hB]; refine wpList_load_row rfl 31 _ rfl B rfl _ _ _ _ T0.out.bx Tryz.underlying31 rfl size16 ?_) | (with_reducible refine held_store (ty := 31) ?_) | fail)
  try rw [hB]
  clear hB
  unfold Held
  obtain ⟨ZC, hrv, hzs⟩ := T0.out.rv
  have TE := Lib.hid T0.out
  have hrv2 := hrv
  refine wpList_store_row rfl 31 _ _ rfl (B + 1) #[.int .i64 z, .int .u8 8, .int .i64 s, .int .i64 t, .int .i64 x, .int .i64 m, .string ⟨#[]⟩, .slice none 0 0, .int .i64 0, .int .i64 0, .int .i64 0, .int .i64 0, .int .i64 0, .int .i64 0, .slice none 0 0, .slice none 0 0] ?_ ?_ _ _ hrv size16 hzs (by simp [Value.oneCell']) ?_
  · rfl
  · rfl
  go_wp2
  refine bodyPost_ret (v := .agg #[.int .i64 z, .int .u8 8, .int .i64 s, .int .i64 t, .int .i64 x, .int .i64 m, .string ⟨#[]⟩, .slice none 0 0, .int .i64 0, .int .i64 0, .int .i64 0, .int .i64 0, .int .i64 0, .int .i64 0, .slice none 0 0, .slice none 0 0]) (results_cell_row (fn := Tryz.f73) (p := 6) (ty := 31) (by kernel_rfl) _ _ (B + 1) 31 _ _ _ rfl (setRow_heap _ _ _ _ _ _ hrv2) Tryz.underlying31 rfl (by kernel_rfl)) rfl ?_
  rw [HFIN.out]
  exact TE.out.done h1 HB.out #[.int .i64 z, .int .u8 8, .int .i64 s, .int .i64 t, .int .i64 x, .int .i64 m, .string ⟨#[]⟩, .slice none 0 0, .int .i64 0, .int .i64 0, .int .i64 0, .int .i64 0, .int .i64 0, .int .i64 0, .slice none 0 0, .slice none 0 0] pl0 _ _ rfl (Rd.nil _ _ _ _) (RdM.nil' _ _ _ _) rfl rfl
set_option maxHeartbeats 3200000 in
set_option maxRecDepth 8000 in
theorem rr9_calls (f : Fd) (deep : Bool) (lo pr : Nat) (st : RSt) (w : World) (hz : f = bareOf f) (ha : RRd w lo pr st) (h1 : lo ≤ pr) (_hlim : RLim st) (hk : f.k = 9) :
    Calls Tryz.prog 73 #[.pointer (some ⟨pr, 0, none⟩), dval f pl0 0, .bool deep] w fun e w' => RdR w w' lo pr (rdFd f st).2 (rdFd f st).1 e := by
  obtain ⟨z, k, s, t, x, m, path, data, ow, ve, cv, ti, er, cver, ms⟩ := f
  simp only [bareOf, Fd.mk.injEq, Prod.mk.injEq, true_and] at hz
  obtain ⟨rfl, rfl, rfl, rfl, rfl, rfl, rfl, rfl, rfl⟩ := hz
  simp only at hk
  subst hk
  have T0 := Lib.hid (DX.start ha (dcells ⟨z, 9, s, t, x, m, [], [], 0, 0, 0, 0, 0, (0, [])⟩ pl0 0) (dcells (bareF 0) pl0 0) rfl h1)
  obtain ⟨x0, s1, g0⟩ : ∃ x t, rInt st = (x, t) := ⟨_, _, rfl⟩
  have hc0 := fun W (r : RRd W lo pr st) => rrInt lo pr st W r
  rw [g0] at hc0
  have HFIN : Hid (rdFd ⟨z, 9, s, t, x, m, [], [], 0, 0, 0, 0, 0, (0, [])⟩ st = (⟨z, 9, s, t, x, m, [], [], 0, 0, 0, 0, x0, (0, [])⟩, s1)) := by show _ = _; simp [rdFd, g0]
  have HC0 := Lib.hid hc0
  have HPB := Lib.hid ha.lt
  simp only [dval, dcells, pl0, bareF] at *
  clear ha _hlim hc0 g0
  go_enter Tryz.func73, Tryz.ntmps73
  go_wp2_with (fail)
  obtain ⟨B, hB⟩ : ∃ B, w.heap.size = B := ⟨_, rfl⟩
  have HB := Lib.hid hB
  rw [hB] at T0 HPB ⊢
  clear hB
  refine (HC0.out _ T0.out.a).mono ?_
  rintro e v0 ⟨rfl, a0, f0, -⟩
  have U0 := Lib.hid (T0.out.read a0 f0)
  clear a0 f0 T0
  have y := (cells_of U0.out.bx 12).1
  have n := (cells_of U0.out.bx 12).2
  simp only [List.getElem?_toArray, List.getElem?_cons_zero, List.getElem?_cons_succ] at y
  have T1 := Lib.hid (U0.out.set 12 (.int .i64 x0))
  simp only [List.setIfInBounds_toArray, List.set_cons_zero, List.set_cons_succ] at T1
  go_wp2_with (first | (refine wpList_load_row rfl 31 _ rfl B rfl _ _ _ _ T1.out.bx Tryz.underlying31 rfl size16 ?_) | (with_reducible refine held_store (ty := 31) ?_) | fail)
  clear y n
  unfold Held
  obtain ⟨ZC, hrv, hzs⟩ := T1.out.rv
  have TE := Lib.hid T1.out
  have hrv2 := hrv
  refine wpList_store_row rfl 31 _ _ rfl (B + 1) #[.int .i64 z, .int .u8 9, .int .i64 s, .int .i64 t, .int .i64 x, .int .i64 m, .string ⟨#[]⟩, .slice none 0 0, .int .i64 0, .int .i64 0, .int .i64 0, .int .i64 0, .int .i64 x0, .int .i64 0, .slice none 0 0, .slice none 0 0] ?_ ?_ _ _ hrv size16 hzs (by simp [Value.oneCell']) ?_
  · rfl
  · rfl
  go_wp2
  refine bodyPost_ret (v := .agg #[.int .i64 z, .int .u8 9, .int .i64 s, .int .i64 t, .int .i64 x, .int .i64 m, .string ⟨#[]⟩, .slice none 0 0, .int .i64 0, .int .i64 0, .int .i64 0, .int .i64 0, .int .i64 x0, .int .i64 0, .slice none 0 0, .slice none 0 0]) (results_cell_row (fn := Tryz.f73) (p := 6) (ty := 31) (by kernel_rfl) _ _ (B + 1) 31 _ _ _ rfl (setRow_heap _ _ _ _ _ _ hrv2) Tryz.underlying31 rfl (by kernel_rfl)) rfl ?_
  rw [HFIN.out]
  exact TE.out.done h1 HB.out #[.int .i64 z, .int .u8 9, .int .i64 s, .int .i64 t, .int .i64 x, .int .i64 m, .string ⟨#[]⟩, .slice none 0 0, .int .i64 0, .int .i64 0, .int .i64 0, .int .i64 0, .int .i64 x0, .int .i64 0, .slice none 0 0, .slice none 0 0] pl0 _ _ rfl (Rd.nil _ _ _ _) (RdM.nil' _ _ _ _) rfl rfl
set_option maxHeartbeats 3200000 in
set_option maxRecDepth 8000 in
theorem rrx_calls (f : Fd) (deep : Bool) (lo pr : Nat) (st : RSt) (w : World) (hz : f = bareOf f) (ha : RRd w lo pr st) (h1 : lo ≤ pr) (_hlim : RLim st) (hk : f.k = 0 ∨ 9 < f.k) :
    Calls Tryz.prog 73 #[.pointer (some ⟨pr, 0, none⟩), dval f pl0 0, .bool deep] w fun e w' => RdR w w' lo pr (rdFd f st).2 (rdFd f st).1 e := by
  obtain ⟨z, k, s, t, x, m, path, data, ow, ve, cv, ti, er, cver, ms⟩ := f
  simp only [bareOf, Fd.mk.injEq, Prod.mk.injEq, true_and] at hz
  obtain ⟨rfl, rfl, rfl, rfl, rfl, rfl, rfl, rfl, rfl⟩ := hz
  simp only at hk
  have q1 : ¬ k = 1 := by omega
  have q2 : ¬ k = 2 := by omega
  have q3 : ¬ k = 3 := by omega
  have q4 : ¬ k = 4 := by omega
  have q5 : ¬ k = 5 := by omega
  have q6 : ¬ k = 6 := by omega
  have q7 : ¬ k = 7 := by omega
  have q8 : ¬ k = 8 := by omega
  have q9 : ¬ k = 9 := by omega
  have T0 := Lib.hid (DX.start ha (dcells ⟨z, k, s, t, x, m, [], [], 0, 0, 0, 0, 0, (0, [])⟩ pl0 0) (dcells (bareF 0) pl0 0) rfl h1)
  have HFIN : Hid (rdFd ⟨z, k, s, t, x, m, [], [], 0, 0, 0, 0, 0, (0, [])⟩ st = (⟨z, k, s, t, x, m, [], [], 0, 0, 0, 0, 0, (0, [])⟩, st)) := by show _ = _; simp [rdFd, q1, q2, q3, q4, q5, q7, q9]
  have HPB := Lib.hid ha.lt
  simp only [dval, dcells, pl0, bareF] at *
  clear ha _hlim 
  go_enter Tryz.func73, Tryz.ntmps73
  obtain ⟨B, hB⟩ : ∃ B, w.heap.size = B := ⟨_, rfl⟩
  have HB := Lib.hid hB
  rw [hB] at T0 HPB
  go_wp2_with (first | (rw [hB]; refine wpList_load_row rfl 31 _ rfl B rfl _ _ _ _ T0.out.bx Tryz.underlying31 rfl size16 ?_) | (with_reducible refine held_store (ty := 31) ?_) | fail)
  try rw [hB]
  clear hB
  unfold Held
  obtain ⟨ZC, hrv, hzs⟩ := T0.out.rv
  have TE := Lib.hid T0.out
  have hrv2 := hrv
  refine wpList_store_row rfl 31 _ _ rfl (B + 1) #[.int .i64 z, .int .u8 k, .int .i64 s, .int .i64 t, .int .i64 x, .int .i64 m, .string ⟨#[]⟩, .slice none 0 0, .int .i64 0, .int .i64 0, .int .i64 0, .int .i64 0, .int .i64 0, .int .i64 0, .slice none 0 0, .slice none 0 0] ?_ ?_ _ _ hrv size16 hzs (by simp [Value.oneCell']) ?_
  · rfl
  · rfl
  go_wp2
  refine bodyPost_ret (v := .agg #[.int .i64 z, .int .u8 k, .int .i64 s, .int .i64 t, .int .i64 x, .int .i64 m, .string ⟨#[]⟩, .slice none 0 0, .int .i64 0, .int .i64 0, .int .i64 0, .int .i64 0, .int .i64 0, .int .i64 0, .slice none 0 0, .slice none 0 0]) (results_cell_row (fn := Tryz.f73) (p := 6) (ty := 31) (by kernel_rfl) _ _ (B + 1) 31 _ _ _ rfl (setRow_heap _ _ _ _ _ _ hrv2) Tryz.underlying31 rfl (by kernel_rfl)) rfl ?_
  rw [HFIN.out]
  exact TE.out.done h1 HB.out #[.int .i64 z, .int .u8 k, .int .i64 s, .int .i64 t, .int .i64 x, .int .i64 m, .string ⟨#[]⟩, .slice none 0 0, .int .i64 0, .int .i64 0, .int .i64 0, .int .i64 0, .int .i64 0, .int .i64 0, .slice none 0 0, .slice none 0 0] pl0 _ _ rfl (Rd.nil _ _ _ _) (RdM.nil' _ _ _ _) rfl rfl
end Go.Proofs.YtmlmbahimklfiaaGreatDoor
