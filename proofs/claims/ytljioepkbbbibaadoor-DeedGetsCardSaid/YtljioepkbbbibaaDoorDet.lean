/-
  Det: Der, Des, Det.
-/
import Derived.Test.YtljioepkbbbibaaDoorDei
import Derived.Deep.RegionHeld3
import Derived.Deep.AppendLies
/- Der -/
namespace Go.Proofs.YtljioepkbbbibaaDoor
open Go.RowKit

theorem rBytes_lim {st : RSt} {m : Int} (h : RLim st) : RLim (rBytes st m).2 := by
  unfold rBytes
  exact (tk_lim (rCount_lim h)).1
theorem own_by {M : Nat → Prop} {w w' : World} {base e size n : Nat} {v : Value} {xs : List Value} (h : w.ownsRow base e size v n xs) (hf : Fr M w w') (hm : ∀ g, v.ownBlock = some g → ¬ M g) : w'.ownsRow base e size v n xs :=
  own_keep h fun g hg => hf.block g (h.lt g hg).2 (hm g hg)
def ReadB (pr b : Nat) : Nat → Prop := fun k => k = pr ∨ k = b
/-- A reader, a deed's box behind it. -/
structure DR (w0 w : World) (lo pr b : Nat) (st : RSt) (cs : Array Value) : Prop where
  a : Rdr w lo pr st
  fr : Fr (ReadB pr b) w0 w
  bx : w.heap[b]? = some (.cells cs 31 (0, 0))
  lo1 : lo ≤ pr
  lo2 : pr < b
theorem DR.read {w0 w w1 : World} {lo pr b : Nat} {st st1 : RSt} {cs : Array Value} (h : DR w0 w lo pr b st cs) (a : Rdr w1 lo pr st1) (f : Fr (OneB pr) w w1) : DR w0 w1 lo pr b st1 cs :=
  ⟨a, h.fr.trans f (fun k _ hx => .inl hx), f.at_ h.bx (by have := h.lo2; simp only [OneB]; omega), h.lo1, h.lo2⟩
theorem DR.keep {w0 w w1 : World} {lo pr b : Nat} {st : RSt} {cs : Array Value} (h : DR w0 w lo pr b st cs) (f : Fr NoB w w1) : DR w0 w1 lo pr b st cs :=
  ⟨h.a.fr f (fun _ _ _ x => x) h.lo1, h.fr.trans f (fun _ _ x => x.elim), f.at_ h.bx (fun x => x), h.lo1, h.lo2⟩
theorem DR.set {w0 w : World} {lo pr b : Nat} {st : RSt} {cs : Array Value} (h : DR w0 w lo pr b st cs) (i : Nat) (u : Value) : DR w0 (w.setCell ⟨b, i, none⟩ u) lo pr b st (cs.setIfInBounds i u) := by
  have f : Fr (OneB b) w (w.setCell ⟨b, i, none⟩ u) := (Fr.refl (OneB b) w).setCell (p := ⟨b, i, none⟩) (fun _ => rfl) u
  exact ⟨h.a.fr f (fun k _ hk hx => by have := h.lo2; simp only [OneB] at hx; omega) h.lo1, h.fr.trans f (fun k _ hx => .inr hx), by rw [heap_set h.bx], h.lo1, h.lo2⟩
theorem DR.cell {w0 w : World} {lo pr b : Nat} {st : RSt} {cs : Array Value} (h : DR w0 w lo pr b st cs) (i : Nat) (v : Value) (hv : cs[i]? = some v) : w.cell? ⟨b, i, none⟩ = some v ∧ w.frozen? ⟨b, i, none⟩ = false := ⟨(cells_of h.bx i).1.trans hv, (cells_of h.bx i).2⟩
theorem DR.start {w : World} {lo pr b : Nat} {st : RSt} {cs : Array Value} (a : Rdr w lo pr st) (bx : w.heap[b]? = some (.cells cs 31 (0, 0))) (h1 : lo ≤ pr) (h2 : pr < b) : DR w w lo pr b st cs := ⟨a, Fr.refl _ _, bx, h1, h2⟩
/-- No lists. -/
def pl0 : Pl := ⟨none, 0, none, 0, none, 0⟩
/-- A deed that was read: its box, its lists. -/
structure Got (w0 w : World) (lo pr b : Nat) (st : RSt) (f : Fd) (pl : Pl) : Prop where
  r : DR w0 w lo pr b st (dcells f pl 0)
  d : w.ownsRow w0.heap.size 5 1 (.slice pl.A f.data.length pl.c) f.data.length (bv f.data)
  m : RdM w w0.heap.size w.heap.size pl.B f.c.2
  p : pl.P = none ∧ pl.e = 0
theorem own_nil0 (w : World) (B : Nat) : w.ownsRow B 5 1 (.slice none 0 0) 0 (bv []) := World.ownsRow_nil _ _ _ _
theorem RdM.nil' (w : World) (lo hi : Nat) (A : Option Addr) : RdM w lo hi A [] := fun h => absurd h (by simp)
set_option maxHeartbeats 3200000 in
set_option maxRecDepth 8000 in
theorem rd1_calls (f : Fd) (deep : Bool) (lo pr b : Nat) (st : RSt) (w : World) (hz : f = bareOf f) (ha : Rdr w lo pr st) (h1 : lo ≤ pr) (h2 : pr < b) (hbx : w.heap[b]? = some (.cells (dcells f pl0 0) 31 (0, 0))) (hlim : RLim st) (hH : Has w) (hk : f.k = 1) :
    Calls Tryd.prog 39 #[.pointer (some ⟨pr, 0, none⟩), .pointer (some ⟨b, 0, none⟩), .bool deep] w fun e w' => e = .returned (.tuple #[]) ∧ ∃ pl, Got w w' lo pr b (rdFd f st).2 (rdFd f st).1 pl := by
  obtain ⟨z, k, s, t, x, m, path, data, ow, ve, cv, ti, er, cver, ms⟩ := f
  simp only [bareOf, Fd.mk.injEq, Prod.mk.injEq, true_and] at hz
  obtain ⟨rfl, rfl, rfl, rfl, rfl, rfl, rfl, rfl, rfl⟩ := hz
  simp only at hk
  subst hk
  have hcell : w.cell? ⟨0, 1, none⟩ = some (.int .i64 23) := hH.2 1 (by decide)
  have b1 : bits .and .i64 23 1 = 1 := by decide
  have b2 : bits .and .i64 23 2 = 2 := by decide
  have b4 : bits .and .i64 23 4 = 4 := by decide
  have b8 : bits .and .i64 23 8 = 0 := by decide
  have b16 : bits .and .i64 23 16 = 16 := by decide
  have b32 : bits .and .i64 23 32 = 0 := by decide
  have b64 : bits .and .i64 23 64 = 0 := by decide
  have b128 : bits .and .i64 23 128 = 0 := by decide
  have b256 : bits .and .i64 23 256 = 0 := by decide
  have T0 := Lib.hid (DR.start ha hbx h1 h2)
  have d1 := T0.out.cell 1 _ rfl
  obtain ⟨d1, -⟩ := d1
  have HLIM := Lib.hid hlim
  obtain ⟨x0, s1, g0⟩ : ∃ x t, rBytes st 200 = (x, t) := ⟨_, _, rfl⟩
  have hc0 := fun W (r : Rdr W lo pr st) => rText_calls lo pr st 200 W r
  rw [g0] at hc0
  have hlim1 : RLim s1 := by have := rBytes_lim (m := 200) hlim; rw [g0] at this; exact this
  obtain ⟨x1, s2, g1⟩ : ∃ x t, rBytes s1 1000 = (x, t) := ⟨_, _, rfl⟩
  have hc1 := fun W (r : Rdr W lo pr s1) => rBytes_calls lo pr s1 1000 W r h1 hlim1
  rw [g1] at hc1
  obtain ⟨x2, s3, g2⟩ : ∃ x t, rInt s2 = (x, t) := ⟨_, _, rfl⟩
  have hc2 := fun W (r : Rdr W lo pr s2) => rInt_calls lo pr s2 W r
  rw [g2] at hc2
  obtain ⟨x3, s4, g3⟩ : ∃ x t, rInt s3 = (x, t) := ⟨_, _, rfl⟩
  have hc3 := fun W (r : Rdr W lo pr s3) => rInt_calls lo pr s3 W r
  rw [g3] at hc3
  have HFIN : Hid (rdFd ⟨z, 1, s, t, x, m, [], [], 0, 0, 0, 0, 0, (0, [])⟩ st = (⟨z, 1, s, t, x, m, x0, x1, x2, 0, x3, 0, 0, (0, [])⟩, s4)) := by show _ = _; simp [rdFd, g0, g1, g2, g3]
  have HC0 := Lib.hid hc0
  have HC1 := Lib.hid hc1
  have HC2 := Lib.hid hc2
  have HC3 := Lib.hid hc3
  simp only [dcells, pl0] at *
  clear ha hbx hlim hH hc0 hc1 hc2 hc3 g0 g1 g2 g3 hlim1
  go_enter Tryd.func39, Tryd.ntmps39
  go_wp2_with (fail)
  refine (HC0.out _ T0.out.a).mono ?_
  rintro e v0 ⟨rfl, a0, f0, -⟩
  have U0 := Lib.hid (T0.out.read a0 f0)
  clear a0 f0 T0
  have y := (cells_of U0.out.bx 6).1
  have n := (cells_of U0.out.bx 6).2
  simp only [List.getElem?_toArray, List.getElem?_cons_zero, List.getElem?_cons_succ] at y
  have T1 := Lib.hid (U0.out.set 6 (.string ⟨x0.toArray⟩))
  simp only [List.setIfInBounds_toArray, List.set_cons_zero, List.set_cons_succ] at T1
  go_wp2_with (fail)
  clear y n
  generalize v0.setCell ⟨b, 6, none⟩ (.string ⟨x0.toArray⟩) = t0 at *
  refine (HC1.out _ T1.out.a).mono ?_
  rintro e v1 ⟨y1, rfl, o1, a1, f1⟩
  obtain ⟨DA, dc, rfl, -, -⟩ := own_form o1
  have HO := Lib.hid (own_low o1 T1.out.fr.size)
  have U1 := Lib.hid (T1.out.read a1 f1)
  have HDB := Lib.hid (fun g (hg : (Value.slice DA x1.length dc).ownBlock = some g) => Nat.ne_of_gt (Nat.lt_of_lt_of_le (Lib.lt_of_heap T1.out.bx) (o1.lt g hg).1))
  have HDP := Lib.hid (fun g (hg : (Value.slice DA x1.length dc).ownBlock = some g) => Nat.ne_of_gt (Nat.lt_of_lt_of_le (Nat.lt_trans h2 (Lib.lt_of_heap T1.out.bx)) (o1.lt g hg).1))
  clear a1 f1 o1 T1
  have y := (cells_of U1.out.bx 7).1
  have n := (cells_of U1.out.bx 7).2
  simp only [List.getElem?_toArray, List.getElem?_cons_zero, List.getElem?_cons_succ] at y
  have T2 := Lib.hid (U1.out.set 7 (.slice DA x1.length dc))
  simp only [List.setIfInBounds_toArray, List.set_cons_zero, List.set_cons_succ] at T2
  have HOs1 := Lib.hid (own_by HO.out ((Fr.refl (OneB b) v1).setCell (p := ⟨b, 7, none⟩) (fun _ => rfl) (.slice DA x1.length dc)) (fun g hg hx => HDB.out g hg hx))
  clear HO
  go_wp2_with (fail)
  clear y n
  generalize v1.setCell ⟨b, 7, none⟩ (.slice DA x1.length dc) = t1 at *
  refine (HC2.out _ T2.out.a).mono ?_
  rintro e v2 ⟨rfl, a2, f2, -⟩
  have U2 := Lib.hid (T2.out.read a2 f2)
  have HO2 := Lib.hid (own_by HOs1.out f2 (fun g hg hx => HDP.out g hg hx))
  clear HOs1
  clear a2 f2 T2
  have y := (cells_of U2.out.bx 8).1
  have n := (cells_of U2.out.bx 8).2
  simp only [List.getElem?_toArray, List.getElem?_cons_zero, List.getElem?_cons_succ] at y
  have T3 := Lib.hid (U2.out.set 8 (.int .i64 x2))
  simp only [List.setIfInBounds_toArray, List.set_cons_zero, List.set_cons_succ] at T3
  have HOs2 := Lib.hid (own_by HO2.out ((Fr.refl (OneB b) v2).setCell (p := ⟨b, 8, none⟩) (fun _ => rfl) (.int .i64 x2)) (fun g hg hx => HDB.out g hg hx))
  clear HO2
  go_wp2_with (fail)
  clear y n
  generalize v2.setCell ⟨b, 8, none⟩ (.int .i64 x2) = t2 at *
  refine (HC3.out _ T3.out.a).mono ?_
  rintro e v3 ⟨rfl, a3, f3, -⟩
  have U3 := Lib.hid (T3.out.read a3 f3)
  have HO3 := Lib.hid (own_by HOs2.out f3 (fun g hg hx => HDP.out g hg hx))
  clear HOs2
  clear a3 f3 T3
  have y := (cells_of U3.out.bx 10).1
  have n := (cells_of U3.out.bx 10).2
  simp only [List.getElem?_toArray, List.getElem?_cons_zero, List.getElem?_cons_succ] at y
  have T4 := Lib.hid (U3.out.set 10 (.int .i64 x3))
  simp only [List.setIfInBounds_toArray, List.set_cons_zero, List.set_cons_succ] at T4
  have HOs3 := Lib.hid (own_by HO3.out ((Fr.refl (OneB b) v3).setCell (p := ⟨b, 10, none⟩) (fun _ => rfl) (.int .i64 x3)) (fun g hg hx => HDB.out g hg hx))
  clear HO3
  go_wp2_with (fail)
  clear y n
  go_end0
  refine ⟨rfl, ?_⟩
  rw [HFIN.out]
  exact ⟨⟨DA, dc, none, 0, none, 0⟩, T4.out, HOs3.out, RdM.nil' _ _ _ _, rfl, rfl⟩
set_option maxHeartbeats 3200000 in
set_option maxRecDepth 8000 in
theorem rd2_calls (f : Fd) (deep : Bool) (lo pr b : Nat) (st : RSt) (w : World) (hz : f = bareOf f) (ha : Rdr w lo pr st) (h1 : lo ≤ pr) (h2 : pr < b) (hbx : w.heap[b]? = some (.cells (dcells f pl0 0) 31 (0, 0))) (hlim : RLim st) (hH : Has w) (hk : f.k = 2) :
    Calls Tryd.prog 39 #[.pointer (some ⟨pr, 0, none⟩), .pointer (some ⟨b, 0, none⟩), .bool deep] w fun e w' => e = .returned (.tuple #[]) ∧ ∃ pl, Got w w' lo pr b (rdFd f st).2 (rdFd f st).1 pl := by
  obtain ⟨z, k, s, t, x, m, path, data, ow, ve, cv, ti, er, cver, ms⟩ := f
  simp only [bareOf, Fd.mk.injEq, Prod.mk.injEq, true_and] at hz
  obtain ⟨rfl, rfl, rfl, rfl, rfl, rfl, rfl, rfl, rfl⟩ := hz
  simp only at hk
  subst hk
  have hcell : w.cell? ⟨0, 2, none⟩ = some (.int .i64 17) := hH.2 2 (by decide)
  have b1 : bits .and .i64 17 1 = 1 := by decide
  have b2 : bits .and .i64 17 2 = 0 := by decide
  have b4 : bits .and .i64 17 4 = 0 := by decide
  have b8 : bits .and .i64 17 8 = 0 := by decide
  have b16 : bits .and .i64 17 16 = 16 := by decide
  have b32 : bits .and .i64 17 32 = 0 := by decide
  have b64 : bits .and .i64 17 64 = 0 := by decide
  have b128 : bits .and .i64 17 128 = 0 := by decide
  have b256 : bits .and .i64 17 256 = 0 := by decide
  have T0 := Lib.hid (DR.start ha hbx h1 h2)
  have d1 := T0.out.cell 1 _ rfl
  obtain ⟨d1, -⟩ := d1
  have HLIM := Lib.hid hlim
  obtain ⟨x0, s1, g0⟩ : ∃ x t, rBytes st 200 = (x, t) := ⟨_, _, rfl⟩
  have hc0 := fun W (r : Rdr W lo pr st) => rText_calls lo pr st 200 W r
  rw [g0] at hc0
  have hlim1 : RLim s1 := by have := rBytes_lim (m := 200) hlim; rw [g0] at this; exact this
  obtain ⟨x1, s2, g1⟩ : ∃ x t, rInt s1 = (x, t) := ⟨_, _, rfl⟩
  have hc1 := fun W (r : Rdr W lo pr s1) => rInt_calls lo pr s1 W r
  rw [g1] at hc1
  have HFIN : Hid (rdFd ⟨z, 2, s, t, x, m, [], [], 0, 0, 0, 0, 0, (0, [])⟩ st = (⟨z, 2, s, t, x, m, x0, [], 0, 0, x1, 0, 0, (0, [])⟩, s2)) := by show _ = _; simp [rdFd, g0, g1]
  have HC0 := Lib.hid hc0
  have HC1 := Lib.hid hc1
  simp only [dcells, pl0] at *
  clear ha hbx hlim hH hc0 hc1 g0 g1 hlim1
  go_enter Tryd.func39, Tryd.ntmps39
  go_wp2_with (fail)
  refine (HC0.out _ T0.out.a).mono ?_
  rintro e v0 ⟨rfl, a0, f0, -⟩
  have U0 := Lib.hid (T0.out.read a0 f0)
  clear a0 f0 T0
  have y := (cells_of U0.out.bx 6).1
  have n := (cells_of U0.out.bx 6).2
  simp only [List.getElem?_toArray, List.getElem?_cons_zero, List.getElem?_cons_succ] at y
  have T1 := Lib.hid (U0.out.set 6 (.string ⟨x0.toArray⟩))
  simp only [List.setIfInBounds_toArray, List.set_cons_zero, List.set_cons_succ] at T1
  go_wp2_with (fail)
  clear y n
  generalize v0.setCell ⟨b, 6, none⟩ (.string ⟨x0.toArray⟩) = t0 at *
  refine (HC1.out _ T1.out.a).mono ?_
  rintro e v1 ⟨rfl, a1, f1, -⟩
  have U1 := Lib.hid (T1.out.read a1 f1)
  clear a1 f1 T1
  have y := (cells_of U1.out.bx 10).1
  have n := (cells_of U1.out.bx 10).2
  simp only [List.getElem?_toArray, List.getElem?_cons_zero, List.getElem?_cons_succ] at y
  have T2 := Lib.hid (U1.out.set 10 (.int .i64 x1))
  simp only [List.setIfInBounds_toArray, List.set_cons_zero, List.set_cons_succ] at T2
  go_wp2_with (fail)
  clear y n
  go_end0
  refine ⟨rfl, ?_⟩
  rw [HFIN.out]
  exact ⟨pl0, T2.out, own_nil0 _ _, RdM.nil' _ _ _ _, rfl, rfl⟩
set_option maxHeartbeats 3200000 in
set_option maxRecDepth 8000 in
theorem rd3_calls (f : Fd) (deep : Bool) (lo pr b : Nat) (st : RSt) (w : World) (hz : f = bareOf f) (ha : Rdr w lo pr st) (h1 : lo ≤ pr) (h2 : pr < b) (hbx : w.heap[b]? = some (.cells (dcells f pl0 0) 31 (0, 0))) (hlim : RLim st) (hH : Has w) (hk : f.k = 3) :
    Calls Tryd.prog 39 #[.pointer (some ⟨pr, 0, none⟩), .pointer (some ⟨b, 0, none⟩), .bool deep] w fun e w' => e = .returned (.tuple #[]) ∧ ∃ pl, Got w w' lo pr b (rdFd f st).2 (rdFd f st).1 pl := by
  obtain ⟨z, k, s, t, x, m, path, data, ow, ve, cv, ti, er, cver, ms⟩ := f
  simp only [bareOf, Fd.mk.injEq, Prod.mk.injEq, true_and] at hz
  obtain ⟨rfl, rfl, rfl, rfl, rfl, rfl, rfl, rfl, rfl⟩ := hz
  simp only at hk
  subst hk
  have hcell : w.cell? ⟨0, 3, none⟩ = some (.int .i64 11) := hH.2 3 (by decide)
  have b1 : bits .and .i64 11 1 = 1 := by decide
  have b2 : bits .and .i64 11 2 = 2 := by decide
  have b4 : bits .and .i64 11 4 = 0 := by decide
  have b8 : bits .and .i64 11 8 = 8 := by decide
  have b16 : bits .and .i64 11 16 = 0 := by decide
  have b32 : bits .and .i64 11 32 = 0 := by decide
  have b64 : bits .and .i64 11 64 = 0 := by decide
  have b128 : bits .and .i64 11 128 = 0 := by decide
  have b256 : bits .and .i64 11 256 = 0 := by decide
  have T0 := Lib.hid (DR.start ha hbx h1 h2)
  have d1 := T0.out.cell 1 _ rfl
  obtain ⟨d1, -⟩ := d1
  have HLIM := Lib.hid hlim
  obtain ⟨x0, s1, g0⟩ : ∃ x t, rBytes st 200 = (x, t) := ⟨_, _, rfl⟩
  have hc0 := fun W (r : Rdr W lo pr st) => rText_calls lo pr st 200 W r
  rw [g0] at hc0
  have hlim1 : RLim s1 := by have := rBytes_lim (m := 200) hlim; rw [g0] at this; exact this
  obtain ⟨x1, s2, g1⟩ : ∃ x t, rBytes s1 1000 = (x, t) := ⟨_, _, rfl⟩
  have hc1 := fun W (r : Rdr W lo pr s1) => rBytes_calls lo pr s1 1000 W r h1 hlim1
  rw [g1] at hc1
  obtain ⟨x2, s3, g2⟩ : ∃ x t, rInt s2 = (x, t) := ⟨_, _, rfl⟩
  have hc2 := fun W (r : Rdr W lo pr s2) => rInt_calls lo pr s2 W r
  rw [g2] at hc2
  have HFIN : Hid (rdFd ⟨z, 3, s, t, x, m, [], [], 0, 0, 0, 0, 0, (0, [])⟩ st = (⟨z, 3, s, t, x, m, x0, x1, 0, x2, 0, 0, 0, (0, [])⟩, s3)) := by show _ = _; simp [rdFd, g0, g1, g2]
  have HC0 := Lib.hid hc0
  have HC1 := Lib.hid hc1
  have HC2 := Lib.hid hc2
  simp only [dcells, pl0] at *
  clear ha hbx hlim hH hc0 hc1 hc2 g0 g1 g2 hlim1
  go_enter Tryd.func39, Tryd.ntmps39
  go_wp2_with (fail)
  refine (HC0.out _ T0.out.a).mono ?_
  rintro e v0 ⟨rfl, a0, f0, -⟩
  have U0 := Lib.hid (T0.out.read a0 f0)
  clear a0 f0 T0
  have y := (cells_of U0.out.bx 6).1
  have n := (cells_of U0.out.bx 6).2
  simp only [List.getElem?_toArray, List.getElem?_cons_zero, List.getElem?_cons_succ] at y
  have T1 := Lib.hid (U0.out.set 6 (.string ⟨x0.toArray⟩))
  simp only [List.setIfInBounds_toArray, List.set_cons_zero, List.set_cons_succ] at T1
  go_wp2_with (fail)
  clear y n
  generalize v0.setCell ⟨b, 6, none⟩ (.string ⟨x0.toArray⟩) = t0 at *
  refine (HC1.out _ T1.out.a).mono ?_
  rintro e v1 ⟨y1, rfl, o1, a1, f1⟩
  obtain ⟨DA, dc, rfl, -, -⟩ := own_form o1
  have HO := Lib.hid (own_low o1 T1.out.fr.size)
  have U1 := Lib.hid (T1.out.read a1 f1)
  have HDB := Lib.hid (fun g (hg : (Value.slice DA x1.length dc).ownBlock = some g) => Nat.ne_of_gt (Nat.lt_of_lt_of_le (Lib.lt_of_heap T1.out.bx) (o1.lt g hg).1))
  have HDP := Lib.hid (fun g (hg : (Value.slice DA x1.length dc).ownBlock = some g) => Nat.ne_of_gt (Nat.lt_of_lt_of_le (Nat.lt_trans h2 (Lib.lt_of_heap T1.out.bx)) (o1.lt g hg).1))
  clear a1 f1 o1 T1
  have y := (cells_of U1.out.bx 7).1
  have n := (cells_of U1.out.bx 7).2
  simp only [List.getElem?_toArray, List.getElem?_cons_zero, List.getElem?_cons_succ] at y
  have T2 := Lib.hid (U1.out.set 7 (.slice DA x1.length dc))
  simp only [List.setIfInBounds_toArray, List.set_cons_zero, List.set_cons_succ] at T2
  have HOs1 := Lib.hid (own_by HO.out ((Fr.refl (OneB b) v1).setCell (p := ⟨b, 7, none⟩) (fun _ => rfl) (.slice DA x1.length dc)) (fun g hg hx => HDB.out g hg hx))
  clear HO
  go_wp2_with (fail)
  clear y n
  generalize v1.setCell ⟨b, 7, none⟩ (.slice DA x1.length dc) = t1 at *
  refine (HC2.out _ T2.out.a).mono ?_
  rintro e v2 ⟨rfl, a2, f2, -⟩
  have U2 := Lib.hid (T2.out.read a2 f2)
  have HO2 := Lib.hid (own_by HOs1.out f2 (fun g hg hx => HDP.out g hg hx))
  clear HOs1
  clear a2 f2 T2
  have y := (cells_of U2.out.bx 9).1
  have n := (cells_of U2.out.bx 9).2
  simp only [List.getElem?_toArray, List.getElem?_cons_zero, List.getElem?_cons_succ] at y
  have T3 := Lib.hid (U2.out.set 9 (.int .i64 x2))
  simp only [List.setIfInBounds_toArray, List.set_cons_zero, List.set_cons_succ] at T3
  have HOs2 := Lib.hid (own_by HO2.out ((Fr.refl (OneB b) v2).setCell (p := ⟨b, 9, none⟩) (fun _ => rfl) (.int .i64 x2)) (fun g hg hx => HDB.out g hg hx))
  clear HO2
  go_wp2_with (fail)
  clear y n
  go_end0
  refine ⟨rfl, ?_⟩
  rw [HFIN.out]
  exact ⟨⟨DA, dc, none, 0, none, 0⟩, T3.out, HOs2.out, RdM.nil' _ _ _ _, rfl, rfl⟩
set_option maxHeartbeats 3200000 in
set_option maxRecDepth 8000 in
theorem rd4_calls (f : Fd) (deep : Bool) (lo pr b : Nat) (st : RSt) (w : World) (hz : f = bareOf f) (ha : Rdr w lo pr st) (h1 : lo ≤ pr) (h2 : pr < b) (hbx : w.heap[b]? = some (.cells (dcells f pl0 0) 31 (0, 0))) (hlim : RLim st) (hH : Has w) (hk : f.k = 4) :
    Calls Tryd.prog 39 #[.pointer (some ⟨pr, 0, none⟩), .pointer (some ⟨b, 0, none⟩), .bool deep] w fun e w' => e = .returned (.tuple #[]) ∧ ∃ pl, Got w w' lo pr b (rdFd f st).2 (rdFd f st).1 pl := by
  obtain ⟨z, k, s, t, x, m, path, data, ow, ve, cv, ti, er, cver, ms⟩ := f
  simp only [bareOf, Fd.mk.injEq, Prod.mk.injEq, true_and] at hz
  obtain ⟨rfl, rfl, rfl, rfl, rfl, rfl, rfl, rfl, rfl⟩ := hz
  simp only at hk
  subst hk
  have hcell : w.cell? ⟨0, 4, none⟩ = some (.int .i64 32) := hH.2 4 (by decide)
  have b1 : bits .and .i64 32 1 = 0 := by decide
  have b2 : bits .and .i64 32 2 = 0 := by decide
  have b4 : bits .and .i64 32 4 = 0 := by decide
  have b8 : bits .and .i64 32 8 = 0 := by decide
  have b16 : bits .and .i64 32 16 = 0 := by decide
  have b32 : bits .and .i64 32 32 = 32 := by decide
  have b64 : bits .and .i64 32 64 = 0 := by decide
  have b128 : bits .and .i64 32 128 = 0 := by decide
  have b256 : bits .and .i64 32 256 = 0 := by decide
  have T0 := Lib.hid (DR.start ha hbx h1 h2)
  have d1 := T0.out.cell 1 _ rfl
  obtain ⟨d1, -⟩ := d1
  have HLIM := Lib.hid hlim
  obtain ⟨x0, s1, g0⟩ : ∃ x t, rInt st = (x, t) := ⟨_, _, rfl⟩
  have hc0 := fun W (r : Rdr W lo pr st) => rInt_calls lo pr st W r
  rw [g0] at hc0
  have HFIN : Hid (rdFd ⟨z, 4, s, t, x, m, [], [], 0, 0, 0, 0, 0, (0, [])⟩ st = (⟨z, 4, s, t, x, m, [], [], 0, 0, 0, x0, 0, (0, [])⟩, s1)) := by show _ = _; simp [rdFd, g0]
  have HC0 := Lib.hid hc0
  simp only [dcells, pl0] at *
  clear ha hbx hlim hH hc0 g0
  go_enter Tryd.func39, Tryd.ntmps39
  go_wp2_with (fail)
  refine (HC0.out _ T0.out.a).mono ?_
  rintro e v0 ⟨rfl, a0, f0, -⟩
  have U0 := Lib.hid (T0.out.read a0 f0)
  clear a0 f0 T0
  have y := (cells_of U0.out.bx 11).1
  have n := (cells_of U0.out.bx 11).2
  simp only [List.getElem?_toArray, List.getElem?_cons_zero, List.getElem?_cons_succ] at y
  have T1 := Lib.hid (U0.out.set 11 (.int .i64 x0))
  simp only [List.setIfInBounds_toArray, List.set_cons_zero, List.set_cons_succ] at T1
  go_wp2_with (fail)
  clear y n
  go_end0
  refine ⟨rfl, ?_⟩
  rw [HFIN.out]
  exact ⟨pl0, T1.out, own_nil0 _ _, RdM.nil' _ _ _ _, rfl, rfl⟩
set_option maxHeartbeats 3200000 in
set_option maxRecDepth 8000 in
theorem rd5_calls (f : Fd) (deep : Bool) (lo pr b : Nat) (st : RSt) (w : World) (hz : f = bareOf f) (ha : Rdr w lo pr st) (h1 : lo ≤ pr) (h2 : pr < b) (hbx : w.heap[b]? = some (.cells (dcells f pl0 0) 31 (0, 0))) (hlim : RLim st) (hH : Has w) (hdp : deep = false) (hk : f.k = 5) :
    Calls Tryd.prog 39 #[.pointer (some ⟨pr, 0, none⟩), .pointer (some ⟨b, 0, none⟩), .bool deep] w fun e w' => e = .returned (.tuple #[]) ∧ ∃ pl, Got w w' lo pr b (rdFd f st).2 (rdFd f st).1 pl := by
  obtain ⟨z, k, s, t, x, m, path, data, ow, ve, cv, ti, er, cver, ms⟩ := f
  simp only [bareOf, Fd.mk.injEq, Prod.mk.injEq, true_and] at hz
  obtain ⟨rfl, rfl, rfl, rfl, rfl, rfl, rfl, rfl, rfl⟩ := hz
  simp only at hk
  subst hk
  have hcell : w.cell? ⟨0, 5, none⟩ = some (.int .i64 260) := hH.2 5 (by decide)
  have b1 : bits .and .i64 260 1 = 0 := by decide
  have b2 : bits .and .i64 260 2 = 0 := by decide
  have b4 : bits .and .i64 260 4 = 4 := by decide
  have b8 : bits .and .i64 260 8 = 0 := by decide
  have b16 : bits .and .i64 260 16 = 0 := by decide
  have b32 : bits .and .i64 260 32 = 0 := by decide
  have b64 : bits .and .i64 260 64 = 0 := by decide
  have b128 : bits .and .i64 260 128 = 0 := by decide
  have b256 : bits .and .i64 260 256 = 256 := by decide
  have T0 := Lib.hid (DR.start ha hbx h1 h2)
  have d1 := T0.out.cell 1 _ rfl
  obtain ⟨d1, -⟩ := d1
  have HLIM := Lib.hid hlim
  subst hdp
  obtain ⟨x0, s1, g0⟩ : ∃ x t, rInt st = (x, t) := ⟨_, _, rfl⟩
  have hc0 := fun W (r : Rdr W lo pr st) => rInt_calls lo pr st W r
  rw [g0] at hc0
  have HFIN : Hid (rdFd ⟨z, 5, s, t, x, m, [], [], 0, 0, 0, 0, 0, (0, [])⟩ st = (⟨z, 5, s, t, x, m, [], [], x0, 0, 0, 0, 0, (0, [])⟩, s1)) := by show _ = _; simp [rdFd, g0]
  have HC0 := Lib.hid hc0
  simp only [dcells, pl0] at *
  clear ha hbx hlim hH hc0 g0
  go_enter Tryd.func39, Tryd.ntmps39
  go_wp2_with (fail)
  refine (HC0.out _ T0.out.a).mono ?_
  rintro e v0 ⟨rfl, a0, f0, -⟩
  have U0 := Lib.hid (T0.out.read a0 f0)
  clear a0 f0 T0
  have y := (cells_of U0.out.bx 8).1
  have n := (cells_of U0.out.bx 8).2
  simp only [List.getElem?_toArray, List.getElem?_cons_zero, List.getElem?_cons_succ] at y
  have T1 := Lib.hid (U0.out.set 8 (.int .i64 x0))
  simp only [List.setIfInBounds_toArray, List.set_cons_zero, List.set_cons_succ] at T1
  go_wp2_with (fail)
  clear y n
  go_end0
  refine ⟨rfl, ?_⟩
  rw [HFIN.out]
  exact ⟨pl0, T1.out, own_nil0 _ _, RdM.nil' _ _ _ _, rfl, rfl⟩
set_option maxHeartbeats 3200000 in
set_option maxRecDepth 8000 in
theorem rd6_calls (f : Fd) (deep : Bool) (lo pr b : Nat) (st : RSt) (w : World) (hz : f = bareOf f) (ha : Rdr w lo pr st) (h1 : lo ≤ pr) (h2 : pr < b) (hbx : w.heap[b]? = some (.cells (dcells f pl0 0) 31 (0, 0))) (hlim : RLim st) (hH : Has w) (hk : f.k = 6) :
    Calls Tryd.prog 39 #[.pointer (some ⟨pr, 0, none⟩), .pointer (some ⟨b, 0, none⟩), .bool deep] w fun e w' => e = .returned (.tuple #[]) ∧ ∃ pl, Got w w' lo pr b (rdFd f st).2 (rdFd f st).1 pl := by
  obtain ⟨z, k, s, t, x, m, path, data, ow, ve, cv, ti, er, cver, ms⟩ := f
  simp only [bareOf, Fd.mk.injEq, Prod.mk.injEq, true_and] at hz
  obtain ⟨rfl, rfl, rfl, rfl, rfl, rfl, rfl, rfl, rfl⟩ := hz
  simp only at hk
  subst hk
  have hcell : w.cell? ⟨0, 6, none⟩ = some (.int .i64 0) := hH.2 6 (by decide)
  have b1 : bits .and .i64 0 1 = 0 := by decide
  have b2 : bits .and .i64 0 2 = 0 := by decide
  have b4 : bits .and .i64 0 4 = 0 := by decide
  have b8 : bits .and .i64 0 8 = 0 := by decide
  have b16 : bits .and .i64 0 16 = 0 := by decide
  have b32 : bits .and .i64 0 32 = 0 := by decide
  have b64 : bits .and .i64 0 64 = 0 := by decide
  have b128 : bits .and .i64 0 128 = 0 := by decide
  have b256 : bits .and .i64 0 256 = 0 := by decide
  have T0 := Lib.hid (DR.start ha hbx h1 h2)
  have d1 := T0.out.cell 1 _ rfl
  obtain ⟨d1, -⟩ := d1
  have HLIM := Lib.hid hlim
  have HFIN : Hid (rdFd ⟨z, 6, s, t, x, m, [], [], 0, 0, 0, 0, 0, (0, [])⟩ st = (⟨z, 6, s, t, x, m, [], [], 0, 0, 0, 0, 0, (0, [])⟩, st)) := by show _ = _; simp [rdFd]
  simp only [dcells, pl0] at *
  clear ha hbx hlim hH 
  go_enter Tryd.func39, Tryd.ntmps39
  go_wp2_with (fail)
  go_end0
  refine ⟨rfl, ?_⟩
  rw [HFIN.out]
  exact ⟨pl0, T0.out, own_nil0 _ _, RdM.nil' _ _ _ _, rfl, rfl⟩
set_option maxHeartbeats 3200000 in
set_option maxRecDepth 8000 in
theorem rd8_calls (f : Fd) (deep : Bool) (lo pr b : Nat) (st : RSt) (w : World) (hz : f = bareOf f) (ha : Rdr w lo pr st) (h1 : lo ≤ pr) (h2 : pr < b) (hbx : w.heap[b]? = some (.cells (dcells f pl0 0) 31 (0, 0))) (hlim : RLim st) (hH : Has w) (hdp : deep = false) (hk : f.k = 8) :
    Calls Tryd.prog 39 #[.pointer (some ⟨pr, 0, none⟩), .pointer (some ⟨b, 0, none⟩), .bool deep] w fun e w' => e = .returned (.tuple #[]) ∧ ∃ pl, Got w w' lo pr b (rdFd f st).2 (rdFd f st).1 pl := by
  obtain ⟨z, k, s, t, x, m, path, data, ow, ve, cv, ti, er, cver, ms⟩ := f
  simp only [bareOf, Fd.mk.injEq, Prod.mk.injEq, true_and] at hz
  obtain ⟨rfl, rfl, rfl, rfl, rfl, rfl, rfl, rfl, rfl⟩ := hz
  simp only at hk
  subst hk
  have hcell : w.cell? ⟨0, 8, none⟩ = some (.int .i64 256) := hH.2 8 (by decide)
  have b1 : bits .and .i64 256 1 = 0 := by decide
  have b2 : bits .and .i64 256 2 = 0 := by decide
  have b4 : bits .and .i64 256 4 = 0 := by decide
  have b8 : bits .and .i64 256 8 = 0 := by decide
  have b16 : bits .and .i64 256 16 = 0 := by decide
  have b32 : bits .and .i64 256 32 = 0 := by decide
  have b64 : bits .and .i64 256 64 = 0 := by decide
  have b128 : bits .and .i64 256 128 = 0 := by decide
  have b256 : bits .and .i64 256 256 = 256 := by decide
  have T0 := Lib.hid (DR.start ha hbx h1 h2)
  have d1 := T0.out.cell 1 _ rfl
  obtain ⟨d1, -⟩ := d1
  have HLIM := Lib.hid hlim
  subst hdp
  have HFIN : Hid (rdFd ⟨z, 8, s, t, x, m, [], [], 0, 0, 0, 0, 0, (0, [])⟩ st = (⟨z, 8, s, t, x, m, [], [], 0, 0, 0, 0, 0, (0, [])⟩, st)) := by show _ = _; simp [rdFd]
  simp only [dcells, pl0] at *
  clear ha hbx hlim hH 
  go_enter Tryd.func39, Tryd.ntmps39
  go_wp2_with (fail)
  go_end0
  refine ⟨rfl, ?_⟩
  rw [HFIN.out]
  exact ⟨pl0, T0.out, own_nil0 _ _, RdM.nil' _ _ _ _, rfl, rfl⟩
set_option maxHeartbeats 3200000 in
set_option maxRecDepth 8000 in
theorem rd9_calls (f : Fd) (deep : Bool) (lo pr b : Nat) (st : RSt) (w : World) (hz : f = bareOf f) (ha : Rdr w lo pr st) (h1 : lo ≤ pr) (h2 : pr < b) (hbx : w.heap[b]? = some (.cells (dcells f pl0 0) 31 (0, 0))) (hlim : RLim st) (hH : Has w) (hk : f.k = 9) :
    Calls Tryd.prog 39 #[.pointer (some ⟨pr, 0, none⟩), .pointer (some ⟨b, 0, none⟩), .bool deep] w fun e w' => e = .returned (.tuple #[]) ∧ ∃ pl, Got w w' lo pr b (rdFd f st).2 (rdFd f st).1 pl := by
  obtain ⟨z, k, s, t, x, m, path, data, ow, ve, cv, ti, er, cver, ms⟩ := f
  simp only [bareOf, Fd.mk.injEq, Prod.mk.injEq, true_and] at hz
  obtain ⟨rfl, rfl, rfl, rfl, rfl, rfl, rfl, rfl, rfl⟩ := hz
  simp only at hk
  subst hk
  have hcell : w.cell? ⟨0, 9, none⟩ = some (.int .i64 64) := hH.2 9 (by decide)
  have b1 : bits .and .i64 64 1 = 0 := by decide
  have b2 : bits .and .i64 64 2 = 0 := by decide
  have b4 : bits .and .i64 64 4 = 0 := by decide
  have b8 : bits .and .i64 64 8 = 0 := by decide
  have b16 : bits .and .i64 64 16 = 0 := by decide
  have b32 : bits .and .i64 64 32 = 0 := by decide
  have b64 : bits .and .i64 64 64 = 64 := by decide
  have b128 : bits .and .i64 64 128 = 0 := by decide
  have b256 : bits .and .i64 64 256 = 0 := by decide
  have T0 := Lib.hid (DR.start ha hbx h1 h2)
  have d1 := T0.out.cell 1 _ rfl
  obtain ⟨d1, -⟩ := d1
  have HLIM := Lib.hid hlim
  obtain ⟨x0, s1, g0⟩ : ∃ x t, rInt st = (x, t) := ⟨_, _, rfl⟩
  have hc0 := fun W (r : Rdr W lo pr st) => rInt_calls lo pr st W r
  rw [g0] at hc0
  have HFIN : Hid (rdFd ⟨z, 9, s, t, x, m, [], [], 0, 0, 0, 0, 0, (0, [])⟩ st = (⟨z, 9, s, t, x, m, [], [], 0, 0, 0, 0, x0, (0, [])⟩, s1)) := by show _ = _; simp [rdFd, g0]
  have HC0 := Lib.hid hc0
  simp only [dcells, pl0] at *
  clear ha hbx hlim hH hc0 g0
  go_enter Tryd.func39, Tryd.ntmps39
  go_wp2_with (fail)
  refine (HC0.out _ T0.out.a).mono ?_
  rintro e v0 ⟨rfl, a0, f0, -⟩
  have U0 := Lib.hid (T0.out.read a0 f0)
  clear a0 f0 T0
  have y := (cells_of U0.out.bx 12).1
  have n := (cells_of U0.out.bx 12).2
  simp only [List.getElem?_toArray, List.getElem?_cons_zero, List.getElem?_cons_succ] at y
  have T1 := Lib.hid (U0.out.set 12 (.int .i64 x0))
  simp only [List.setIfInBounds_toArray, List.set_cons_zero, List.set_cons_succ] at T1
  go_wp2_with (fail)
  clear y n
  go_end0
  refine ⟨rfl, ?_⟩
  rw [HFIN.out]
  exact ⟨pl0, T1.out, own_nil0 _ _, RdM.nil' _ _ _ _, rfl, rfl⟩
end Go.Proofs.YtljioepkbbbibaaDoor

/- Des -/
namespace Go.Proofs.YtljioepkbbbibaaDoor
open Go.RowKit

set_option maxHeartbeats 3200000 in
set_option maxRecDepth 8000 in
theorem rd7_calls (f : Fd) (deep : Bool) (lo pr b : Nat) (st : RSt) (w : World) (hz : f = bareOf f) (ha : Rdr w lo pr st) (h1 : lo ≤ pr) (h2 : pr < b) (hbx : w.heap[b]? = some (.cells (dcells f pl0 0) 31 (0, 0))) (hlim : RLim st) (hH : Has w) (hk : f.k = 7) :
    Calls Tryd.prog 39 #[.pointer (some ⟨pr, 0, none⟩), .pointer (some ⟨b, 0, none⟩), .bool deep] w fun e w' => e = .returned (.tuple #[]) ∧ ∃ pl, Got w w' lo pr b (rdFd f st).2 (rdFd f st).1 pl := by
  obtain ⟨z, k, s, t, x, m, path, data, ow, ve, cv, ti, er, cver, ms⟩ := f
  simp only [bareOf, Fd.mk.injEq, Prod.mk.injEq, true_and] at hz
  obtain ⟨rfl, rfl, rfl, rfl, rfl, rfl, rfl, rfl, rfl⟩ := hz
  simp only at hk
  subst hk
  have hcell : w.cell? ⟨0, 7, none⟩ = some (.int .i64 128) := hH.2 7 (by decide)
  have b1 : bits .and .i64 128 1 = 0 := by decide
  have b2 : bits .and .i64 128 2 = 0 := by decide
  have b4 : bits .and .i64 128 4 = 0 := by decide
  have b8 : bits .and .i64 128 8 = 0 := by decide
  have b16 : bits .and .i64 128 16 = 0 := by decide
  have b32 : bits .and .i64 128 32 = 0 := by decide
  have b64 : bits .and .i64 128 64 = 0 := by decide
  have b128 : bits .and .i64 128 128 = 128 := by decide
  have b256 : bits .and .i64 128 256 = 0 := by decide
  have T0 := Lib.hid (DR.start ha hbx h1 h2)
  have d1 := T0.out.cell 1 _ rfl
  obtain ⟨d1, -⟩ := d1
  obtain ⟨x0, s1, g0⟩ : ∃ x t, rBytes st 1048576 = (x, t) := ⟨_, _, rfl⟩
  have hc0 := fun W (r : Rdr W lo pr st) => rBytes_calls lo pr st 1048576 W r h1 hlim
  rw [g0] at hc0
  have hx0 : x0.length ≤ 140737488355328 := by have h : (rBytes st 1048576).1.length ≤ 1048576 := rBytes_len st 1048576; rw [g0] at h; simp only at h; omega
  have hcg := fun W A c B (hr : Rd W B W.heap.size A x0) => get_any2 A x0 c B W.heap.size W hr (Nat.le_refl _) hx0
  have hml := getV_len x0
  have HFIN : Hid (rdFd ⟨z, 7, s, t, x, m, [], [], 0, 0, 0, 0, 0, (0, [])⟩ st = (⟨z, 7, s, t, x, m, [], [], 0, 0, 0, 0, 0, ((getV x0).1, (getV x0).2.1)⟩, s1)) := by show _ = _; simp [rdFd, g0]
  generalize (getV x0).1 = cver at *
  generalize (getV x0).2.1 = ms at *
  generalize (getV x0).2.2 = er at *
  have HC0 := Lib.hid hc0
  have HCG := Lib.hid hcg
  have HML := Lib.hid hml
  simp only [dcells, pl0] at *
  clear ha hbx hlim hH hc0 hcg g0 hml
  go_enter Tryd.func39, Tryd.ntmps39
  go_wp2_with (fail)
  refine (HC0.out _ T0.out.a).mono ?_
  rintro e v0 ⟨y0, rfl, o0, a0, f0⟩
  obtain ⟨DA, dc, rfl, -, -⟩ := own_form o0
  have HRD := Lib.hid (own_rd o0)
  have U0 := Lib.hid (T0.out.read a0 f0)
  have HS0 := Lib.hid T0.out.fr.size
  have HS1 := Lib.hid f0.size
  clear a0 f0 o0 T0
  go_wp2_with (fail)
  refine (HCG.out _ DA dc _ HRD.out).mono ?_
  rintro e v1 ⟨MA, mc, rfl, rm, f1⟩
  have U1 := Lib.hid (U0.out.keep f1)
  have RM := Lib.hid (rm.wide U0.out.fr.size (Nat.le_refl _))
  have HMB := Lib.hid (Nat.not_le.2 (Lib.lt_of_heap U0.out.bx))
  clear f1 U0 HRD
  have y13 := (cells_of U1.out.bx 13).1
  have n13 := (cells_of U1.out.bx 13).2
  have y14 := (cells_of U1.out.bx 14).1
  have n14 := (cells_of U1.out.bx 14).2
  simp only [List.getElem?_toArray, List.getElem?_cons_zero, List.getElem?_cons_succ] at y13 y14
  have T2 := Lib.hid ((U1.out.set 13 (.int .i64 cver)).set 14 (.slice MA ms.length mc))
  simp only [List.setIfInBounds_toArray, List.set_cons_zero, List.set_cons_succ] at T2
  have RM2 := Lib.hid ((rm.fr ((Fr.refl (OneB b) v1).setCell (p := ⟨b, 13, none⟩) (fun _ => rfl) (.int .i64 cver)) (Nat.le_refl _) (fun k h3 _ hx => by simp only [OneB] at hx; subst hx; exact (HMB.out h3).elim)).fr ((Fr.refl (OneB b) _).setCell (p := ⟨b, 14, none⟩) (fun _ => rfl) (.slice MA ms.length mc)) (by simp [World.setCell]) (fun k h3 _ hx => by simp only [OneB] at hx; subst hx; exact (HMB.out h3).elim))
  clear rm
  go_wp2_with (fail)
  clear y13 n13 y14 n14
  go_end0
  refine ⟨rfl, ?_⟩
  rw [HFIN.out]
  exact ⟨⟨none, 0, MA, mc, none, 0⟩, T2.out, own_nil0 _ _, RM2.out.wide (Nat.le_trans HS0.out HS1.out) (by simp [World.setCell]), rfl, rfl⟩

theorem rdFd_out {f : Fd} {st : RSt} (h : ¬ (1 ≤ f.k ∧ f.k ≤ 9)) : rdFd f st = (f, st) := by
  unfold rdFd
  rw [if_neg (by omega), if_neg (by omega), if_neg (by omega), if_neg (by omega), if_neg (by omega), if_neg (by omega), if_neg (by omega)]
set_option maxHeartbeats 1600000 in
theorem rdx_calls (f : Fd) (deep : Bool) (lo pr b : Nat) (st : RSt) (w : World) (hf : f.Ok) (hz : f = bareOf f) (ha : Rdr w lo pr st) (h1 : lo ≤ pr) (h2 : pr < b) (hbx : w.heap[b]? = some (.cells (dcells f pl0 0) 31 (0, 0))) (hk : ¬ (1 ≤ f.k ∧ f.k ≤ 9)) :
    Calls Tryd.prog 39 #[.pointer (some ⟨pr, 0, none⟩), .pointer (some ⟨b, 0, none⟩), .bool deep] w fun e w' => e = .returned (.tuple #[]) ∧ ∃ pl, Got w w' lo pr b (rdFd f st).2 (rdFd f st).1 pl := by
  rw [rdFd_out hk]
  have T0 := Lib.hid (DR.start ha hbx h1 h2)
  obtain ⟨d1, -⟩ := T0.out.cell 1 _ rfl
  have hk0 := hf.k
  have hdl : f.data.length = 0 := by rw [hz]; rfl
  have hml : f.c.2 = [] := by rw [hz]; rfl
  have hd0 : f.data = [] := List.length_eq_zero_iff.1 hdl
  have HG : Hid (Got w w lo pr b st f pl0) := by
    refine ⟨T0.out, ?_, ?_, rfl, rfl⟩
    · rw [hd0]; exact own_nil0 _ _
    · rw [hml]; exact RdM.nil' _ _ _ _
  clear hf hz ha hbx hdl hml hd0 T0
  obtain ⟨z, k, s, t, x, m, path, data, ow, ve, cv, ti, er, cver, ms⟩ := f
  simp only [dcells] at *
  have hk2 : k < 1 ∨ 9 < k := by omega
  clear hk
  rcases hk2 with hk2 | hk2
  · go_enter Tryd.func39, Tryd.ntmps39
    go_wp2
    all_goals first
      | (go_end0; exact ⟨rfl, pl0, HG.out⟩)
      | (go_ret; exact ⟨rfl, pl0, HG.out⟩)
      | (refine bodyPost_ret (results_none rfl _ _ _) rfl ?_; exact ⟨rfl, pl0, HG.out⟩)
      | (exfalso; omega)
      | trace_state
  · have hk3 : ¬ k < 1 := by omega
    go_enter Tryd.func39, Tryd.ntmps39
    go_wp2
    all_goals first
      | (go_end0; exact ⟨rfl, pl0, HG.out⟩)
      | (go_ret; exact ⟨rfl, pl0, HG.out⟩)
      | (refine bodyPost_ret (results_none rfl _ _ _) rfl ?_; exact ⟨rfl, pl0, HG.out⟩)
      | (exfalso; omega)
      | trace_state
/-- Read of any kind, where no parts are asked. -/
theorem rdFlat_calls (f : Fd) (deep : Bool) (lo pr b : Nat) (st : RSt) (w : World) (hf : f.Ok) (hz : f = bareOf f) (ha : Rdr w lo pr st) (h1 : lo ≤ pr) (h2 : pr < b) (hbx : w.heap[b]? = some (.cells (dcells f pl0 0) 31 (0, 0))) (hlim : RLim st) (hH : Has w) (hdp : f.k = 5 ∨ f.k = 8 → deep = false) :
    Calls Tryd.prog 39 #[.pointer (some ⟨pr, 0, none⟩), .pointer (some ⟨b, 0, none⟩), .bool deep] w fun e w' => e = .returned (.tuple #[]) ∧ ∃ pl, Got w w' lo pr b (rdFd f st).2 (rdFd f st).1 pl := by
  by_cases hk : 1 ≤ f.k ∧ f.k ≤ 9
  · rcases (show f.k = 1 ∨ f.k = 2 ∨ f.k = 3 ∨ f.k = 4 ∨ f.k = 5 ∨ f.k = 6 ∨ f.k = 7 ∨ f.k = 8 ∨ f.k = 9 by omega) with h | h | h | h | h | h | h | h | h
    · exact rd1_calls f deep lo pr b st w hz ha h1 h2 hbx hlim hH h
    · exact rd2_calls f deep lo pr b st w hz ha h1 h2 hbx hlim hH h
    · exact rd3_calls f deep lo pr b st w hz ha h1 h2 hbx hlim hH h
    · exact rd4_calls f deep lo pr b st w hz ha h1 h2 hbx hlim hH h
    · exact rd5_calls f deep lo pr b st w hz ha h1 h2 hbx hlim hH (hdp (.inl h)) h
    · exact rd6_calls f deep lo pr b st w hz ha h1 h2 hbx hlim hH h
    · exact rd7_calls f deep lo pr b st w hz ha h1 h2 hbx hlim hH h
    · exact rd8_calls f deep lo pr b st w hz ha h1 h2 hbx hlim hH (hdp (.inr h)) h
    · exact rd9_calls f deep lo pr b st w hz ha h1 h2 hbx hlim hH h
  · exact rdx_calls f deep lo pr b st w hf hz ha h1 h2 hbx hk
end Go.Proofs.YtljioepkbbbibaaDoor

/- Det -/
namespace Go.Proofs.YtljioepkbbbibaaDoor
open Go.RowKit

/-- The cells of parts, side by side. -/
def pv (l : List (Fd × Pl)) : List Value := l.flatMap fun x => (dcells x.1 x.2 0).toList
@[simp] theorem pv_nil : pv [] = [] := rfl
theorem pv_cons (x : Fd × Pl) (l : List (Fd × Pl)) : pv (x :: l) = (dcells x.1 x.2 0).toList ++ pv l := rfl
theorem pv_append (a b : List (Fd × Pl)) : pv (a ++ b) = pv a ++ pv b := by simp [pv]
theorem pv_one (x : Fd × Pl) : pv [x] = (dcells x.1 x.2 0).toList := by simp [pv]
theorem dcells_one (f : Fd) (p : Pl) (n : Nat) : ∀ v ∈ (dcells f p n).toList, v.oneCell' = true := by
  intro v hv
  simp only [dcells, List.mem_cons, List.not_mem_nil, or_false] at hv
  rcases hv with h | h | h | h | h | h | h | h | h | h | h | h | h | h | h | h <;> subst h <;> rfl
theorem pv_oneCell (l : List (Fd × Pl)) : ∀ v ∈ pv l, v.oneCell' = true := by
  intro v hv
  obtain ⟨x, _, hx⟩ := List.mem_flatMap.1 hv
  exact dcells_one _ _ _ v hx
@[simp] theorem pv_length (l : List (Fd × Pl)) : (pv l).length = l.length * 16 := by
  induction l with
  | nil => rfl
  | cons x l ih => rw [pv_cons, List.length_append, ih]; simp [dcells]; omega
theorem pv_get {l : List (Fd × Pl)} {i : Nat} {x : Fd × Pl} (h : l[i]? = some x) (j : Nat) (v : Value) (hv : (dcells x.1 x.2 0)[j]? = some v) : (pv l)[i * 16 + j]? = some v := by
  induction l generalizing i with
  | nil => simp at h
  | cons y l ih =>
    have hj : j < 16 := by
      have := (Array.getElem?_eq_some_iff.1 hv).1
      simpa [dcells] using this
    rw [pv_cons]
    cases i with
    | zero =>
      simp only [List.getElem?_cons_zero, Option.some.injEq] at h
      subst h
      rw [Nat.zero_mul, Nat.zero_add, List.getElem?_append_left (by simp [dcells]; omega)]
      simpa using hv
    | succ i =>
      rw [List.getElem?_cons_succ] at h
      have h16 : (dcells y.1 y.2 0).toList.length = 16 := by simp [dcells]
      rw [List.getElem?_append_right (by rw [h16]; omega), h16, show (i + 1) * 16 + j - 16 = i * 16 + j by omega]
      exact ih h
/-- A part that was read: where its lists lie, off the row V. -/
structure PartAt (w0 w : World) (V : Value) (x : Fd × Pl) : Prop where
  e : ∃ lo hi, w0.heap.size ≤ lo ∧ hi ≤ w.heap.size ∧ (∀ g, V.ownBlock = some g → ¬ (lo ≤ g ∧ g < hi)) ∧ w.ownsRow lo 5 1 (.slice x.2.A x.1.data.length x.2.c) x.1.data.length (bv x.1.data) ∧ (∀ g, (Value.slice x.2.A x.1.data.length x.2.c).ownBlock = some g → g < hi) ∧ RdM w lo hi x.2.B x.1.c.2 ∧ x.2.P = none ∧ x.2.e = 0
theorem PartAt.keep {w0 w w1 : World} {V V1 : Value} {x : Fd × Pl} {M : Nat → Prop} (h : PartAt w0 w V x) (f : Fr M w w1) (hm : ∀ k, M k → k < w0.heap.size ∨ w.heap.size ≤ k ∨ V.ownBlock = some k) (hv : ∀ g, V1.ownBlock = some g → V.ownBlock = some g ∨ w.heap.size ≤ g) : PartAt w0 w1 V1 x := by
  obtain ⟨lo, hi, h1, h2, h3, h4, h5, h6, h7⟩ := h.e
  have hfar : ∀ k, lo ≤ k → k < hi → ¬ M k := fun k a b c => by
    rcases hm k c with h | h | h
    · omega
    · omega
    · exact h3 k h ⟨a, b⟩
  refine ⟨lo, hi, h1, Nat.le_trans h2 f.size, fun g hg => ?_, own_by h4 f fun g hg => hfar g (h4.lt g hg).1 (h5 g hg), h5, h6.fr f h2 hfar, h7⟩
  rcases hv g hg with h | h
  · exact h3 g h
  · omega
/-- Parts under way: the deed's box, the row of its parts. -/
structure DP (w0 w : World) (lo pr b : Nat) (st : RSt) (f : Fd) (V : Value) (L : List (Fd × Pl)) : Prop where
  r : DR w0 w lo pr b st ((dcells f pl0 0).setIfInBounds 15 V)
  own : w.ownsRow w0.heap.size 31 16 V L.length (pv L)
  parts : ∀ x ∈ L, PartAt w0 w V x
  hb : b < w0.heap.size
theorem DP.read {w0 w w1 : World} {lo pr b : Nat} {st st1 : RSt} {f : Fd} {V : Value} {L : List (Fd × Pl)} (h : DP w0 w lo pr b st f V L) (a : Rdr w1 lo pr st1) (fr : Fr (OneB pr) w w1) : DP w0 w1 lo pr b st1 f V L := by
  have h2 := h.r.lo2
  have hb := h.hb
  exact ⟨h.r.read a fr, own_by h.own fr (fun g hg => by have := (h.own.lt g hg).1; simp only [OneB]; omega), fun x hx => (h.parts x hx).keep fr (fun k hk => by simp only [OneB] at hk; omega) (fun g hg => .inl hg), hb⟩
theorem DP.keep {w0 w w1 : World} {lo pr b : Nat} {st : RSt} {f : Fd} {V : Value} {L : List (Fd × Pl)} (h : DP w0 w lo pr b st f V L) (fr : Fr NoB w w1) : DP w0 w1 lo pr b st f V L :=
  ⟨h.r.keep fr, own_by h.own fr (fun _ _ x => x), fun x hx => (h.parts x hx).keep fr (fun _ hk => hk.elim) (fun _g hg => .inl hg), h.hb⟩
/-- One part more. -/
theorem DP.push {w0 w w' : World} {lo pr b : Nat} {st : RSt} {f : Fd} {V V' : Value} {L : List (Fd × Pl)} {x : Fd × Pl} (h : DP w0 w lo pr b st f V L) (hx : PartAt w0 w V x) (fa : Fr (fun k => V.ownBlock = some k ∨ k = b) w w') (hV : ∀ g, V'.ownBlock = some g → V.ownBlock = some g ∨ w.heap.size ≤ g) (hbx : w'.heap[b]? = some (.cells ((dcells f pl0 0).setIfInBounds 15 V') 31 (0, 0))) (ho : w'.ownsRow w0.heap.size 31 16 V' (L.length + 1) (pv L ++ pv [x])) : DP w0 w' lo pr b st f V' (L ++ [x]) := by
  have h1 := h.r.lo1
  have h2 := h.r.lo2
  have hb := h.hb
  have hV0 : ∀ k, V.ownBlock = some k → w0.heap.size ≤ k := fun k hk => (h.own.lt k hk).1
  have hM : ∀ k, (V.ownBlock = some k ∨ k = b) → k < w0.heap.size ∨ w.heap.size ≤ k ∨ V.ownBlock = some k := fun k hk => by
    rcases hk with hk | hk
    · exact .inr (.inr hk)
    · omega
  refine ⟨⟨h.r.a.fr fa (fun k _ hk hx => ?_) h1, h.r.fr.trans fa (fun k hk hx => ?_), hbx, h1, h2⟩, by rw [List.length_append, pv_append]; exact ho, fun y hy => ?_, hb⟩
  · rcases hx with hx | hx
    · have := hV0 k hx; omega
    · omega
  · rcases hx with hx | hx
    · have := hV0 k hx; omega
    · exact .inr hx
  · rcases List.mem_append.1 hy with hy | hy
    · exact (h.parts y hy).keep fa hM hV
    · simp only [List.mem_singleton] at hy
      subst hy
      exact hx.keep fa hM hV
def setL (xs : List Value) (o : Nat) : List Value → List Value
  | [] => xs
  | v :: r => setL (xs.set o v) (o + 1) r
theorem setL_tail (a z vs : List Value) (h : z.length = vs.length) : setL (a ++ z) a.length vs = a ++ vs := by
  induction vs generalizing a z with
  | nil => simp at h; subst h; rfl
  | cons v r ih =>
    cases z with
    | nil => simp at h
    | cons y z =>
      have e : (a ++ y :: z).set a.length v = (a ++ [v]) ++ z := by simp
      have := ih (a ++ [v]) z (by simpa using h)
      rw [List.length_append, List.length_singleton] at this
      rw [setL, e, this]
      simp
theorem own_setCells {base : Nat} {e : TypeId} {size g n cap : Nat} (vs : List Value) : ∀ {w : World} {xs : List Value} (o : Nat), w.ownsRow base e size (.slice (some ⟨g, 0, none⟩) n cap) n xs → (w.setCells g o vs).ownsRow base e size (.slice (some ⟨g, 0, none⟩) n cap) n (setL xs o vs) := by
  induction vs with
  | nil => intro w xs o h; exact h
  | cons v r ih => intro w xs o h; exact ih (o + 1) (h.stored o v).1
theorem fr_setCells {M : Nat → Prop} {a : World} {g : Nat} (hg : g < a.heap.size → M g) (vs : List Value) : ∀ {w : World} (o : Nat), Fr M a w → Fr M a (w.setCells g o vs) := by
  induction vs with
  | nil => intro w o h; exact h
  | cons v r ih => intro w o h; exact ih (o + 1) (h.setCell (p := ⟨g, o, none⟩) hg v)
theorem size_setCells {g : Nat} (vs : List Value) : ∀ {w : World} (o : Nat), (w.setCells g o vs).heap.size = w.heap.size := by
  induction vs with
  | nil => intro w o; rfl
  | cons v r ih => intro w o; rw [World.setCells, ih]; simp [World.setCell]
theorem set15 (f : Fd) (p : Pl) (V V' : Value) : ((dcells f p 0).setIfInBounds 15 V).setIfInBounds 15 V' = (dcells f p 0).setIfInBounds 15 V' := by simp [dcells]
/-- The element is appended whole, and the new row stored. -/
theorem DP.pushB {w0 w w' : World} {lo pr b : Nat} {st : RSt} {f : Fd} {V : Value} {L : List (Fd × Pl)} {x : Fd × Pl} {o : Obj} {g cap n : Nat} (hn : L.length = n) (h : DP w0 w lo pr b st f V L) (hx : PartAt w0 w V x) (ho : w'.ownsRow w0.heap.size 31 16 (.slice (some ⟨g, 0, none⟩) (n + 1) cap) (n + 1) (pv L ++ pv [x])) (hg : (w.alloc o).grownBy w' V.ownBlock) (hat : V.ownBlock = some g ∨ g = w.heap.size + 1) :
    DP w0 (w'.setCell ⟨b, 15, none⟩ (.slice (some ⟨g, 0, none⟩) (n + 1) cap)) lo pr b st f (.slice (some ⟨g, 0, none⟩) (n + 1) cap) (L ++ [x]) := by
  subst hn
  have fa : Fr (fun k => V.ownBlock = some k ∨ k = b) w w' := ((Fr.refl _ w).alloc o).trans (Fr.ofGrown (M := fun k => V.ownBlock = some k) hg (fun k _ h => h)) (fun k _ hk => .inl hk)
  have hb := h.hb
  have hgb : w0.heap.size ≤ g := (ho.lt g rfl).1
  refine h.push hx (fa.setCell (p := ⟨b, 15, none⟩) (fun _ => .inr rfl) _) (fun k hk => ?_) ?_ (own_by ho ((Fr.refl (OneB b) w').setCell (p := ⟨b, 15, none⟩) (fun _ => rfl) _) (fun k hk => ?_))
  · have hk : g = k := by simpa [Value.ownBlock] using hk
    subst hk
    rcases hat with h | h
    · exact .inl h
    · right; omega
  · have hbx := (hg.block b (by have := Lib.lt_of_heap h.r.bx; simp; omega) (fun e => by have := (h.own.lt b e.symm).1; omega)).trans ((Below.heap_alloc w o b (Lib.lt_of_heap h.r.bx)).trans h.r.bx)
    rw [heap_set hbx, set15]
  · have hk : g = k := by simpa [Value.ownBlock] using hk
    simp only [OneB]; omega
/-- A zero is appended, the new row stored, and the element stored into it. -/
theorem DP.pushA {w0 w w' : World} {lo pr b : Nat} {st : RSt} {f : Fd} {V : Value} {L : List (Fd × Pl)} {x : Fd × Pl} {o : Obj} {g cap n : Nat} {zs : List Value} (hz : zs.length = 16) (hn : L.length = n) (h : DP w0 w lo pr b st f V L) (hx : PartAt w0 w V x) (ho : w'.ownsRow w0.heap.size 31 16 (.slice (some ⟨g, 0, none⟩) (n + 1) cap) (n + 1) (pv L ++ zs)) (hg : (w.alloc o).grownBy w' V.ownBlock) (hat : V.ownBlock = some g ∨ g = w.heap.size + 1) :
    DP w0 ((w'.setCell ⟨b, 15, none⟩ (.slice (some ⟨g, 0, none⟩) (n + 1) cap)).setCells g (n * 16) (dcells x.1 x.2 0).toList) lo pr b st f (.slice (some ⟨g, 0, none⟩) (n + 1) cap) (L ++ [x]) := by
  subst hn
  have fa : Fr (fun k => V.ownBlock = some k ∨ k = b) w w' := ((Fr.refl _ w).alloc o).trans (Fr.ofGrown (M := fun k => V.ownBlock = some k) hg (fun k _ h => h)) (fun k _ hk => .inl hk)
  have hb := h.hb
  have hgb : w0.heap.size ≤ g := (ho.lt g rfl).1
  have fb := fa.setCell (p := ⟨b, 15, none⟩) (fun _ => .inr rfl) (.slice (some ⟨g, 0, none⟩) (L.length + 1) cap)
  have ho2 := own_by ho ((Fr.refl (OneB b) w').setCell (p := ⟨b, 15, none⟩) (fun _ => rfl) (.slice (some ⟨g, 0, none⟩) (L.length + 1) cap)) (fun k hk => by
    have hk : g = k := by simpa [Value.ownBlock] using hk
    simp only [OneB]; omega)
  have ho3 := own_setCells (dcells x.1 x.2 0).toList (L.length * 16) ho2
  have hpl : (pv L).length = L.length * 16 := pv_length L
  rw [← hpl, setL_tail (pv L) zs _ (by rw [hz]; simp [dcells]), hpl] at ho3
  refine h.push hx (fr_setCells (fun hlt => ?_) _ _ fb) (fun k hk => ?_) ?_ (by rw [pv_one]; exact ho3)
  · rcases hat with h | h
    · exact .inl h
    · omega
  · have hk : g = k := by simpa [Value.ownBlock] using hk
    subst hk
    rcases hat with h | h
    · exact .inl h
    · right; omega
  · have hbx := (hg.block b (by have := Lib.lt_of_heap h.r.bx; simp; omega) (fun e => by have := (h.own.lt b e.symm).1; omega)).trans ((Below.heap_alloc w o b (Lib.lt_of_heap h.r.bx)).trans h.r.bx)
    have hs : (w'.setCell ⟨b, 15, none⟩ (.slice (some ⟨g, 0, none⟩) (L.length + 1) cap)).heap[b]? = some (.cells ((dcells f pl0 0).setIfInBounds 15 (.slice (some ⟨g, 0, none⟩) (L.length + 1) cap)) 31 (0, 0)) := by rw [heap_set hbx, set15]
    exact ((fr_setCells (M := OneB g) (fun _ => rfl) (dcells x.1 x.2 0).toList (L.length * 16) (Fr.refl (OneB g) (w'.setCell ⟨b, 15, none⟩ (.slice (some ⟨g, 0, none⟩) (L.length + 1) cap)))).block b (Lib.lt_of_heap hs) (by simp only [OneB]; omega)).trans hs
end Go.Proofs.YtljioepkbbbibaaDoor
