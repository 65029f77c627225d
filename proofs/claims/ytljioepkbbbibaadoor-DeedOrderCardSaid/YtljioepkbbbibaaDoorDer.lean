/-
  Der: read of a kind and what it has, without parts.
-/
import Derived.Test.YtljioepkbbbibaaDoorDei
namespace Go.Proofs.YtljioepkbbbibaaDoor
open Go.RowKit

theorem rBytes_lim {st : RSt} {m : Int} (h : RLim st) : RLim (rBytes st m).2 := by
  unfold rBytes
  exact (tk_lim (rCount_lim h)).1
theorem own_by {M : Nat → Prop} {w w' : World} {base e size n : Nat} {v : Value} {xs : List Value} (h : w.ownsRow base e size v n xs) (hf : Fr M w w') (hm : ∀ g, v.ownBlock = some g → ¬ M g) : w'.ownsRow base e size v n xs :=
  own_keep h fun g hg => hf.block g (h.lt g hg).2 (hm g hg)
def ReadB (pr b : Nat) : Nat → Prop := fun k => k = pr ∨ k = b
/-- A reader, a deed's box behind it. -/
structure DR (w0 w : World) (lo pr b : Nat) (st : RSt) (cs : Array Value) : Prop where
  a : Rdr w lo pr st
  fr : Fr (ReadB pr b) w0 w
  bx : w.heap[b]? = some (.cells cs 31 (0, 0))
  lo1 : lo ≤ pr
  lo2 : pr < b
theorem DR.read {w0 w w1 : World} {lo pr b : Nat} {st st1 : RSt} {cs : Array Value} (h : DR w0 w lo pr b st cs) (a : Rdr w1 lo pr st1) (f : Fr (OneB pr) w w1) : DR w0 w1 lo pr b st1 cs :=
  ⟨a, h.fr.trans f (fun k _ hx => .inl hx), f.at_ h.bx (by have := h.lo2; simp only [OneB]; omega), h.lo1, h.lo2⟩
theorem DR.keep {w0 w w1 : World} {lo pr b : Nat} {st : RSt} {cs : Array Value} (h : DR w0 w lo pr b st cs) (f : Fr NoB w w1) : DR w0 w1 lo pr b st cs :=
  ⟨h.a.fr f (fun _ _ _ x => x) h.lo1, h.fr.trans f (fun _ _ x => x.elim), f.at_ h.bx (fun x => x), h.lo1, h.lo2⟩
theorem DR.set {w0 w : World} {lo pr b : Nat} {st : RSt} {cs : Array Value} (h : DR w0 w lo pr b st cs) (i : Nat) (u : Value) : DR w0 (w.setCell ⟨b, i, none⟩ u) lo pr b st (cs.setIfInBounds i u) := by
  have f : Fr (OneB b) w (w.setCell ⟨b, i, none⟩ u) := (Fr.refl (OneB b) w).setCell (p := ⟨b, i, none⟩) (fun _ => rfl) u
  exact ⟨h.a.fr f (fun k _ hk hx => by have := h.lo2; simp only [OneB] at hx; omega) h.lo1, h.fr.trans f (fun k _ hx => .inr hx), by rw [heap_set h.bx], h.lo1, h.lo2⟩
theorem DR.cell {w0 w : World} {lo pr b : Nat} {st : RSt} {cs : Array Value} (h : DR w0 w lo pr b st cs) (i : Nat) (v : Value) (hv : cs[i]? = some v) : w.cell? ⟨b, i, none⟩ = some v ∧ w.frozen? ⟨b, i, none⟩ = false := ⟨(cells_of h.bx i).1.trans hv, (cells_of h.bx i).2⟩
theorem DR.start {w : World} {lo pr b : Nat} {st : RSt} {cs : Array Value} (a : Rdr w lo pr st) (bx : w.heap[b]? = some (.cells cs 31 (0, 0))) (h1 : lo ≤ pr) (h2 : pr < b) : DR w w lo pr b st cs := ⟨a, Fr.refl _ _, bx, h1, h2⟩
/-- No lists. -/
def pl0 : Pl := ⟨none, 0, none, 0, none, 0⟩
/-- A deed that was read: its box, its lists. -/
structure Got (w0 w : World) (lo pr b : Nat) (st : RSt) (f : Fd) (pl : Pl) : Prop where
  r : DR w0 w lo pr b st (dcells f pl 0)
  d : w.ownsRow w0.heap.size 5 1 (.slice pl.A f.data.length pl.c) f.data.length (bv f.data)
  m : RdM w w0.heap.size w.heap.size pl.B f.c.2
  p : pl.P = none ∧ pl.e = 0
theorem own_nil0 (w : World) (B : Nat) : w.ownsRow B 5 1 (.slice none 0 0) 0 (bv []) := World.ownsRow_nil _ _ _ _
theorem RdM.nil' (w : World) (lo hi : Nat) (A : Option Addr) : RdM w lo hi A [] := fun h => absurd h (by simp)
set_option maxHeartbeats 3200000 in
set_option maxRecDepth 8000 in
theorem rd1_calls (f : Fd) (deep : Bool) (lo pr b : Nat) (st : RSt) (w : World) (hz : f = bareOf f) (ha : Rdr w lo pr st) (h1 : lo ≤ pr) (h2 : pr < b) (hbx : w.heap[b]? = some (.cells (dcells f pl0 0) 31 (0, 0))) (hlim : RLim st) (hH : Has w) (hk : f.k = 1) :
    Calls Tryd.prog 39 #[.pointer (some ⟨pr, 0, none⟩), .pointer (some ⟨b, 0, none⟩), .bool deep] w fun e w' => e = .returned (.tuple #[]) ∧ ∃ pl, Got w w' lo pr b (rdFd f st).2 (rdFd f st).1 pl := by
  obtain ⟨z, k, s, t, x, m, path, data, ow, ve, cv, ti, er, cver, ms⟩ := f
  simp only [bareOf, Fd.mk.injEq, Prod.mk.injEq, true_and] at hz
  obtain ⟨rfl, rfl, rfl, rfl, rfl, rfl, rfl, rfl, rfl⟩ := hz
  simp only at hk
  subst hk
  have hcell : w.cell? ⟨0, 1, none⟩ = some (.int .i64 23) := hH.2 1 (by decide)
  have b1 : bits .and .i64 23 1 = 1 := by decide
  have b2 : bits .and .i64 23 2 = 2 := by decide
  have b4 : bits .and .i64 23 4 = 4 := by decide
  have b8 : bits .and .i64 23 8 = 0 := by decide
  have b16 : bits .and .i64 23 16 = 16 := by decide
  have b32 : bits .and .i64 23 32 = 0 := by decide
  have b64 : bits .and .i64 23 64 = 0 := by decide
  have b128 : bits .and .i64 23 128 = 0 := by decide
  have b256 : bits .and .i64 23 256 = 0 := by decide
  have T0 := Lib.hid (DR.start ha hbx h1 h2)
  have d1 := T0.out.cell 1 _ rfl
  obtain ⟨d1, -⟩ := d1
  have HLIM := Lib.hid hlim
  obtain ⟨x0, s1, g0⟩ : ∃ x t, rBytes st 200 = (x, t) := ⟨_, _, rfl⟩
  have hc0 := fun W (r : Rdr W lo pr st) => rText_calls lo pr st 200 W r
  rw [g0] at hc0
  have hlim1 : RLim s1 := by have := rBytes_lim (m := 200) hlim; rw [g0] at this; exact this
  obtain ⟨x1, s2, g1⟩ : ∃ x t, rBytes s1 1000 = (x, t) := ⟨_, _, rfl⟩
  have hc1 := fun W (r : Rdr W lo pr s1) => rBytes_calls lo pr s1 1000 W r h1 hlim1
  rw [g1] at hc1
  obtain ⟨x2, s3, g2⟩ : ∃ x t, rInt s2 = (x, t) := ⟨_, _, rfl⟩
  have hc2 := fun W (r : Rdr W lo pr s2) => rInt_calls lo pr s2 W r
  rw [g2] at hc2
  obtain ⟨x3, s4, g3⟩ : ∃ x t, rInt s3 = (x, t) := ⟨_, _, rfl⟩
  have hc3 := fun W (r : Rdr W lo pr s3) => rInt_calls lo pr s3 W r
  rw [g3] at hc3
  have HFIN : Hid (rdFd ⟨z, 1, s, t, x, m, [], [], 0, 0, 0, 0, 0, (0, [])⟩ st = (⟨z, 1, s, t, x, m, x0, x1, x2, 0, x3, 0, 0, (0, [])⟩, s4)) := by show _ = _; simp [rdFd, g0, g1, g2, g3]
  have HC0 := Lib.hid hc0
  have HC1 := Lib.hid hc1
  have HC2 := Lib.hid hc2
  have HC3 := Lib.hid hc3
  simp only [dcells, pl0] at *
  clear ha hbx hlim hH hc0 hc1 hc2 hc3 g0 g1 g2 g3 hlim1
  go_enter Tryd.func39, Tryd.ntmps39
  go_wp2_with (fail)
  refine (HC0.out _ T0.out.a).mono ?_
  rintro e v0 ⟨rfl, a0, f0, -⟩
  have U0 := Lib.hid (T0.out.read a0 f0)
  clear a0 f0 T0
  have y := (cells_of U0.out.bx 6).1
  have n := (cells_of U0.out.bx 6).2
  simp only [List.getElem?_toArray, List.getElem?_cons_zero, List.getElem?_cons_succ] at y
  have T1 := Lib.hid (U0.out.set 6 (.string ⟨x0.toArray⟩))
  simp only [List.setIfInBounds_toArray, List.set_cons_zero, List.set_cons_succ] at T1
  go_wp2_with (fail)
  clear y n
  generalize v0.setCell ⟨b, 6, none⟩ (.string ⟨x0.toArray⟩) = t0 at *
  refine (HC1.out _ T1.out.a).mono ?_
  rintro e v1 ⟨y1, rfl, o1, a1, f1⟩
  obtain ⟨DA, dc, rfl, -, -⟩ := own_form o1
  have HO := Lib.hid (own_low o1 T1.out.fr.size)
  have U1 := Lib.hid (T1.out.read a1 f1)
  have HDB := Lib.hid (fun g (hg : (Value.slice DA x1.length dc).ownBlock = some g) => Nat.ne_of_gt (Nat.lt_of_lt_of_le (Lib.lt_of_heap T1.out.bx) (o1.lt g hg).1))
  have HDP := Lib.hid (fun g (hg : (Value.slice DA x1.length dc).ownBlock = some g) => Nat.ne_of_gt (Nat.lt_of_lt_of_le (Nat.lt_trans h2 (Lib.lt_of_heap T1.out.bx)) (o1.lt g hg).1))
  clear a1 f1 o1 T1
  have y := (cells_of U1.out.bx 7).1
  have n := (cells_of U1.out.bx 7).2
  simp only [List.getElem?_toArray, List.getElem?_cons_zero, List.getElem?_cons_succ] at y
  have T2 := Lib.hid (U1.out.set 7 (.slice DA x1.length dc))
  simp only [List.setIfInBounds_toArray, List.set_cons_zero, List.set_cons_succ] at T2
  have HOs1 := Lib.hid (own_by HO.out ((Fr.refl (OneB b) v1).setCell (p := ⟨b, 7, none⟩) (fun _ => rfl) (.slice DA x1.length dc)) (fun g hg hx => HDB.out g hg hx))
  clear HO
  go_wp2_with (fail)
  clear y n
  generalize v1.setCell ⟨b, 7, none⟩ (.slice DA x1.length dc) = t1 at *
  refine (HC2.out _ T2.out.a).mono ?_
  rintro e v2 ⟨rfl, a2, f2, -⟩
  have U2 := Lib.hid (T2.out.read a2 f2)
  have HO2 := Lib.hid (own_by HOs1.out f2 (fun g hg hx => HDP.out g hg hx))
  clear HOs1
  clear a2 f2 T2
  have y := (cells_of U2.out.bx 8).1
  have n := (cells_of U2.out.bx 8).2
  simp only [List.getElem?_toArray, List.getElem?_cons_zero, List.getElem?_cons_succ] at y
  have T3 := Lib.hid (U2.out.set 8 (.int .i64 x2))
  simp only [List.setIfInBounds_toArray, List.set_cons_zero, List.set_cons_succ] at T3
  have HOs2 := Lib.hid (own_by HO2.out ((Fr.refl (OneB b) v2).setCell (p := ⟨b, 8, none⟩) (fun _ => rfl) (.int .i64 x2)) (fun g hg hx => HDB.out g hg hx))
  clear HO2
  go_wp2_with (fail)
  clear y n
  generalize v2.setCell ⟨b, 8, none⟩ (.int .i64 x2) = t2 at *
  refine (HC3.out _ T3.out.a).mono ?_
  rintro e v3 ⟨rfl, a3, f3, -⟩
  have U3 := Lib.hid (T3.out.read a3 f3)
  have HO3 := Lib.hid (own_by HOs2.out f3 (fun g hg hx => HDP.out g hg hx))
  clear HOs2
  clear a3 f3 T3
  have y := (cells_of U3.out.bx 10).1
  have n := (cells_of U3.out.bx 10).2
  simp only [List.getElem?_toArray, List.getElem?_cons_zero, List.getElem?_cons_succ] at y
  have T4 := Lib.hid (U3.out.set 10 (.int .i64 x3))
  simp only [List.setIfInBounds_toArray, List.set_cons_zero, List.set_cons_succ] at T4
  have HOs3 := Lib.hid (own_by HO3.out ((Fr.refl (OneB b) v3).setCell (p := ⟨b, 10, none⟩) (fun _ => rfl) (.int .i64 x3)) (fun g hg hx => HDB.out g hg hx))
  clear HO3
  go_wp2_with (fail)
  clear y n
  go_end0
  refine ⟨rfl, ?_⟩
  rw [HFIN.out]
  exact ⟨⟨DA, dc, none, 0, none, 0⟩, T4.out, HOs3.out, RdM.nil' _ _ _ _, rfl, rfl⟩
set_option maxHeartbeats 3200000 in
set_option maxRecDepth 8000 in
theorem rd2_calls (f : Fd) (deep : Bool) (lo pr b : Nat) (st : RSt) (w : World) (hz : f = bareOf f) (ha : Rdr w lo pr st) (h1 : lo ≤ pr) (h2 : pr < b) (hbx : w.heap[b]? = some (.cells (dcells f pl0 0) 31 (0, 0))) (hlim : RLim st) (hH : Has w) (hk : f.k = 2) :
    Calls Tryd.prog 39 #[.pointer (some ⟨pr, 0, none⟩), .pointer (some ⟨b, 0, none⟩), .bool deep] w fun e w' => e = .returned (.tuple #[]) ∧ ∃ pl, Got w w' lo pr b (rdFd f st).2 (rdFd f st).1 pl := by
  obtain ⟨z, k, s, t, x, m, path, data, ow, ve, cv, ti, er, cver, ms⟩ := f
  simp only [bareOf, Fd.mk.injEq, Prod.mk.injEq, true_and] at hz
  obtain ⟨rfl, rfl, rfl, rfl, rfl, rfl, rfl, rfl, rfl⟩ := hz
  simp only at hk
  subst hk
  have hcell : w.cell? ⟨0, 2, none⟩ = some (.int .i64 17) := hH.2 2 (by decide)
  have b1 : bits .and .i64 17 1 = 1 := by decide
  have b2 : bits .and .i64 17 2 = 0 := by decide
  have b4 : bits .and .i64 17 4 = 0 := by decide
  have b8 : bits .and .i64 17 8 = 0 := by decide
  have b16 : bits .and .i64 17 16 = 16 := by decide
  have b32 : bits .and .i64 17 32 = 0 := by decide
  have b64 : bits .and .i64 17 64 = 0 := by decide
  have b128 : bits .and .i64 17 128 = 0 := by decide
  have b256 : bits .and .i64 17 256 = 0 := by decide
  have T0 := Lib.hid (DR.start ha hbx h1 h2)
  have d1 := T0.out.cell 1 _ rfl
  obtain ⟨d1, -⟩ := d1
  have HLIM := Lib.hid hlim
  obtain ⟨x0, s1, g0⟩ : ∃ x t, rBytes st 200 = (x, t) := ⟨_, _, rfl⟩
  have hc0 := fun W (r : Rdr W lo pr st) => rText_calls lo pr st 200 W r
  rw [g0] at hc0
  have hlim1 : RLim s1 := by have := rBytes_lim (m := 200) hlim; rw [g0] at this; exact this
  obtain ⟨x1, s2, g1⟩ : ∃ x t, rInt s1 = (x, t) := ⟨_, _, rfl⟩
  have hc1 := fun W (r : Rdr W lo pr s1) => rInt_calls lo pr s1 W r
  rw [g1] at hc1
  have HFIN : Hid (rdFd ⟨z, 2, s, t, x, m, [], [], 0, 0, 0, 0, 0, (0, [])⟩ st = (⟨z, 2, s, t, x, m, x0, [], 0, 0, x1, 0, 0, (0, [])⟩, s2)) := by show _ = _; simp [rdFd, g0, g1]
  have HC0 := Lib.hid hc0
  have HC1 := Lib.hid hc1
  simp only [dcells, pl0] at *
  clear ha hbx hlim hH hc0 hc1 g0 g1 hlim1
  go_enter Tryd.func39, Tryd.ntmps39
  go_wp2_with (fail)
  refine (HC0.out _ T0.out.a).mono ?_
  rintro e v0 ⟨rfl, a0, f0, -⟩
  have U0 := Lib.hid (T0.out.read a0 f0)
  clear a0 f0 T0
  have y := (cells_of U0.out.bx 6).1
  have n := (cells_of U0.out.bx 6).2
  simp only [List.getElem?_toArray, List.getElem?_cons_zero, List.getElem?_cons_succ] at y
  have T1 := Lib.hid (U0.out.set 6 (.string ⟨x0.toArray⟩))
  simp only [List.setIfInBounds_toArray, List.set_cons_zero, List.set_cons_succ] at T1
  go_wp2_with (fail)
  clear y n
  generalize v0.setCell ⟨b, 6, none⟩ (.string ⟨x0.toArray⟩) = t0 at *
  refine (HC1.out _ T1.out.a).mono ?_
  rintro e v1 ⟨rfl, a1, f1, -⟩
  have U1 := Lib.hid (T1.out.read a1 f1)
  clear a1 f1 T1
  have y := (cells_of U1.out.bx 10).1
  have n := (cells_of U1.out.bx 10).2
  simp only [List.getElem?_toArray, List.getElem?_cons_zero, List.getElem?_cons_succ] at y
  have T2 := Lib.hid (U1.out.set 10 (.int .i64 x1))
  simp only [List.setIfInBounds_toArray, List.set_cons_zero, List.set_cons_succ] at T2
  go_wp2_with (fail)
  clear y n
  go_end0
  refine ⟨rfl, ?_⟩
  rw [HFIN.out]
  exact ⟨pl0, T2.out, own_nil0 _ _, RdM.nil' _ _ _ _, rfl, rfl⟩
set_option maxHeartbeats 3200000 in
set_option maxRecDepth 8000 in
theorem rd3_calls (f : Fd) (deep : Bool) (lo pr b : Nat) (st : RSt) (w : World) (hz : f = bareOf f) (ha : Rdr w lo pr st) (h1 : lo ≤ pr) (h2 : pr < b) (hbx : w.heap[b]? = some (.cells (dcells f pl0 0) 31 (0, 0))) (hlim : RLim st) (hH : Has w) (hk : f.k = 3) :
    Calls Tryd.prog 39 #[.pointer (some ⟨pr, 0, none⟩), .pointer (some ⟨b, 0, none⟩), .bool deep] w fun e w' => e = .returned (.tuple #[]) ∧ ∃ pl, Got w w' lo pr b (rdFd f st).2 (rdFd f st).1 pl := by
  obtain ⟨z, k, s, t, x, m, path, data, ow, ve, cv, ti, er, cver, ms⟩ := f
  simp only [bareOf, Fd.mk.injEq, Prod.mk.injEq, true_and] at hz
  obtain ⟨rfl, rfl, rfl, rfl, rfl, rfl, rfl, rfl, rfl⟩ := hz
  simp only at hk
  subst hk
  have hcell : w.cell? ⟨0, 3, none⟩ = some (.int .i64 11) := hH.2 3 (by decide)
  have b1 : bits .and .i64 11 1 = 1 := by decide
  have b2 : bits .and .i64 11 2 = 2 := by decide
  have b4 : bits .and .i64 11 4 = 0 := by decide
  have b8 : bits .and .i64 11 8 = 8 := by decide
  have b16 : bits .and .i64 11 16 = 0 := by decide
  have b32 : bits .and .i64 11 32 = 0 := by decide
  have b64 : bits .and .i64 11 64 = 0 := by decide
  have b128 : bits .and .i64 11 128 = 0 := by decide
  have b256 : bits .and .i64 11 256 = 0 := by decide
  have T0 := Lib.hid (DR.start ha hbx h1 h2)
  have d1 := T0.out.cell 1 _ rfl
  obtain ⟨d1, -⟩ := d1
  have HLIM := Lib.hid hlim
  obtain ⟨x0, s1, g0⟩ : ∃ x t, rBytes st 200 = (x, t) := ⟨_, _, rfl⟩
  have hc0 := fun W (r : Rdr W lo pr st) => rText_calls lo pr st 200 W r
  rw [g0] at hc0
  have hlim1 : RLim s1 := by have := rBytes_lim (m := 200) hlim; rw [g0] at this; exact this
  obtain ⟨x1, s2, g1⟩ : ∃ x t, rBytes s1 1000 = (x, t) := ⟨_, _, rfl⟩
  have hc1 := fun W (r : Rdr W lo pr s1) => rBytes_calls lo pr s1 1000 W r h1 hlim1
  rw [g1] at hc1
  obtain ⟨x2, s3, g2⟩ : ∃ x t, rInt s2 = (x, t) := ⟨_, _, rfl⟩
  have hc2 := fun W (r : Rdr W lo pr s2) => rInt_calls lo pr s2 W r
  rw [g2] at hc2
  have HFIN : Hid (rdFd ⟨z, 3, s, t, x, m, [], [], 0, 0, 0, 0, 0, (0, [])⟩ st = (⟨z, 3, s, t, x, m, x0, x1, 0, x2, 0, 0, 0, (0, [])⟩, s3)) := by show _ = _; simp [rdFd, g0, g1, g2]
  have HC0 := Lib.hid hc0
  have HC1 := Lib.hid hc1
  have HC2 := Lib.hid hc2
  simp only [dcells, pl0] at *
  clear ha hbx hlim hH hc0 hc1 hc2 g0 g1 g2 hlim1
  go_enter Tryd.func39, Tryd.ntmps39
  go_wp2_with (fail)
  refine (HC0.out _ T0.out.a).mono ?_
  rintro e v0 ⟨rfl, a0, f0, -⟩
  have U0 := Lib.hid (T0.out.read a0 f0)
  clear a0 f0 T0
  have y := (cells_of U0.out.bx 6).1
  have n := (cells_of U0.out.bx 6).2
  simp only [List.getElem?_toArray, List.getElem?_cons_zero, List.getElem?_cons_succ] at y
  have T1 := Lib.hid (U0.out.set 6 (.string ⟨x0.toArray⟩))
  simp only [List.setIfInBounds_toArray, List.set_cons_zero, List.set_cons_succ] at T1
  go_wp2_with (fail)
  clear y n
  generalize v0.setCell ⟨b, 6, none⟩ (.string ⟨x0.toArray⟩) = t0 at *
  refine (HC1.out _ T1.out.a).mono ?_
  rintro e v1 ⟨y1, rfl, o1, a1, f1⟩
  obtain ⟨DA, dc, rfl, -, -⟩ := own_form o1
  have HO := Lib.hid (own_low o1 T1.out.fr.size)
  have U1 := Lib.hid (T1.out.read a1 f1)
  have HDB := Lib.hid (fun g (hg : (Value.slice DA x1.length dc).ownBlock = some g) => Nat.ne_of_gt (Nat.lt_of_lt_of_le (Lib.lt_of_heap T1.out.bx) (o1.lt g hg).1))
  have HDP := Lib.hid (fun g (hg : (Value.slice DA x1.length dc).ownBlock = some g) => Nat.ne_of_gt (Nat.lt_of_lt_of_le (Nat.lt_trans h2 (Lib.lt_of_heap T1.out.bx)) (o1.lt g hg).1))
  clear a1 f1 o1 T1
  have y := (cells_of U1.out.bx 7).1
  have n := (cells_of U1.out.bx 7).2
  simp only [List.getElem?_toArray, List.getElem?_cons_zero, List.getElem?_cons_succ] at y
  have T2 := Lib.hid (U1.out.set 7 (.slice DA x1.length dc))
  simp only [List.setIfInBounds_toArray, List.set_cons_zero, List.set_cons_succ] at T2
  have HOs1 := Lib.hid (own_by HO.out ((Fr.refl (OneB b) v1).setCell (p := ⟨b, 7, none⟩) (fun _ => rfl) (.slice DA x1.length dc)) (fun g hg hx => HDB.out g hg hx))
  clear HO
  go_wp2_with (fail)
  clear y n
  generalize v1.setCell ⟨b, 7, none⟩ (.slice DA x1.length dc) = t1 at *
  refine (HC2.out _ T2.out.a).mono ?_
  rintro e v2 ⟨rfl, a2, f2, -⟩
  have U2 := Lib.hid (T2.out.read a2 f2)
  have HO2 := Lib.hid (own_by HOs1.out f2 (fun g hg hx => HDP.out g hg hx))
  clear HOs1
  clear a2 f2 T2
  have y := (cells_of U2.out.bx 9).1
  have n := (cells_of U2.out.bx 9).2
  simp only [List.getElem?_toArray, List.getElem?_cons_zero, List.getElem?_cons_succ] at y
  have T3 := Lib.hid (U2.out.set 9 (.int .i64 x2))
  simp only [List.setIfInBounds_toArray, List.set_cons_zero, List.set_cons_succ] at T3
  have HOs2 := Lib.hid (own_by HO2.out ((Fr.refl (OneB b) v2).setCell (p := ⟨b, 9, none⟩) (fun _ => rfl) (.int .i64 x2)) (fun g hg hx => HDB.out g hg hx))
  clear HO2
  go_wp2_with (fail)
  clear y n
  go_end0
  refine ⟨rfl, ?_⟩
  rw [HFIN.out]
  exact ⟨⟨DA, dc, none, 0, none, 0⟩, T3.out, HOs2.out, RdM.nil' _ _ _ _, rfl, rfl⟩
set_option maxHeartbeats 3200000 in
set_option maxRecDepth 8000 in
theorem rd4_calls (f : Fd) (deep : Bool) (lo pr b : Nat) (st : RSt) (w : World) (hz : f = bareOf f) (ha : Rdr w lo pr st) (h1 : lo ≤ pr) (h2 : pr < b) (hbx : w.heap[b]? = some (.cells (dcells f pl0 0) 31 (0, 0))) (hlim : RLim st) (hH : Has w) (hk : f.k = 4) :
    Calls Tryd.prog 39 #[.pointer (some ⟨pr, 0, none⟩), .pointer (some ⟨b, 0, none⟩), .bool deep] w fun e w' => e = .returned (.tuple #[]) ∧ ∃ pl, Got w w' lo pr b (rdFd f st).2 (rdFd f st).1 pl := by
  obtain ⟨z, k, s, t, x, m, path, data, ow, ve, cv, ti, er, cver, ms⟩ := f
  simp only [bareOf, Fd.mk.injEq, Prod.mk.injEq, true_and] at hz
  obtain ⟨rfl, rfl, rfl, rfl, rfl, rfl, rfl, rfl, rfl⟩ := hz
  simp only at hk
  subst hk
  have hcell : w.cell? ⟨0, 4, none⟩ = some (.int .i64 32) := hH.2 4 (by decide)
  have b1 : bits .and .i64 32 1 = 0 := by decide
  have b2 : bits .and .i64 32 2 = 0 := by decide
  have b4 : bits .and .i64 32 4 = 0 := by decide
  have b8 : bits .and .i64 32 8 = 0 := by decide
  have b16 : bits .and .i64 32 16 = 0 := by decide
  have b32 : bits .and .i64 32 32 = 32 := by decide
  have b64 : bits .and .i64 32 64 = 0 := by decide
  have b128 : bits .and .i64 32 128 = 0 := by decide
  have b256 : bits .and .i64 32 256 = 0 := by decide
  have T0 := Lib.hid (DR.start ha hbx h1 h2)
  have d1 := T0.out.cell 1 _ rfl
  obtain ⟨d1, -⟩ := d1
  have HLIM := Lib.hid hlim
  obtain ⟨x0, s1, g0⟩ : ∃ x t, rInt st = (x, t) := ⟨_, _, rfl⟩
  have hc0 := fun W (r : Rdr W lo pr st) => rInt_calls lo pr st W r
  rw [g0] at hc0
  have HFIN : Hid (rdFd ⟨z, 4, s, t, x, m, [], [], 0, 0, 0, 0, 0, (0, [])⟩ st = (⟨z, 4, s, t, x, m, [], [], 0, 0, 0, x0, 0, (0, [])⟩, s1)) := by show _ = _; simp [rdFd, g0]
  have HC0 := Lib.hid hc0
  simp only [dcells, pl0] at *
  clear ha hbx hlim hH hc0 g0
  go_enter Tryd.func39, Tryd.ntmps39
  go_wp2_with (fail)
  refine (HC0.out _ T0.out.a).mono ?_
  rintro e v0 ⟨rfl, a0, f0, -⟩
  have U0 := Lib.hid (T0.out.read a0 f0)
  clear a0 f0 T0
  have y := (cells_of U0.out.bx 11).1
  have n := (cells_of U0.out.bx 11).2
  simp only [List.getElem?_toArray, List.getElem?_cons_zero, List.getElem?_cons_succ] at y
  have T1 := Lib.hid (U0.out.set 11 (.int .i64 x0))
  simp only [List.setIfInBounds_toArray, List.set_cons_zero, List.set_cons_succ] at T1
  go_wp2_with (fail)
  clear y n
  go_end0
  refine ⟨rfl, ?_⟩
  rw [HFIN.out]
  exact ⟨pl0, T1.out, own_nil0 _ _, RdM.nil' _ _ _ _, rfl, rfl⟩
set_option maxHeartbeats 3200000 in
set_option maxRecDepth 8000 in
theorem rd5_calls (f : Fd) (deep : Bool) (lo pr b : Nat) (st : RSt) (w : World) (hz : f = bareOf f) (ha : Rdr w lo pr st) (h1 : lo ≤ pr) (h2 : pr < b) (hbx : w.heap[b]? = some (.cells (dcells f pl0 0) 31 (0, 0))) (hlim : RLim st) (hH : Has w) (hdp : deep = false) (hk : f.k = 5) :
    Calls Tryd.prog 39 #[.pointer (some ⟨pr, 0, none⟩), .pointer (some ⟨b, 0, none⟩), .bool deep] w fun e w' => e = .returned (.tuple #[]) ∧ ∃ pl, Got w w' lo pr b (rdFd f st).2 (rdFd f st).1 pl := by
  obtain ⟨z, k, s, t, x, m, path, data, ow, ve, cv, ti, er, cver, ms⟩ := f
  simp only [bareOf, Fd.mk.injEq, Prod.mk.injEq, true_and] at hz
  obtain ⟨rfl, rfl, rfl, rfl, rfl, rfl, rfl, rfl, rfl⟩ := hz
  simp only at hk
  subst hk
  have hcell : w.cell? ⟨0, 5, none⟩ = some (.int .i64 260) := hH.2 5 (by decide)
  have b1 : bits .and .i64 260 1 = 0 := by decide
  have b2 : bits .and .i64 260 2 = 0 := by decide
  have b4 : bits .and .i64 260 4 = 4 := by decide
  have b8 : bits .and .i64 260 8 = 0 := by decide
  have b16 : bits .and .i64 260 16 = 0 := by decide
  have b32 : bits .and .i64 260 32 = 0 := by decide
  have b64 : bits .and .i64 260 64 = 0 := by decide
  have b128 : bits .and .i64 260 128 = 0 := by decide
  have b256 : bits .and .i64 260 256 = 256 := by decide
  have T0 := Lib.hid (DR.start ha hbx h1 h2)
  have d1 := T0.out.cell 1 _ rfl
  obtain ⟨d1, -⟩ := d1
  have HLIM := Lib.hid hlim
  subst hdp
  obtain ⟨x0, s1, g0⟩ : ∃ x t, rInt st = (x, t) := ⟨_, _, rfl⟩
  have hc0 := fun W (r : Rdr W lo pr st) => rInt_calls lo pr st W r
  rw [g0] at hc0
  have HFIN : Hid (rdFd ⟨z, 5, s, t, x, m, [], [], 0, 0, 0, 0, 0, (0, [])⟩ st = (⟨z, 5, s, t, x, m, [], [], x0, 0, 0, 0, 0, (0, [])⟩, s1)) := by show _ = _; simp [rdFd, g0]
  have HC0 := Lib.hid hc0
  simp only [dcells, pl0] at *
  clear ha hbx hlim hH hc0 g0
  go_enter Tryd.func39, Tryd.ntmps39
  go_wp2_with (fail)
  refine (HC0.out _ T0.out.a).mono ?_
  rintro e v0 ⟨rfl, a0, f0, -⟩
  have U0 := Lib.hid (T0.out.read a0 f0)
  clear a0 f0 T0
  have y := (cells_of U0.out.bx 8).1
  have n := (cells_of U0.out.bx 8).2
  simp only [List.getElem?_toArray, List.getElem?_cons_zero, List.getElem?_cons_succ] at y
  have T1 := Lib.hid (U0.out.set 8 (.int .i64 x0))
  simp only [List.setIfInBounds_toArray, List.set_cons_zero, List.set_cons_succ] at T1
  go_wp2_with (fail)
  clear y n
  go_end0
  refine ⟨rfl, ?_⟩
  rw [HFIN.out]
  exact ⟨pl0, T1.out, own_nil0 _ _, RdM.nil' _ _ _ _, rfl, rfl⟩
set_option maxHeartbeats 3200000 in
set_option maxRecDepth 8000 in
theorem rd6_calls (f : Fd) (deep : Bool) (lo pr b : Nat) (st : RSt) (w : World) (hz : f = bareOf f) (ha : Rdr w lo pr st) (h1 : lo ≤ pr) (h2 : pr < b) (hbx : w.heap[b]? = some (.cells (dcells f pl0 0) 31 (0, 0))) (hlim : RLim st) (hH : Has w) (hk : f.k = 6) :
    Calls Tryd.prog 39 #[.pointer (some ⟨pr, 0, none⟩), .pointer (some ⟨b, 0, none⟩), .bool deep] w fun e w' => e = .returned (.tuple #[]) ∧ ∃ pl, Got w w' lo pr b (rdFd f st).2 (rdFd f st).1 pl := by
  obtain ⟨z, k, s, t, x, m, path, data, ow, ve, cv, ti, er, cver, ms⟩ := f
  simp only [bareOf, Fd.mk.injEq, Prod.mk.injEq, true_and] at hz
  obtain ⟨rfl, rfl, rfl, rfl, rfl, rfl, rfl, rfl, rfl⟩ := hz
  simp only at hk
  subst hk
  have hcell : w.cell? ⟨0, 6, none⟩ = some (.int .i64 0) := hH.2 6 (by decide)
  have b1 : bits .and .i64 0 1 = 0 := by decide
  have b2 : bits .and .i64 0 2 = 0 := by decide
  have b4 : bits .and .i64 0 4 = 0 := by decide
  have b8 : bits .and .i64 0 8 = 0 := by decide
  have b16 : bits .and .i64 0 16 = 0 := by decide
  have b32 : bits .and .i64 0 32 = 0 := by decide
  have b64 : bits .and .i64 0 64 = 0 := by decide
  have b128 : bits .and .i64 0 128 = 0 := by decide
  have b256 : bits .and .i64 0 256 = 0 := by decide
  have T0 := Lib.hid (DR.start ha hbx h1 h2)
  have d1 := T0.out.cell 1 _ rfl
  obtain ⟨d1, -⟩ := d1
  have HLIM := Lib.hid hlim
  have HFIN : Hid (rdFd ⟨z, 6, s, t, x, m, [], [], 0, 0, 0, 0, 0, (0, [])⟩ st = (⟨z, 6, s, t, x, m, [], [], 0, 0, 0, 0, 0, (0, [])⟩, st)) := by show _ = _; simp [rdFd]
  simp only [dcells, pl0] at *
  clear ha hbx hlim hH 
  go_enter Tryd.func39, Tryd.ntmps39
  go_wp2_with (fail)
  go_end0
  refine ⟨rfl, ?_⟩
  rw [HFIN.out]
  exact ⟨pl0, T0.out, own_nil0 _ _, RdM.nil' _ _ _ _, rfl, rfl⟩
set_option maxHeartbeats 3200000 in
set_option maxRecDepth 8000 in
theorem rd8_calls (f : Fd) (deep : Bool) (lo pr b : Nat) (st : RSt) (w : World) (hz : f = bareOf f) (ha : Rdr w lo pr st) (h1 : lo ≤ pr) (h2 : pr < b) (hbx : w.heap[b]? = some (.cells (dcells f pl0 0) 31 (0, 0))) (hlim : RLim st) (hH : Has w) (hdp : deep = false) (hk : f.k = 8) :
    Calls Tryd.prog 39 #[.pointer (some ⟨pr, 0, none⟩), .pointer (some ⟨b, 0, none⟩), .bool deep] w fun e w' => e = .returned (.tuple #[]) ∧ ∃ pl, Got w w' lo pr b (rdFd f st).2 (rdFd f st).1 pl := by
  obtain ⟨z, k, s, t, x, m, path, data, ow, ve, cv, ti, er, cver, ms⟩ := f
  simp only [bareOf, Fd.mk.injEq, Prod.mk.injEq, true_and] at hz
  obtain ⟨rfl, rfl, rfl, rfl, rfl, rfl, rfl, rfl, rfl⟩ := hz
  simp only at hk
  subst hk
  have hcell : w.cell? ⟨0, 8, none⟩ = some (.int .i64 256) := hH.2 8 (by decide)
  have b1 : bits .and .i64 256 1 = 0 := by decide
  have b2 : bits .and .i64 256 2 = 0 := by decide
  have b4 : bits .and .i64 256 4 = 0 := by decide
  have b8 : bits .and .i64 256 8 = 0 := by decide
  have b16 : bits .and .i64 256 16 = 0 := by decide
  have b32 : bits .and .i64 256 32 = 0 := by decide
  have b64 : bits .and .i64 256 64 = 0 := by decide
  have b128 : bits .and .i64 256 128 = 0 := by decide
  have b256 : bits .and .i64 256 256 = 256 := by decide
  have T0 := Lib.hid (DR.start ha hbx h1 h2)
  have d1 := T0.out.cell 1 _ rfl
  obtain ⟨d1, -⟩ := d1
  have HLIM := Lib.hid hlim
  subst hdp
  have HFIN : Hid (rdFd ⟨z, 8, s, t, x, m, [], [], 0, 0, 0, 0, 0, (0, [])⟩ st = (⟨z, 8, s, t, x, m, [], [], 0, 0, 0, 0, 0, (0, [])⟩, st)) := by show _ = _; simp [rdFd]
  simp only [dcells, pl0] at *
  clear ha hbx hlim hH 
  go_enter Tryd.func39, Tryd.ntmps39
  go_wp2_with (fail)
  go_end0
  refine ⟨rfl, ?_⟩
  rw [HFIN.out]
  exact ⟨pl0, T0.out, own_nil0 _ _, RdM.nil' _ _ _ _, rfl, rfl⟩
set_option maxHeartbeats 3200000 in
set_option maxRecDepth 8000 in
theorem rd9_calls (f : Fd) (deep : Bool) (lo pr b : Nat) (st : RSt) (w : World) (hz : f = bareOf f) (ha : Rdr w lo pr st) (h1 : lo ≤ pr) (h2 : pr < b) (hbx : w.heap[b]? = some (.cells (dcells f pl0 0) 31 (0, 0))) (hlim : RLim st) (hH : Has w) (hk : f.k = 9) :
    Calls Tryd.prog 39 #[.pointer (some ⟨pr, 0, none⟩), .pointer (some ⟨b, 0, none⟩), .bool deep] w fun e w' => e = .returned (.tuple #[]) ∧ ∃ pl, Got w w' lo pr b (rdFd f st).2 (rdFd f st).1 pl := by
  obtain ⟨z, k, s, t, x, m, path, data, ow, ve, cv, ti, er, cver, ms⟩ := f
  simp only [bareOf, Fd.mk.injEq, Prod.mk.injEq, true_and] at hz
  obtain ⟨rfl, rfl, rfl, rfl, rfl, rfl, rfl, rfl, rfl⟩ := hz
  simp only at hk
  subst hk
  have hcell : w.cell? ⟨0, 9, none⟩ = some (.int .i64 64) := hH.2 9 (by decide)
  have b1 : bits .and .i64 64 1 = 0 := by decide
  have b2 : bits .and .i64 64 2 = 0 := by decide
  have b4 : bits .and .i64 64 4 = 0 := by decide
  have b8 : bits .and .i64 64 8 = 0 := by decide
  have b16 : bits .and .i64 64 16 = 0 := by decide
  have b32 : bits .and .i64 64 32 = 0 := by decide
  have b64 : bits .and .i64 64 64 = 64 := by decide
  have b128 : bits .and .i64 64 128 = 0 := by decide
  have b256 : bits .and .i64 64 256 = 0 := by decide
  have T0 := Lib.hid (DR.start ha hbx h1 h2)
  have d1 := T0.out.cell 1 _ rfl
  obtain ⟨d1, -⟩ := d1
  have HLIM := Lib.hid hlim
  obtain ⟨x0, s1, g0⟩ : ∃ x t, rInt st = (x, t) := ⟨_, _, rfl⟩
  have hc0 := fun W (r : Rdr W lo pr st) => rInt_calls lo pr st W r
  rw [g0] at hc0
  have HFIN : Hid (rdFd ⟨z, 9, s, t, x, m, [], [], 0, 0, 0, 0, 0, (0, [])⟩ st = (⟨z, 9, s, t, x, m, [], [], 0, 0, 0, 0, x0, (0, [])⟩, s1)) := by show _ = _; simp [rdFd, g0]
  have HC0 := Lib.hid hc0
  simp only [dcells, pl0] at *
  clear ha hbx hlim hH hc0 g0
  go_enter Tryd.func39, Tryd.ntmps39
  go_wp2_with (fail)
  refine (HC0.out _ T0.out.a).mono ?_
  rintro e v0 ⟨rfl, a0, f0, -⟩
  have U0 := Lib.hid (T0.out.read a0 f0)
  clear a0 f0 T0
  have y := (cells_of U0.out.bx 12).1
  have n := (cells_of U0.out.bx 12).2
  simp only [List.getElem?_toArray, List.getElem?_cons_zero, List.getElem?_cons_succ] at y
  have T1 := Lib.hid (U0.out.set 12 (.int .i64 x0))
  simp only [List.setIfInBounds_toArray, List.set_cons_zero, List.set_cons_succ] at T1
  go_wp2_with (fail)
  clear y n
  go_end0
  refine ⟨rfl, ?_⟩
  rw [HFIN.out]
  exact ⟨pl0, T1.out, own_nil0 _ _, RdM.nil' _ _ _ _, rfl, rfl⟩
end Go.Proofs.YtljioepkbbbibaaDoor
