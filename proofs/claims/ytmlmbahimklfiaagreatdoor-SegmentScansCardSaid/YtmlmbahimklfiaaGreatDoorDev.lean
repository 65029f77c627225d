/-
  Dev: Det, Deu, Dev.
-/
import Derived.Test.YtmlmbahimklfiaaGreatDoorDei
import Derived.Deep.RegionHeld3
import Derived.Deep.AppendLies
import Derived.Deep.DrawnRows
import Derived.Deep.RegionLaw
/- Det -/
namespace Go.Proofs.YtmlmbahimklfiaaGreatDoor
open Go.RowKit

theorem rBytes_lim {st : RSt} {m : Int} (h : RLim st) : RLim (rBytes st m).2 := by
  unfold rBytes
  exact (tk_lim (rCount_lim h)).1
theorem own_by {M : Nat → Prop} {w w' : World} {base e size n : Nat} {v : Value} {xs : List Value} (h : w.ownsRow base e size v n xs) (hf : Fr M w w') (hm : ∀ g, v.ownBlock = some g → ¬ M g) : w'.ownsRow base e size v n xs :=
  own_keep h fun g hg => hf.block g (h.lt g hg).2 (hm g hg)
def ReadB (pr b : Nat) : Nat → Prop := fun k => k = pr ∨ k = b
/-- A reader, a deed's box behind it. -/
structure DR (w0 w : World) (lo pr b : Nat) (st : RSt) (cs : Array Value) : Prop where
  a : Rdr w lo pr st
  fr : Fr (ReadB pr b) w0 w
  bx : w.heap[b]? = some (.cells cs 31 (0, 0))
  lo1 : lo ≤ pr
  lo2 : pr < b
theorem DR.read {w0 w w1 : World} {lo pr b : Nat} {st st1 : RSt} {cs : Array Value} (h : DR w0 w lo pr b st cs) (a : Rdr w1 lo pr st1) (f : Fr (OneB pr) w w1) : DR w0 w1 lo pr b st1 cs :=
  ⟨a, h.fr.trans f (fun k _ hx => .inl hx), f.at_ h.bx (by have := h.lo2; simp only [OneB]; omega), h.lo1, h.lo2⟩
theorem DR.keep {w0 w w1 : World} {lo pr b : Nat} {st : RSt} {cs : Array Value} (h : DR w0 w lo pr b st cs) (f : Fr NoB w w1) : DR w0 w1 lo pr b st cs :=
  ⟨h.a.fr f (fun _ _ _ x => x) h.lo1, h.fr.trans f (fun _ _ x => x.elim), f.at_ h.bx (fun x => x), h.lo1, h.lo2⟩
theorem DR.set {w0 w : World} {lo pr b : Nat} {st : RSt} {cs : Array Value} (h : DR w0 w lo pr b st cs) (i : Nat) (u : Value) : DR w0 (w.setCell ⟨b, i, none⟩ u) lo pr b st (cs.setIfInBounds i u) := by
  have f : Fr (OneB b) w (w.setCell ⟨b, i, none⟩ u) := (Fr.refl (OneB b) w).setCell (p := ⟨b, i, none⟩) (fun _ => rfl) u
  exact ⟨h.a.fr f (fun k _ hk hx => by have := h.lo2; simp only [OneB] at hx; omega) h.lo1, h.fr.trans f (fun k _ hx => .inr hx), by rw [heap_set h.bx], h.lo1, h.lo2⟩
theorem DR.cell {w0 w : World} {lo pr b : Nat} {st : RSt} {cs : Array Value} (h : DR w0 w lo pr b st cs) (i : Nat) (v : Value) (hv : cs[i]? = some v) : w.cell? ⟨b, i, none⟩ = some v ∧ w.frozen? ⟨b, i, none⟩ = false := ⟨(cells_of h.bx i).1.trans hv, (cells_of h.bx i).2⟩
theorem DR.start {w : World} {lo pr b : Nat} {st : RSt} {cs : Array Value} (a : Rdr w lo pr st) (bx : w.heap[b]? = some (.cells cs 31 (0, 0))) (h1 : lo ≤ pr) (h2 : pr < b) : DR w w lo pr b st cs := ⟨a, Fr.refl _ _, bx, h1, h2⟩
/-- No lists. -/
def pl0 : Pl := ⟨none, 0, none, 0, none, 0⟩
/-- A deed that was read: its box, its lists. -/
structure Got (w0 w : World) (lo pr b : Nat) (st : RSt) (f : Fd) (pl : Pl) : Prop where
  r : DR w0 w lo pr b st (dcells f pl 0)
  d : w.ownsRow w0.heap.size 5 1 (.slice pl.A f.data.length pl.c) f.data.length (bv f.data)
  m : RdM w w0.heap.size w.heap.size pl.B f.c.2
  p : pl.P = none ∧ pl.e = 0
theorem own_nil0 (w : World) (B : Nat) : w.ownsRow B 5 1 (.slice none 0 0) 0 (bv []) := World.ownsRow_nil _ _ _ _
theorem RdM.nil' (w : World) (lo hi : Nat) (A : Option Addr) : RdM w lo hi A [] := fun h => absurd h (by simp)
set_option maxHeartbeats 3200000 in
set_option maxRecDepth 8000 in
theorem rd1_calls (f : Fd) (deep : Bool) (lo pr b : Nat) (st : RSt) (w : World) (hz : f = bareOf f) (ha : Rdr w lo pr st) (h1 : lo ≤ pr) (h2 : pr < b) (hbx : w.heap[b]? = some (.cells (dcells f pl0 0) 31 (0, 0))) (hlim : RLim st) (hH : Has w) (hk : f.k = 1) :
    Calls Tryz.prog 67 #[.pointer (some ⟨pr, 0, none⟩), .pointer (some ⟨b, 0, none⟩), .bool deep] w fun e w' => e = .returned (.tuple #[]) ∧ ∃ pl, Got w w' lo pr b (rdFd f st).2 (rdFd f st).1 pl := by
  obtain ⟨z, k, s, t, x, m, path, data, ow, ve, cv, ti, er, cver, ms⟩ := f
  simp only [bareOf, Fd.mk.injEq, Prod.mk.injEq, true_and] at hz
  obtain ⟨rfl, rfl, rfl, rfl, rfl, rfl, rfl, rfl, rfl⟩ := hz
  simp only at hk
  subst hk
  have hcell : w.cell? ⟨0, 1, none⟩ = some (.int .i64 23) := hH.2 1 (by decide)
  have b1 : bits .and .i64 23 1 = 1 := by decide
  have b2 : bits .and .i64 23 2 = 2 := by decide
  have b4 : bits .and .i64 23 4 = 4 := by decide
  have b8 : bits .and .i64 23 8 = 0 := by decide
  have b16 : bits .and .i64 23 16 = 16 := by decide
  have b32 : bits .and .i64 23 32 = 0 := by decide
  have b64 : bits .and .i64 23 64 = 0 := by decide
  have b128 : bits .and .i64 23 128 = 0 := by decide
  have b256 : bits .and .i64 23 256 = 0 := by decide
  have T0 := Lib.hid (DR.start ha hbx h1 h2)
  have d1 := T0.out.cell 1 _ rfl
  obtain ⟨d1, -⟩ := d1
  have HLIM := Lib.hid hlim
  obtain ⟨x0, s1, g0⟩ : ∃ x t, rBytes st 200 = (x, t) := ⟨_, _, rfl⟩
  have hc0 := fun W (r : Rdr W lo pr st) => rText_calls lo pr st 200 W r
  rw [g0] at hc0
  have hlim1 : RLim s1 := by have := rBytes_lim (m := 200) hlim; rw [g0] at this; exact this
  obtain ⟨x1, s2, g1⟩ : ∃ x t, rBytes s1 1000 = (x, t) := ⟨_, _, rfl⟩
  have hc1 := fun W (r : Rdr W lo pr s1) => rBytes_calls lo pr s1 1000 W r h1 hlim1
  rw [g1] at hc1
  obtain ⟨x2, s3, g2⟩ : ∃ x t, rInt s2 = (x, t) := ⟨_, _, rfl⟩
  have hc2 := fun W (r : Rdr W lo pr s2) => rInt_calls lo pr s2 W r
  rw [g2] at hc2
  obtain ⟨x3, s4, g3⟩ : ∃ x t, rInt s3 = (x, t) := ⟨_, _, rfl⟩
  have hc3 := fun W (r : Rdr W lo pr s3) => rInt_calls lo pr s3 W r
  rw [g3] at hc3
  have HFIN : Hid (rdFd ⟨z, 1, s, t, x, m, [], [], 0, 0, 0, 0, 0, (0, [])⟩ st = (⟨z, 1, s, t, x, m, x0, x1, x2, 0, x3, 0, 0, (0, [])⟩, s4)) := by show _ = _; simp [rdFd, g0, g1, g2, g3]
  have HC0 := Lib.hid hc0
  have HC1 := Lib.hid hc1
  have HC2 := Lib.hid hc2
  have HC3 := Lib.hid hc3
  simp only [dcells, pl0] at *
  clear ha hbx hlim hH hc0 hc1 hc2 hc3 g0 g1 g2 g3 hlim1
  go_enter Tryz.func67, Tryz.ntmps67
  go_wp2_with (fail)
  refine (HC0.out _ T0.out.a).mono ?_
  rintro e v0 ⟨rfl, a0, f0, -⟩
  have U0 := Lib.hid (T0.out.read a0 f0)
  clear a0 f0 T0
  have y := (cells_of U0.out.bx 6).1
  have n := (cells_of U0.out.bx 6).2
  simp only [List.getElem?_toArray, List.getElem?_cons_zero, List.getElem?_cons_succ] at y
  have T1 := Lib.hid (U0.out.set 6 (.string ⟨x0.toArray⟩))
  simp only [List.setIfInBounds_toArray, List.set_cons_zero, List.set_cons_succ] at T1
  go_wp2_with (fail)
  clear y n
  generalize v0.setCell ⟨b, 6, none⟩ (.string ⟨x0.toArray⟩) = t0 at *
  refine (HC1.out _ T1.out.a).mono ?_
  rintro e v1 ⟨y1, rfl, o1, a1, f1⟩
  obtain ⟨DA, dc, rfl, -, -⟩ := own_form o1
  have HO := Lib.hid (own_low o1 T1.out.fr.size)
  have U1 := Lib.hid (T1.out.read a1 f1)
  have HDB := Lib.hid (fun g (hg : (Value.slice DA x1.length dc).ownBlock = some g) => Nat.ne_of_gt (Nat.lt_of_lt_of_le (Lib.lt_of_heap T1.out.bx) (o1.lt g hg).1))
  have HDP := Lib.hid (fun g (hg : (Value.slice DA x1.length dc).ownBlock = some g) => Nat.ne_of_gt (Nat.lt_of_lt_of_le (Nat.lt_trans h2 (Lib.lt_of_heap T1.out.bx)) (o1.lt g hg).1))
  clear a1 f1 o1 T1
  have y := (cells_of U1.out.bx 7).1
  have n := (cells_of U1.out.bx 7).2
  simp only [List.getElem?_toArray, List.getElem?_cons_zero, List.getElem?_cons_succ] at y
  have T2 := Lib.hid (U1.out.set 7 (.slice DA x1.length dc))
  simp only [List.setIfInBounds_toArray, List.set_cons_zero, List.set_cons_succ] at T2
  have HOs1 := Lib.hid (own_by HO.out ((Fr.refl (OneB b) v1).setCell (p := ⟨b, 7, none⟩) (fun _ => rfl) (.slice DA x1.length dc)) (fun g hg hx => HDB.out g hg hx))
  clear HO
  go_wp2_with (fail)
  clear y n
  generalize v1.setCell ⟨b, 7, none⟩ (.slice DA x1.length dc) = t1 at *
  refine (HC2.out _ T2.out.a).mono ?_
  rintro e v2 ⟨rfl, a2, f2, -⟩
  have U2 := Lib.hid (T2.out.read a2 f2)
  have HO2 := Lib.hid (own_by HOs1.out f2 (fun g hg hx => HDP.out g hg hx))
  clear HOs1
  clear a2 f2 T2
  have y := (cells_of U2.out.bx 8).1
  have n := (cells_of U2.out.bx 8).2
  simp only [List.getElem?_toArray, List.getElem?_cons_zero, List.getElem?_cons_succ] at y
  have T3 := Lib.hid (U2.out.set 8 (.int .i64 x2))
  simp only [List.setIfInBounds_toArray, List.set_cons_zero, List.set_cons_succ] at T3
  have HOs2 := Lib.hid (own_by HO2.out ((Fr.refl (OneB b) v2).setCell (p := ⟨b, 8, none⟩) (fun _ => rfl) (.int .i64 x2)) (fun g hg hx => HDB.out g hg hx))
  clear HO2
  go_wp2_with (fail)
  clear y n
  generalize v2.setCell ⟨b, 8, none⟩ (.int .i64 x2) = t2 at *
  refine (HC3.out _ T3.out.a).mono ?_
  rintro e v3 ⟨rfl, a3, f3, -⟩
  have U3 := Lib.hid (T3.out.read a3 f3)
  have HO3 := Lib.hid (own_by HOs2.out f3 (fun g hg hx => HDP.out g hg hx))
  clear HOs2
  clear a3 f3 T3
  have y := (cells_of U3.out.bx 10).1
  have n := (cells_of U3.out.bx 10).2
  simp only [List.getElem?_toArray, List.getElem?_cons_zero, List.getElem?_cons_succ] at y
  have T4 := Lib.hid (U3.out.set 10 (.int .i64 x3))
  simp only [List.setIfInBounds_toArray, List.set_cons_zero, List.set_cons_succ] at T4
  have HOs3 := Lib.hid (own_by HO3.out ((Fr.refl (OneB b) v3).setCell (p := ⟨b, 10, none⟩) (fun _ => rfl) (.int .i64 x3)) (fun g hg hx => HDB.out g hg hx))
  clear HO3
  go_wp2_with (fail)
  clear y n
  go_end0
  refine ⟨rfl, ?_⟩
  rw [HFIN.out]
  exact ⟨⟨DA, dc, none, 0, none, 0⟩, T4.out, HOs3.out, RdM.nil' _ _ _ _, rfl, rfl⟩
set_option maxHeartbeats 3200000 in
set_option maxRecDepth 8000 in
theorem rd2_calls (f : Fd) (deep : Bool) (lo pr b : Nat) (st : RSt) (w : World) (hz : f = bareOf f) (ha : Rdr w lo pr st) (h1 : lo ≤ pr) (h2 : pr < b) (hbx : w.heap[b]? = some (.cells (dcells f pl0 0) 31 (0, 0))) (hlim : RLim st) (hH : Has w) (hk : f.k = 2) :
    Calls Tryz.prog 67 #[.pointer (some ⟨pr, 0, none⟩), .pointer (some ⟨b, 0, none⟩), .bool deep] w fun e w' => e = .returned (.tuple #[]) ∧ ∃ pl, Got w w' lo pr b (rdFd f st).2 (rdFd f st).1 pl := by
  obtain ⟨z, k, s, t, x, m, path, data, ow, ve, cv, ti, er, cver, ms⟩ := f
  simp only [bareOf, Fd.mk.injEq, Prod.mk.injEq, true_and] at hz
  obtain ⟨rfl, rfl, rfl, rfl, rfl, rfl, rfl, rfl, rfl⟩ := hz
  simp only at hk
  subst hk
  have hcell : w.cell? ⟨0, 2, none⟩ = some (.int .i64 17) := hH.2 2 (by decide)
  have b1 : bits .and .i64 17 1 = 1 := by decide
  have b2 : bits .and .i64 17 2 = 0 := by decide
  have b4 : bits .and .i64 17 4 = 0 := by decide
  have b8 : bits .and .i64 17 8 = 0 := by decide
  have b16 : bits .and .i64 17 16 = 16 := by decide
  have b32 : bits .and .i64 17 32 = 0 := by decide
  have b64 : bits .and .i64 17 64 = 0 := by decide
  have b128 : bits .and .i64 17 128 = 0 := by decide
  have b256 : bits .and .i64 17 256 = 0 := by decide
  have T0 := Lib.hid (DR.start ha hbx h1 h2)
  have d1 := T0.out.cell 1 _ rfl
  obtain ⟨d1, -⟩ := d1
  have HLIM := Lib.hid hlim
  obtain ⟨x0, s1, g0⟩ : ∃ x t, rBytes st 200 = (x, t) := ⟨_, _, rfl⟩
  have hc0 := fun W (r : Rdr W lo pr st) => rText_calls lo pr st 200 W r
  rw [g0] at hc0
  have hlim1 : RLim s1 := by have := rBytes_lim (m := 200) hlim; rw [g0] at this; exact this
  obtain ⟨x1, s2, g1⟩ : ∃ x t, rInt s1 = (x, t) := ⟨_, _, rfl⟩
  have hc1 := fun W (r : Rdr W lo pr s1) => rInt_calls lo pr s1 W r
  rw [g1] at hc1
  have HFIN : Hid (rdFd ⟨z, 2, s, t, x, m, [], [], 0, 0, 0, 0, 0, (0, [])⟩ st = (⟨z, 2, s, t, x, m, x0, [], 0, 0, x1, 0, 0, (0, [])⟩, s2)) := by show _ = _; simp [rdFd, g0, g1]
  have HC0 := Lib.hid hc0
  have HC1 := Lib.hid hc1
  simp only [dcells, pl0] at *
  clear ha hbx hlim hH hc0 hc1 g0 g1 hlim1
  go_enter Tryz.func67, Tryz.ntmps67
  go_wp2_with (fail)
  refine (HC0.out _ T0.out.a).mono ?_
  rintro e v0 ⟨rfl, a0, f0, -⟩
  have U0 := Lib.hid (T0.out.read a0 f0)
  clear a0 f0 T0
  have y := (cells_of U0.out.bx 6).1
  have n := (cells_of U0.out.bx 6).2
  simp only [List.getElem?_toArray, List.getElem?_cons_zero, List.getElem?_cons_succ] at y
  have T1 := Lib.hid (U0.out.set 6 (.string ⟨x0.toArray⟩))
  simp only [List.setIfInBounds_toArray, List.set_cons_zero, List.set_cons_succ] at T1
  go_wp2_with (fail)
  clear y n
  generalize v0.setCell ⟨b, 6, none⟩ (.string ⟨x0.toArray⟩) = t0 at *
  refine (HC1.out _ T1.out.a).mono ?_
  rintro e v1 ⟨rfl, a1, f1, -⟩
  have U1 := Lib.hid (T1.out.read a1 f1)
  clear a1 f1 T1
  have y := (cells_of U1.out.bx 10).1
  have n := (cells_of U1.out.bx 10).2
  simp only [List.getElem?_toArray, List.getElem?_cons_zero, List.getElem?_cons_succ] at y
  have T2 := Lib.hid (U1.out.set 10 (.int .i64 x1))
  simp only [List.setIfInBounds_toArray, List.set_cons_zero, List.set_cons_succ] at T2
  go_wp2_with (fail)
  clear y n
  go_end0
  refine ⟨rfl, ?_⟩
  rw [HFIN.out]
  exact ⟨pl0, T2.out, own_nil0 _ _, RdM.nil' _ _ _ _, rfl, rfl⟩
set_option maxHeartbeats 3200000 in
set_option maxRecDepth 8000 in
theorem rd3_calls (f : Fd) (deep : Bool) (lo pr b : Nat) (st : RSt) (w : World) (hz : f = bareOf f) (ha : Rdr w lo pr st) (h1 : lo ≤ pr) (h2 : pr < b) (hbx : w.heap[b]? = some (.cells (dcells f pl0 0) 31 (0, 0))) (hlim : RLim st) (hH : Has w) (hk : f.k = 3) :
    Calls Tryz.prog 67 #[.pointer (some ⟨pr, 0, none⟩), .pointer (some ⟨b, 0, none⟩), .bool deep] w fun e w' => e = .returned (.tuple #[]) ∧ ∃ pl, Got w w' lo pr b (rdFd f st).2 (rdFd f st).1 pl := by
  obtain ⟨z, k, s, t, x, m, path, data, ow, ve, cv, ti, er, cver, ms⟩ := f
  simp only [bareOf, Fd.mk.injEq, Prod.mk.injEq, true_and] at hz
  obtain ⟨rfl, rfl, rfl, rfl, rfl, rfl, rfl, rfl, rfl⟩ := hz
  simp only at hk
  subst hk
  have hcell : w.cell? ⟨0, 3, none⟩ = some (.int .i64 11) := hH.2 3 (by decide)
  have b1 : bits .and .i64 11 1 = 1 := by decide
  have b2 : bits .and .i64 11 2 = 2 := by decide
  have b4 : bits .and .i64 11 4 = 0 := by decide
  have b8 : bits .and .i64 11 8 = 8 := by decide
  have b16 : bits .and .i64 11 16 = 0 := by decide
  have b32 : bits .and .i64 11 32 = 0 := by decide
  have b64 : bits .and .i64 11 64 = 0 := by decide
  have b128 : bits .and .i64 11 128 = 0 := by decide
  have b256 : bits .and .i64 11 256 = 0 := by decide
  have T0 := Lib.hid (DR.start ha hbx h1 h2)
  have d1 := T0.out.cell 1 _ rfl
  obtain ⟨d1, -⟩ := d1
  have HLIM := Lib.hid hlim
  obtain ⟨x0, s1, g0⟩ : ∃ x t, rBytes st 200 = (x, t) := ⟨_, _, rfl⟩
  have hc0 := fun W (r : Rdr W lo pr st) => rText_calls lo pr st 200 W r
  rw [g0] at hc0
  have hlim1 : RLim s1 := by have := rBytes_lim (m := 200) hlim; rw [g0] at this; exact this
  obtain ⟨x1, s2, g1⟩ : ∃ x t, rBytes s1 1000 = (x, t) := ⟨_, _, rfl⟩
  have hc1 := fun W (r : Rdr W lo pr s1) => rBytes_calls lo pr s1 1000 W r h1 hlim1
  rw [g1] at hc1
  obtain ⟨x2, s3, g2⟩ : ∃ x t, rInt s2 = (x, t) := ⟨_, _, rfl⟩
  have hc2 := fun W (r : Rdr W lo pr s2) => rInt_calls lo pr s2 W r
  rw [g2] at hc2
  have HFIN : Hid (rdFd ⟨z, 3, s, t, x, m, [], [], 0, 0, 0, 0, 0, (0, [])⟩ st = (⟨z, 3, s, t, x, m, x0, x1, 0, x2, 0, 0, 0, (0, [])⟩, s3)) := by show _ = _; simp [rdFd, g0, g1, g2]
  have HC0 := Lib.hid hc0
  have HC1 := Lib.hid hc1
  have HC2 := Lib.hid hc2
  simp only [dcells, pl0] at *
  clear ha hbx hlim hH hc0 hc1 hc2 g0 g1 g2 hlim1
  go_enter Tryz.func67, Tryz.ntmps67
  go_wp2_with (fail)
  refine (HC0.out _ T0.out.a).mono ?_
  rintro e v0 ⟨rfl, a0, f0, -⟩
  have U0 := Lib.hid (T0.out.read a0 f0)
  clear a0 f0 T0
  have y := (cells_of U0.out.bx 6).1
  have n := (cells_of U0.out.bx 6).2
  simp only [List.getElem?_toArray, List.getElem?_cons_zero, List.getElem?_cons_succ] at y
  have T1 := Lib.hid (U0.out.set 6 (.string ⟨x0.toArray⟩))
  simp only [List.setIfInBounds_toArray, List.set_cons_zero, List.set_cons_succ] at T1
  go_wp2_with (fail)
  clear y n
  generalize v0.setCell ⟨b, 6, none⟩ (.string ⟨x0.toArray⟩) = t0 at *
  refine (HC1.out _ T1.out.a).mono ?_
  rintro e v1 ⟨y1, rfl, o1, a1, f1⟩
  obtain ⟨DA, dc, rfl, -, -⟩ := own_form o1
  have HO := Lib.hid (own_low o1 T1.out.fr.size)
  have U1 := Lib.hid (T1.out.read a1 f1)
  have HDB := Lib.hid (fun g (hg : (Value.slice DA x1.length dc).ownBlock = some g) => Nat.ne_of_gt (Nat.lt_of_lt_of_le (Lib.lt_of_heap T1.out.bx) (o1.lt g hg).1))
  have HDP := Lib.hid (fun g (hg : (Value.slice DA x1.length dc).ownBlock = some g) => Nat.ne_of_gt (Nat.lt_of_lt_of_le (Nat.lt_trans h2 (Lib.lt_of_heap T1.out.bx)) (o1.lt g hg).1))
  clear a1 f1 o1 T1
  have y := (cells_of U1.out.bx 7).1
  have n := (cells_of U1.out.bx 7).2
  simp only [List.getElem?_toArray, List.getElem?_cons_zero, List.getElem?_cons_succ] at y
  have T2 := Lib.hid (U1.out.set 7 (.slice DA x1.length dc))
  simp only [List.setIfInBounds_toArray, List.set_cons_zero, List.set_cons_succ] at T2
  have HOs1 := Lib.hid (own_by HO.out ((Fr.refl (OneB b) v1).setCell (p := ⟨b, 7, none⟩) (fun _ => rfl) (.slice DA x1.length dc)) (fun g hg hx => HDB.out g hg hx))
  clear HO
  go_wp2_with (fail)
  clear y n
  generalize v1.setCell ⟨b, 7, none⟩ (.slice DA x1.length dc) = t1 at *
  refine (HC2.out _ T2.out.a).mono ?_
  rintro e v2 ⟨rfl, a2, f2, -⟩
  have U2 := Lib.hid (T2.out.read a2 f2)
  have HO2 := Lib.hid (own_by HOs1.out f2 (fun g hg hx => HDP.out g hg hx))
  clear HOs1
  clear a2 f2 T2
  have y := (cells_of U2.out.bx 9).1
  have n := (cells_of U2.out.bx 9).2
  simp only [List.getElem?_toArray, List.getElem?_cons_zero, List.getElem?_cons_succ] at y
  have T3 := Lib.hid (U2.out.set 9 (.int .i64 x2))
  simp only [List.setIfInBounds_toArray, List.set_cons_zero, List.set_cons_succ] at T3
  have HOs2 := Lib.hid (own_by HO2.out ((Fr.refl (OneB b) v2).setCell (p := ⟨b, 9, none⟩) (fun _ => rfl) (.int .i64 x2)) (fun g hg hx => HDB.out g hg hx))
  clear HO2
  go_wp2_with (fail)
  clear y n
  go_end0
  refine ⟨rfl, ?_⟩
  rw [HFIN.out]
  exact ⟨⟨DA, dc, none, 0, none, 0⟩, T3.out, HOs2.out, RdM.nil' _ _ _ _, rfl, rfl⟩
set_option maxHeartbeats 3200000 in
set_option maxRecDepth 8000 in
theorem rd4_calls (f : Fd) (deep : Bool) (lo pr b : Nat) (st : RSt) (w : World) (hz : f = bareOf f) (ha : Rdr w lo pr st) (h1 : lo ≤ pr) (h2 : pr < b) (hbx : w.heap[b]? = some (.cells (dcells f pl0 0) 31 (0, 0))) (hlim : RLim st) (hH : Has w) (hk : f.k = 4) :
    Calls Tryz.prog 67 #[.pointer (some ⟨pr, 0, none⟩), .pointer (some ⟨b, 0, none⟩), .bool deep] w fun e w' => e = .returned (.tuple #[]) ∧ ∃ pl, Got w w' lo pr b (rdFd f st).2 (rdFd f st).1 pl := by
  obtain ⟨z, k, s, t, x, m, path, data, ow, ve, cv, ti, er, cver, ms⟩ := f
  simp only [bareOf, Fd.mk.injEq, Prod.mk.injEq, true_and] at hz
  obtain ⟨rfl, rfl, rfl, rfl, rfl, rfl, rfl, rfl, rfl⟩ := hz
  simp only at hk
  subst hk
  have hcell : w.cell? ⟨0, 4, none⟩ = some (.int .i64 32) := hH.2 4 (by decide)
  have b1 : bits .and .i64 32 1 = 0 := by decide
  have b2 : bits .and .i64 32 2 = 0 := by decide
  have b4 : bits .and .i64 32 4 = 0 := by decide
  have b8 : bits .and .i64 32 8 = 0 := by decide
  have b16 : bits .and .i64 32 16 = 0 := by decide
  have b32 : bits .and .i64 32 32 = 32 := by decide
  have b64 : bits .and .i64 32 64 = 0 := by decide
  have b128 : bits .and .i64 32 128 = 0 := by decide
  have b256 : bits .and .i64 32 256 = 0 := by decide
  have T0 := Lib.hid (DR.start ha hbx h1 h2)
  have d1 := T0.out.cell 1 _ rfl
  obtain ⟨d1, -⟩ := d1
  have HLIM := Lib.hid hlim
  obtain ⟨x0, s1, g0⟩ : ∃ x t, rInt st = (x, t) := ⟨_, _, rfl⟩
  have hc0 := fun W (r : Rdr W lo pr st) => rInt_calls lo pr st W r
  rw [g0] at hc0
  have HFIN : Hid (rdFd ⟨z, 4, s, t, x, m, [], [], 0, 0, 0, 0, 0, (0, [])⟩ st = (⟨z, 4, s, t, x, m, [], [], 0, 0, 0, x0, 0, (0, [])⟩, s1)) := by show _ = _; simp [rdFd, g0]
  have HC0 := Lib.hid hc0
  simp only [dcells, pl0] at *
  clear ha hbx hlim hH hc0 g0
  go_enter Tryz.func67, Tryz.ntmps67
  go_wp2_with (fail)
  refine (HC0.out _ T0.out.a).mono ?_
  rintro e v0 ⟨rfl, a0, f0, -⟩
  have U0 := Lib.hid (T0.out.read a0 f0)
  clear a0 f0 T0
  have y := (cells_of U0.out.bx 11).1
  have n := (cells_of U0.out.bx 11).2
  simp only [List.getElem?_toArray, List.getElem?_cons_zero, List.getElem?_cons_succ] at y
  have T1 := Lib.hid (U0.out.set 11 (.int .i64 x0))
  simp only [List.setIfInBounds_toArray, List.set_cons_zero, List.set_cons_succ] at T1
  go_wp2_with (fail)
  clear y n
  go_end0
  refine ⟨rfl, ?_⟩
  rw [HFIN.out]
  exact ⟨pl0, T1.out, own_nil0 _ _, RdM.nil' _ _ _ _, rfl, rfl⟩
set_option maxHeartbeats 3200000 in
set_option maxRecDepth 8000 in
theorem rd5_calls (f : Fd) (deep : Bool) (lo pr b : Nat) (st : RSt) (w : World) (hz : f = bareOf f) (ha : Rdr w lo pr st) (h1 : lo ≤ pr) (h2 : pr < b) (hbx : w.heap[b]? = some (.cells (dcells f pl0 0) 31 (0, 0))) (hlim : RLim st) (hH : Has w) (hdp : deep = false) (hk : f.k = 5) :
    Calls Tryz.prog 67 #[.pointer (some ⟨pr, 0, none⟩), .pointer (some ⟨b, 0, none⟩), .bool deep] w fun e w' => e = .returned (.tuple #[]) ∧ ∃ pl, Got w w' lo pr b (rdFd f st).2 (rdFd f st).1 pl := by
  obtain ⟨z, k, s, t, x, m, path, data, ow, ve, cv, ti, er, cver, ms⟩ := f
  simp only [bareOf, Fd.mk.injEq, Prod.mk.injEq, true_and] at hz
  obtain ⟨rfl, rfl, rfl, rfl, rfl, rfl, rfl, rfl, rfl⟩ := hz
  simp only at hk
  subst hk
  have hcell : w.cell? ⟨0, 5, none⟩ = some (.int .i64 260) := hH.2 5 (by decide)
  have b1 : bits .and .i64 260 1 = 0 := by decide
  have b2 : bits .and .i64 260 2 = 0 := by decide
  have b4 : bits .and .i64 260 4 = 4 := by decide
  have b8 : bits .and .i64 260 8 = 0 := by decide
  have b16 : bits .and .i64 260 16 = 0 := by decide
  have b32 : bits .and .i64 260 32 = 0 := by decide
  have b64 : bits .and .i64 260 64 = 0 := by decide
  have b128 : bits .and .i64 260 128 = 0 := by decide
  have b256 : bits .and .i64 260 256 = 256 := by decide
  have T0 := Lib.hid (DR.start ha hbx h1 h2)
  have d1 := T0.out.cell 1 _ rfl
  obtain ⟨d1, -⟩ := d1
  have HLIM := Lib.hid hlim
  subst hdp
  obtain ⟨x0, s1, g0⟩ : ∃ x t, rInt st = (x, t) := ⟨_, _, rfl⟩
  have hc0 := fun W (r : Rdr W lo pr st) => rInt_calls lo pr st W r
  rw [g0] at hc0
  have HFIN : Hid (rdFd ⟨z, 5, s, t, x, m, [], [], 0, 0, 0, 0, 0, (0, [])⟩ st = (⟨z, 5, s, t, x, m, [], [], x0, 0, 0, 0, 0, (0, [])⟩, s1)) := by show _ = _; simp [rdFd, g0]
  have HC0 := Lib.hid hc0
  simp only [dcells, pl0] at *
  clear ha hbx hlim hH hc0 g0
  go_enter Tryz.func67, Tryz.ntmps67
  go_wp2_with (fail)
  refine (HC0.out _ T0.out.a).mono ?_
  rintro e v0 ⟨rfl, a0, f0, -⟩
  have U0 := Lib.hid (T0.out.read a0 f0)
  clear a0 f0 T0
  have y := (cells_of U0.out.bx 8).1
  have n := (cells_of U0.out.bx 8).2
  simp only [List.getElem?_toArray, List.getElem?_cons_zero, List.getElem?_cons_succ] at y
  have T1 := Lib.hid (U0.out.set 8 (.int .i64 x0))
  simp only [List.setIfInBounds_toArray, List.set_cons_zero, List.set_cons_succ] at T1
  go_wp2_with (fail)
  clear y n
  go_end0
  refine ⟨rfl, ?_⟩
  rw [HFIN.out]
  exact ⟨pl0, T1.out, own_nil0 _ _, RdM.nil' _ _ _ _, rfl, rfl⟩
set_option maxHeartbeats 3200000 in
set_option maxRecDepth 8000 in
theorem rd6_calls (f : Fd) (deep : Bool) (lo pr b : Nat) (st : RSt) (w : World) (hz : f = bareOf f) (ha : Rdr w lo pr st) (h1 : lo ≤ pr) (h2 : pr < b) (hbx : w.heap[b]? = some (.cells (dcells f pl0 0) 31 (0, 0))) (hlim : RLim st) (hH : Has w) (hk : f.k = 6) :
    Calls Tryz.prog 67 #[.pointer (some ⟨pr, 0, none⟩), .pointer (some ⟨b, 0, none⟩), .bool deep] w fun e w' => e = .returned (.tuple #[]) ∧ ∃ pl, Got w w' lo pr b (rdFd f st).2 (rdFd f st).1 pl := by
  obtain ⟨z, k, s, t, x, m, path, data, ow, ve, cv, ti, er, cver, ms⟩ := f
  simp only [bareOf, Fd.mk.injEq, Prod.mk.injEq, true_and] at hz
  obtain ⟨rfl, rfl, rfl, rfl, rfl, rfl, rfl, rfl, rfl⟩ := hz
  simp only at hk
  subst hk
  have hcell : w.cell? ⟨0, 6, none⟩ = some (.int .i64 0) := hH.2 6 (by decide)
  have b1 : bits .and .i64 0 1 = 0 := by decide
  have b2 : bits .and .i64 0 2 = 0 := by decide
  have b4 : bits .and .i64 0 4 = 0 := by decide
  have b8 : bits .and .i64 0 8 = 0 := by decide
  have b16 : bits .and .i64 0 16 = 0 := by decide
  have b32 : bits .and .i64 0 32 = 0 := by decide
  have b64 : bits .and .i64 0 64 = 0 := by decide
  have b128 : bits .and .i64 0 128 = 0 := by decide
  have b256 : bits .and .i64 0 256 = 0 := by decide
  have T0 := Lib.hid (DR.start ha hbx h1 h2)
  have d1 := T0.out.cell 1 _ rfl
  obtain ⟨d1, -⟩ := d1
  have HLIM := Lib.hid hlim
  have HFIN : Hid (rdFd ⟨z, 6, s, t, x, m, [], [], 0, 0, 0, 0, 0, (0, [])⟩ st = (⟨z, 6, s, t, x, m, [], [], 0, 0, 0, 0, 0, (0, [])⟩, st)) := by show _ = _; simp [rdFd]
  simp only [dcells, pl0] at *
  clear ha hbx hlim hH 
  go_enter Tryz.func67, Tryz.ntmps67
  go_wp2_with (fail)
  go_end0
  refine ⟨rfl, ?_⟩
  rw [HFIN.out]
  exact ⟨pl0, T0.out, own_nil0 _ _, RdM.nil' _ _ _ _, rfl, rfl⟩
set_option maxHeartbeats 3200000 in
set_option maxRecDepth 8000 in
theorem rd8_calls (f : Fd) (deep : Bool) (lo pr b : Nat) (st : RSt) (w : World) (hz : f = bareOf f) (ha : Rdr w lo pr st) (h1 : lo ≤ pr) (h2 : pr < b) (hbx : w.heap[b]? = some (.cells (dcells f pl0 0) 31 (0, 0))) (hlim : RLim st) (hH : Has w) (hdp : deep = false) (hk : f.k = 8) :
    Calls Tryz.prog 67 #[.pointer (some ⟨pr, 0, none⟩), .pointer (some ⟨b, 0, none⟩), .bool deep] w fun e w' => e = .returned (.tuple #[]) ∧ ∃ pl, Got w w' lo pr b (rdFd f st).2 (rdFd f st).1 pl := by
  obtain ⟨z, k, s, t, x, m, path, data, ow, ve, cv, ti, er, cver, ms⟩ := f
  simp only [bareOf, Fd.mk.injEq, Prod.mk.injEq, true_and] at hz
  obtain ⟨rfl, rfl, rfl, rfl, rfl, rfl, rfl, rfl, rfl⟩ := hz
  simp only at hk
  subst hk
  have hcell : w.cell? ⟨0, 8, none⟩ = some (.int .i64 256) := hH.2 8 (by decide)
  have b1 : bits .and .i64 256 1 = 0 := by decide
  have b2 : bits .and .i64 256 2 = 0 := by decide
  have b4 : bits .and .i64 256 4 = 0 := by decide
  have b8 : bits .and .i64 256 8 = 0 := by decide
  have b16 : bits .and .i64 256 16 = 0 := by decide
  have b32 : bits .and .i64 256 32 = 0 := by decide
  have b64 : bits .and .i64 256 64 = 0 := by decide
  have b128 : bits .and .i64 256 128 = 0 := by decide
  have b256 : bits .and .i64 256 256 = 256 := by decide
  have T0 := Lib.hid (DR.start ha hbx h1 h2)
  have d1 := T0.out.cell 1 _ rfl
  obtain ⟨d1, -⟩ := d1
  have HLIM := Lib.hid hlim
  subst hdp
  have HFIN : Hid (rdFd ⟨z, 8, s, t, x, m, [], [], 0, 0, 0, 0, 0, (0, [])⟩ st = (⟨z, 8, s, t, x, m, [], [], 0, 0, 0, 0, 0, (0, [])⟩, st)) := by show _ = _; simp [rdFd]
  simp only [dcells, pl0] at *
  clear ha hbx hlim hH 
  go_enter Tryz.func67, Tryz.ntmps67
  go_wp2_with (fail)
  go_end0
  refine ⟨rfl, ?_⟩
  rw [HFIN.out]
  exact ⟨pl0, T0.out, own_nil0 _ _, RdM.nil' _ _ _ _, rfl, rfl⟩
set_option maxHeartbeats 3200000 in
set_option maxRecDepth 8000 in
theorem rd9_calls (f : Fd) (deep : Bool) (lo pr b : Nat) (st : RSt) (w : World) (hz : f = bareOf f) (ha : Rdr w lo pr st) (h1 : lo ≤ pr) (h2 : pr < b) (hbx : w.heap[b]? = some (.cells (dcells f pl0 0) 31 (0, 0))) (hlim : RLim st) (hH : Has w) (hk : f.k = 9) :
    Calls Tryz.prog 67 #[.pointer (some ⟨pr, 0, none⟩), .pointer (some ⟨b, 0, none⟩), .bool deep] w fun e w' => e = .returned (.tuple #[]) ∧ ∃ pl, Got w w' lo pr b (rdFd f st).2 (rdFd f st).1 pl := by
  obtain ⟨z, k, s, t, x, m, path, data, ow, ve, cv, ti, er, cver, ms⟩ := f
  simp only [bareOf, Fd.mk.injEq, Prod.mk.injEq, true_and] at hz
  obtain ⟨rfl, rfl, rfl, rfl, rfl, rfl, rfl, rfl, rfl⟩ := hz
  simp only at hk
  subst hk
  have hcell : w.cell? ⟨0, 9, none⟩ = some (.int .i64 64) := hH.2 9 (by decide)
  have b1 : bits .and .i64 64 1 = 0 := by decide
  have b2 : bits .and .i64 64 2 = 0 := by decide
  have b4 : bits .and .i64 64 4 = 0 := by decide
  have b8 : bits .and .i64 64 8 = 0 := by decide
  have b16 : bits .and .i64 64 16 = 0 := by decide
  have b32 : bits .and .i64 64 32 = 0 := by decide
  have b64 : bits .and .i64 64 64 = 64 := by decide
  have b128 : bits .and .i64 64 128 = 0 := by decide
  have b256 : bits .and .i64 64 256 = 0 := by decide
  have T0 := Lib.hid (DR.start ha hbx h1 h2)
  have d1 := T0.out.cell 1 _ rfl
  obtain ⟨d1, -⟩ := d1
  have HLIM := Lib.hid hlim
  obtain ⟨x0, s1, g0⟩ : ∃ x t, rInt st = (x, t) := ⟨_, _, rfl⟩
  have hc0 := fun W (r : Rdr W lo pr st) => rInt_calls lo pr st W r
  rw [g0] at hc0
  have HFIN : Hid (rdFd ⟨z, 9, s, t, x, m, [], [], 0, 0, 0, 0, 0, (0, [])⟩ st = (⟨z, 9, s, t, x, m, [], [], 0, 0, 0, 0, x0, (0, [])⟩, s1)) := by show _ = _; simp [rdFd, g0]
  have HC0 := Lib.hid hc0
  simp only [dcells, pl0] at *
  clear ha hbx hlim hH hc0 g0
  go_enter Tryz.func67, Tryz.ntmps67
  go_wp2_with (fail)
  refine (HC0.out _ T0.out.a).mono ?_
  rintro e v0 ⟨rfl, a0, f0, -⟩
  have U0 := Lib.hid (T0.out.read a0 f0)
  clear a0 f0 T0
  have y := (cells_of U0.out.bx 12).1
  have n := (cells_of U0.out.bx 12).2
  simp only [List.getElem?_toArray, List.getElem?_cons_zero, List.getElem?_cons_succ] at y
  have T1 := Lib.hid (U0.out.set 12 (.int .i64 x0))
  simp only [List.setIfInBounds_toArray, List.set_cons_zero, List.set_cons_succ] at T1
  go_wp2_with (fail)
  clear y n
  go_end0
  refine ⟨rfl, ?_⟩
  rw [HFIN.out]
  exact ⟨pl0, T1.out, own_nil0 _ _, RdM.nil' _ _ _ _, rfl, rfl⟩
end Go.Proofs.YtmlmbahimklfiaaGreatDoor

/- Des -/
namespace Go.Proofs.YtmlmbahimklfiaaGreatDoor
open Go.RowKit

set_option maxHeartbeats 3200000 in
set_option maxRecDepth 8000 in
theorem rd7_calls (f : Fd) (deep : Bool) (lo pr b : Nat) (st : RSt) (w : World) (hz : f = bareOf f) (ha : Rdr w lo pr st) (h1 : lo ≤ pr) (h2 : pr < b) (hbx : w.heap[b]? = some (.cells (dcells f pl0 0) 31 (0, 0))) (hlim : RLim st) (hH : Has w) (hk : f.k = 7) :
    Calls Tryz.prog 67 #[.pointer (some ⟨pr, 0, none⟩), .pointer (some ⟨b, 0, none⟩), .bool deep] w fun e w' => e = .returned (.tuple #[]) ∧ ∃ pl, Got w w' lo pr b (rdFd f st).2 (rdFd f st).1 pl := by
  obtain ⟨z, k, s, t, x, m, path, data, ow, ve, cv, ti, er, cver, ms⟩ := f
  simp only [bareOf, Fd.mk.injEq, Prod.mk.injEq, true_and] at hz
  obtain ⟨rfl, rfl, rfl, rfl, rfl, rfl, rfl, rfl, rfl⟩ := hz
  simp only at hk
  subst hk
  have hcell : w.cell? ⟨0, 7, none⟩ = some (.int .i64 128) := hH.2 7 (by decide)
  have b1 : bits .and .i64 128 1 = 0 := by decide
  have b2 : bits .and .i64 128 2 = 0 := by decide
  have b4 : bits .and .i64 128 4 = 0 := by decide
  have b8 : bits .and .i64 128 8 = 0 := by decide
  have b16 : bits .and .i64 128 16 = 0 := by decide
  have b32 : bits .and .i64 128 32 = 0 := by decide
  have b64 : bits .and .i64 128 64 = 0 := by decide
  have b128 : bits .and .i64 128 128 = 128 := by decide
  have b256 : bits .and .i64 128 256 = 0 := by decide
  have T0 := Lib.hid (DR.start ha hbx h1 h2)
  have d1 := T0.out.cell 1 _ rfl
  obtain ⟨d1, -⟩ := d1
  obtain ⟨x0, s1, g0⟩ : ∃ x t, rBytes st 1048576 = (x, t) := ⟨_, _, rfl⟩
  have hc0 := fun W (r : Rdr W lo pr st) => rBytes_calls lo pr st 1048576 W r h1 hlim
  rw [g0] at hc0
  have hx0 : x0.length ≤ 140737488355328 := by have h : (rBytes st 1048576).1.length ≤ 1048576 := rBytes_len st 1048576; rw [g0] at h; simp only at h; omega
  have hcg := fun W A c B (hr : Rd W B W.heap.size A x0) => get_any2 A x0 c B W.heap.size W hr (Nat.le_refl _) hx0
  have hml := getV_len x0
  have HFIN : Hid (rdFd ⟨z, 7, s, t, x, m, [], [], 0, 0, 0, 0, 0, (0, [])⟩ st = (⟨z, 7, s, t, x, m, [], [], 0, 0, 0, 0, 0, ((getV x0).1, (getV x0).2.1)⟩, s1)) := by show _ = _; simp [rdFd, g0]
  generalize (getV x0).1 = cver at *
  generalize (getV x0).2.1 = ms at *
  generalize (getV x0).2.2 = er at *
  have HC0 := Lib.hid hc0
  have HCG := Lib.hid hcg
  have HML := Lib.hid hml
  simp only [dcells, pl0] at *
  clear ha hbx hlim hH hc0 hcg g0 hml
  go_enter Tryz.func67, Tryz.ntmps67
  go_wp2_with (fail)
  refine (HC0.out _ T0.out.a).mono ?_
  rintro e v0 ⟨y0, rfl, o0, a0, f0⟩
  obtain ⟨DA, dc, rfl, -, -⟩ := own_form o0
  have HRD := Lib.hid (own_rd o0)
  have U0 := Lib.hid (T0.out.read a0 f0)
  have HS0 := Lib.hid T0.out.fr.size
  have HS1 := Lib.hid f0.size
  clear a0 f0 o0 T0
  go_wp2_with (fail)
  refine (HCG.out _ DA dc _ HRD.out).mono ?_
  rintro e v1 ⟨MA, mc, rfl, rm, f1⟩
  have U1 := Lib.hid (U0.out.keep f1)
  have RM := Lib.hid (rm.wide U0.out.fr.size (Nat.le_refl _))
  have HMB := Lib.hid (Nat.not_le.2 (Lib.lt_of_heap U0.out.bx))
  clear f1 U0 HRD
  have y13 := (cells_of U1.out.bx 13).1
  have n13 := (cells_of U1.out.bx 13).2
  have y14 := (cells_of U1.out.bx 14).1
  have n14 := (cells_of U1.out.bx 14).2
  simp only [List.getElem?_toArray, List.getElem?_cons_zero, List.getElem?_cons_succ] at y13 y14
  have T2 := Lib.hid ((U1.out.set 13 (.int .i64 cver)).set 14 (.slice MA ms.length mc))
  simp only [List.setIfInBounds_toArray, List.set_cons_zero, List.set_cons_succ] at T2
  have RM2 := Lib.hid ((rm.fr ((Fr.refl (OneB b) v1).setCell (p := ⟨b, 13, none⟩) (fun _ => rfl) (.int .i64 cver)) (Nat.le_refl _) (fun k h3 _ hx => by simp only [OneB] at hx; subst hx; exact (HMB.out h3).elim)).fr ((Fr.refl (OneB b) _).setCell (p := ⟨b, 14, none⟩) (fun _ => rfl) (.slice MA ms.length mc)) (by simp [World.setCell]) (fun k h3 _ hx => by simp only [OneB] at hx; subst hx; exact (HMB.out h3).elim))
  clear rm
  go_wp2_with (fail)
  clear y13 n13 y14 n14
  go_end0
  refine ⟨rfl, ?_⟩
  rw [HFIN.out]
  exact ⟨⟨none, 0, MA, mc, none, 0⟩, T2.out, own_nil0 _ _, RM2.out.wide (Nat.le_trans HS0.out HS1.out) (by simp [World.setCell]), rfl, rfl⟩

theorem rdFd_out {f : Fd} {st : RSt} (h : ¬ (1 ≤ f.k ∧ f.k ≤ 9)) : rdFd f st = (f, st) := by
  unfold rdFd
  rw [if_neg (by omega), if_neg (by omega), if_neg (by omega), if_neg (by omega), if_neg (by omega), if_neg (by omega), if_neg (by omega)]
set_option maxHeartbeats 1600000 in
theorem rdx_calls (f : Fd) (deep : Bool) (lo pr b : Nat) (st : RSt) (w : World) (hf : f.Ok) (hz : f = bareOf f) (ha : Rdr w lo pr st) (h1 : lo ≤ pr) (h2 : pr < b) (hbx : w.heap[b]? = some (.cells (dcells f pl0 0) 31 (0, 0))) (hk : ¬ (1 ≤ f.k ∧ f.k ≤ 9)) :
    Calls Tryz.prog 67 #[.pointer (some ⟨pr, 0, none⟩), .pointer (some ⟨b, 0, none⟩), .bool deep] w fun e w' => e = .returned (.tuple #[]) ∧ ∃ pl, Got w w' lo pr b (rdFd f st).2 (rdFd f st).1 pl := by
  rw [rdFd_out hk]
  have T0 := Lib.hid (DR.start ha hbx h1 h2)
  obtain ⟨d1, -⟩ := T0.out.cell 1 _ rfl
  have hk0 := hf.k
  have hdl : f.data.length = 0 := by rw [hz]; rfl
  have hml : f.c.2 = [] := by rw [hz]; rfl
  have hd0 : f.data = [] := List.length_eq_zero_iff.1 hdl
  have HG : Hid (Got w w lo pr b st f pl0) := by
    refine ⟨T0.out, ?_, ?_, rfl, rfl⟩
    · rw [hd0]; exact own_nil0 _ _
    · rw [hml]; exact RdM.nil' _ _ _ _
  clear hf hz ha hbx hdl hml hd0 T0
  obtain ⟨z, k, s, t, x, m, path, data, ow, ve, cv, ti, er, cver, ms⟩ := f
  simp only [dcells] at *
  have hk2 : k < 1 ∨ 9 < k := by omega
  clear hk
  rcases hk2 with hk2 | hk2
  · go_enter Tryz.func67, Tryz.ntmps67
    go_wp2
    all_goals first
      | (go_end0; exact ⟨rfl, pl0, HG.out⟩)
      | (go_ret; exact ⟨rfl, pl0, HG.out⟩)
      | (refine bodyPost_ret (results_none rfl _ _ _) rfl ?_; exact ⟨rfl, pl0, HG.out⟩)
      | (exfalso; omega)
      | trace_state
  · have hk3 : ¬ k < 1 := by omega
    go_enter Tryz.func67, Tryz.ntmps67
    go_wp2
    all_goals first
      | (go_end0; exact ⟨rfl, pl0, HG.out⟩)
      | (go_ret; exact ⟨rfl, pl0, HG.out⟩)
      | (refine bodyPost_ret (results_none rfl _ _ _) rfl ?_; exact ⟨rfl, pl0, HG.out⟩)
      | (exfalso; omega)
      | trace_state
/-- Read of any kind, where no parts are asked. -/
theorem rdFlat_calls (f : Fd) (deep : Bool) (lo pr b : Nat) (st : RSt) (w : World) (hf : f.Ok) (hz : f = bareOf f) (ha : Rdr w lo pr st) (h1 : lo ≤ pr) (h2 : pr < b) (hbx : w.heap[b]? = some (.cells (dcells f pl0 0) 31 (0, 0))) (hlim : RLim st) (hH : Has w) (hdp : f.k = 5 ∨ f.k = 8 → deep = false) :
    Calls Tryz.prog 67 #[.pointer (some ⟨pr, 0, none⟩), .pointer (some ⟨b, 0, none⟩), .bool deep] w fun e w' => e = .returned (.tuple #[]) ∧ ∃ pl, Got w w' lo pr b (rdFd f st).2 (rdFd f st).1 pl := by
  by_cases hk : 1 ≤ f.k ∧ f.k ≤ 9
  · rcases (show f.k = 1 ∨ f.k = 2 ∨ f.k = 3 ∨ f.k = 4 ∨ f.k = 5 ∨ f.k = 6 ∨ f.k = 7 ∨ f.k = 8 ∨ f.k = 9 by omega) with h | h | h | h | h | h | h | h | h
    · exact rd1_calls f deep lo pr b st w hz ha h1 h2 hbx hlim hH h
    · exact rd2_calls f deep lo pr b st w hz ha h1 h2 hbx hlim hH h
    · exact rd3_calls f deep lo pr b st w hz ha h1 h2 hbx hlim hH h
    · exact rd4_calls f deep lo pr b st w hz ha h1 h2 hbx hlim hH h
    · exact rd5_calls f deep lo pr b st w hz ha h1 h2 hbx hlim hH (hdp (.inl h)) h
    · exact rd6_calls f deep lo pr b st w hz ha h1 h2 hbx hlim hH h
    · exact rd7_calls f deep lo pr b st w hz ha h1 h2 hbx hlim hH h
    · exact rd8_calls f deep lo pr b st w hz ha h1 h2 hbx hlim hH (hdp (.inr h)) h
    · exact rd9_calls f deep lo pr b st w hz ha h1 h2 hbx hlim hH h
  · exact rdx_calls f deep lo pr b st w hf hz ha h1 h2 hbx hk
end Go.Proofs.YtmlmbahimklfiaaGreatDoor

/- Det -/
namespace Go.Proofs.YtmlmbahimklfiaaGreatDoor
open Go.RowKit

/-- The cells of parts, side by side. -/
def pv (l : List (Fd × Pl)) : List Value := l.flatMap fun x => (dcells x.1 x.2 0).toList
@[simp] theorem pv_nil : pv [] = [] := rfl
theorem pv_cons (x : Fd × Pl) (l : List (Fd × Pl)) : pv (x :: l) = (dcells x.1 x.2 0).toList ++ pv l := rfl
theorem pv_append (a b : List (Fd × Pl)) : pv (a ++ b) = pv a ++ pv b := by simp [pv]
theorem pv_one (x : Fd × Pl) : pv [x] = (dcells x.1 x.2 0).toList := by simp [pv]
theorem dcells_one (f : Fd) (p : Pl) (n : Nat) : ∀ v ∈ (dcells f p n).toList, v.oneCell' = true := by
  intro v hv
  simp only [dcells, List.mem_cons, List.not_mem_nil, or_false] at hv
  rcases hv with h | h | h | h | h | h | h | h | h | h | h | h | h | h | h | h <;> subst h <;> rfl
theorem pv_oneCell (l : List (Fd × Pl)) : ∀ v ∈ pv l, v.oneCell' = true := by
  intro v hv
  obtain ⟨x, _, hx⟩ := List.mem_flatMap.1 hv
  exact dcells_one _ _ _ v hx
@[simp] theorem pv_length (l : List (Fd × Pl)) : (pv l).length = l.length * 16 := by
  induction l with
  | nil => rfl
  | cons x l ih => rw [pv_cons, List.length_append, ih]; simp [dcells]; omega
theorem pv_get {l : List (Fd × Pl)} {i : Nat} {x : Fd × Pl} (h : l[i]? = some x) (j : Nat) (v : Value) (hv : (dcells x.1 x.2 0)[j]? = some v) : (pv l)[i * 16 + j]? = some v := by
  induction l generalizing i with
  | nil => simp at h
  | cons y l ih =>
    have hj : j < 16 := by
      have := (Array.getElem?_eq_some_iff.1 hv).1
      simpa [dcells] using this
    rw [pv_cons]
    cases i with
    | zero =>
      simp only [List.getElem?_cons_zero, Option.some.injEq] at h
      subst h
      rw [Nat.zero_mul, Nat.zero_add, List.getElem?_append_left (by simp [dcells]; omega)]
      simpa using hv
    | succ i =>
      rw [List.getElem?_cons_succ] at h
      have h16 : (dcells y.1 y.2 0).toList.length = 16 := by simp [dcells]
      rw [List.getElem?_append_right (by rw [h16]; omega), h16, show (i + 1) * 16 + j - 16 = i * 16 + j by omega]
      exact ih h
/-- A part that was read: where its lists lie, off the row V. -/
structure PartAt (w0 w : World) (V : Value) (x : Fd × Pl) : Prop where
  e : ∃ lo hi, w0.heap.size ≤ lo ∧ hi ≤ w.heap.size ∧ (∀ g, V.ownBlock = some g → ¬ (lo ≤ g ∧ g < hi)) ∧ w.ownsRow lo 5 1 (.slice x.2.A x.1.data.length x.2.c) x.1.data.length (bv x.1.data) ∧ (∀ g, (Value.slice x.2.A x.1.data.length x.2.c).ownBlock = some g → g < hi) ∧ RdM w lo hi x.2.B x.1.c.2 ∧ x.2.P = none ∧ x.2.e = 0
theorem PartAt.keep {w0 w w1 : World} {V V1 : Value} {x : Fd × Pl} {M : Nat → Prop} (h : PartAt w0 w V x) (f : Fr M w w1) (hm : ∀ k, M k → k < w0.heap.size ∨ w.heap.size ≤ k ∨ V.ownBlock = some k) (hv : ∀ g, V1.ownBlock = some g → V.ownBlock = some g ∨ w.heap.size ≤ g) : PartAt w0 w1 V1 x := by
  obtain ⟨lo, hi, h1, h2, h3, h4, h5, h6, h7⟩ := h.e
  have hfar : ∀ k, lo ≤ k → k < hi → ¬ M k := fun k a b c => by
    rcases hm k c with h | h | h
    · omega
    · omega
    · exact h3 k h ⟨a, b⟩
  refine ⟨lo, hi, h1, Nat.le_trans h2 f.size, fun g hg => ?_, own_by h4 f fun g hg => hfar g (h4.lt g hg).1 (h5 g hg), h5, h6.fr f h2 hfar, h7⟩
  rcases hv g hg with h | h
  · exact h3 g h
  · omega
/-- Parts under way: the deed's box, the row of its parts. -/
structure DP (w0 w : World) (lo pr b : Nat) (st : RSt) (f : Fd) (V : Value) (L : List (Fd × Pl)) : Prop where
  r : DR w0 w lo pr b st ((dcells f pl0 0).setIfInBounds 15 V)
  own : w.ownsRow w0.heap.size 31 16 V L.length (pv L)
  parts : ∀ x ∈ L, PartAt w0 w V x
  hb : b < w0.heap.size
theorem DP.read {w0 w w1 : World} {lo pr b : Nat} {st st1 : RSt} {f : Fd} {V : Value} {L : List (Fd × Pl)} (h : DP w0 w lo pr b st f V L) (a : Rdr w1 lo pr st1) (fr : Fr (OneB pr) w w1) : DP w0 w1 lo pr b st1 f V L := by
  have h2 := h.r.lo2
  have hb := h.hb
  exact ⟨h.r.read a fr, own_by h.own fr (fun g hg => by have := (h.own.lt g hg).1; simp only [OneB]; omega), fun x hx => (h.parts x hx).keep fr (fun k hk => by simp only [OneB] at hk; omega) (fun g hg => .inl hg), hb⟩
theorem DP.keep {w0 w w1 : World} {lo pr b : Nat} {st : RSt} {f : Fd} {V : Value} {L : List (Fd × Pl)} (h : DP w0 w lo pr b st f V L) (fr : Fr NoB w w1) : DP w0 w1 lo pr b st f V L :=
  ⟨h.r.keep fr, own_by h.own fr (fun _ _ x => x), fun x hx => (h.parts x hx).keep fr (fun _ hk => hk.elim) (fun _g hg => .inl hg), h.hb⟩
/-- One part more. -/
theorem DP.push {w0 w w' : World} {lo pr b : Nat} {st : RSt} {f : Fd} {V V' : Value} {L : List (Fd × Pl)} {x : Fd × Pl} (h : DP w0 w lo pr b st f V L) (hx : PartAt w0 w V x) (fa : Fr (fun k => V.ownBlock = some k ∨ k = b) w w') (hV : ∀ g, V'.ownBlock = some g → V.ownBlock = some g ∨ w.heap.size ≤ g) (hbx : w'.heap[b]? = some (.cells ((dcells f pl0 0).setIfInBounds 15 V') 31 (0, 0))) (ho : w'.ownsRow w0.heap.size 31 16 V' (L.length + 1) (pv L ++ pv [x])) : DP w0 w' lo pr b st f V' (L ++ [x]) := by
  have h1 := h.r.lo1
  have h2 := h.r.lo2
  have hb := h.hb
  have hV0 : ∀ k, V.ownBlock = some k → w0.heap.size ≤ k := fun k hk => (h.own.lt k hk).1
  have hM : ∀ k, (V.ownBlock = some k ∨ k = b) → k < w0.heap.size ∨ w.heap.size ≤ k ∨ V.ownBlock = some k := fun k hk => by
    rcases hk with hk | hk
    · exact .inr (.inr hk)
    · omega
  refine ⟨⟨h.r.a.fr fa (fun k _ hk hx => ?_) h1, h.r.fr.trans fa (fun k hk hx => ?_), hbx, h1, h2⟩, by rw [List.length_append, pv_append]; exact ho, fun y hy => ?_, hb⟩
  · rcases hx with hx | hx
    · have := hV0 k hx; omega
    · omega
  · rcases hx with hx | hx
    · have := hV0 k hx; omega
    · exact .inr hx
  · rcases List.mem_append.1 hy with hy | hy
    · exact (h.parts y hy).keep fa hM hV
    · simp only [List.mem_singleton] at hy
      subst hy
      exact hx.keep fa hM hV
def setL (xs : List Value) (o : Nat) : List Value → List Value
  | [] => xs
  | v :: r => setL (xs.set o v) (o + 1) r
theorem setL_tail (a z vs : List Value) (h : z.length = vs.length) : setL (a ++ z) a.length vs = a ++ vs := by
  induction vs generalizing a z with
  | nil => simp at h; subst h; rfl
  | cons v r ih =>
    cases z with
    | nil => simp at h
    | cons y z =>
      have e : (a ++ y :: z).set a.length v = (a ++ [v]) ++ z := by simp
      have := ih (a ++ [v]) z (by simpa using h)
      rw [List.length_append, List.length_singleton] at this
      rw [setL, e, this]
      simp
theorem own_setCells {base : Nat} {e : TypeId} {size g n cap : Nat} (vs : List Value) : ∀ {w : World} {xs : List Value} (o : Nat), w.ownsRow base e size (.slice (some ⟨g, 0, none⟩) n cap) n xs → (w.setCells g o vs).ownsRow base e size (.slice (some ⟨g, 0, none⟩) n cap) n (setL xs o vs) := by
  induction vs with
  | nil => intro w xs o h; exact h
  | cons v r ih => intro w xs o h; exact ih (o + 1) (h.stored o v).1
theorem fr_setCells {M : Nat → Prop} {a : World} {g : Nat} (hg : g < a.heap.size → M g) (vs : List Value) : ∀ {w : World} (o : Nat), Fr M a w → Fr M a (w.setCells g o vs) := by
  induction vs with
  | nil => intro w o h; exact h
  | cons v r ih => intro w o h; exact ih (o + 1) (h.setCell (p := ⟨g, o, none⟩) hg v)
theorem size_setCells {g : Nat} (vs : List Value) : ∀ {w : World} (o : Nat), (w.setCells g o vs).heap.size = w.heap.size := by
  induction vs with
  | nil => intro w o; rfl
  | cons v r ih => intro w o; rw [World.setCells, ih]; simp [World.setCell]
theorem set15 (f : Fd) (p : Pl) (V V' : Value) : ((dcells f p 0).setIfInBounds 15 V).setIfInBounds 15 V' = (dcells f p 0).setIfInBounds 15 V' := by simp [dcells]
/-- The element is appended whole, and the new row stored. -/
theorem DP.pushB {w0 w w' : World} {lo pr b : Nat} {st : RSt} {f : Fd} {V : Value} {L : List (Fd × Pl)} {x : Fd × Pl} {o : Obj} {g cap n : Nat} (hn : L.length = n) (h : DP w0 w lo pr b st f V L) (hx : PartAt w0 w V x) (ho : w'.ownsRow w0.heap.size 31 16 (.slice (some ⟨g, 0, none⟩) (n + 1) cap) (n + 1) (pv L ++ pv [x])) (hg : (w.alloc o).grownBy w' V.ownBlock) (hat : V.ownBlock = some g ∨ g = w.heap.size + 1) :
    DP w0 (w'.setCell ⟨b, 15, none⟩ (.slice (some ⟨g, 0, none⟩) (n + 1) cap)) lo pr b st f (.slice (some ⟨g, 0, none⟩) (n + 1) cap) (L ++ [x]) := by
  subst hn
  have fa : Fr (fun k => V.ownBlock = some k ∨ k = b) w w' := ((Fr.refl _ w).alloc o).trans (Fr.ofGrown (M := fun k => V.ownBlock = some k) hg (fun k _ h => h)) (fun k _ hk => .inl hk)
  have hb := h.hb
  have hgb : w0.heap.size ≤ g := (ho.lt g rfl).1
  refine h.push hx (fa.setCell (p := ⟨b, 15, none⟩) (fun _ => .inr rfl) _) (fun k hk => ?_) ?_ (own_by ho ((Fr.refl (OneB b) w').setCell (p := ⟨b, 15, none⟩) (fun _ => rfl) _) (fun k hk => ?_))
  · have hk : g = k := by simpa [Value.ownBlock] using hk
    subst hk
    rcases hat with h | h
    · exact .inl h
    · right; omega
  · have hbx := (hg.block b (by have := Lib.lt_of_heap h.r.bx; simp; omega) (fun e => by have := (h.own.lt b e.symm).1; omega)).trans ((Below.heap_alloc w o b (Lib.lt_of_heap h.r.bx)).trans h.r.bx)
    rw [heap_set hbx, set15]
  · have hk : g = k := by simpa [Value.ownBlock] using hk
    simp only [OneB]; omega
/-- A zero is appended, the new row stored, and the element stored into it. -/
theorem DP.pushA {w0 w w' : World} {lo pr b : Nat} {st : RSt} {f : Fd} {V : Value} {L : List (Fd × Pl)} {x : Fd × Pl} {o : Obj} {g cap n : Nat} {zs : List Value} (hz : zs.length = 16) (hn : L.length = n) (h : DP w0 w lo pr b st f V L) (hx : PartAt w0 w V x) (ho : w'.ownsRow w0.heap.size 31 16 (.slice (some ⟨g, 0, none⟩) (n + 1) cap) (n + 1) (pv L ++ zs)) (hg : (w.alloc o).grownBy w' V.ownBlock) (hat : V.ownBlock = some g ∨ g = w.heap.size + 1) :
    DP w0 ((w'.setCell ⟨b, 15, none⟩ (.slice (some ⟨g, 0, none⟩) (n + 1) cap)).setCells g (n * 16) (dcells x.1 x.2 0).toList) lo pr b st f (.slice (some ⟨g, 0, none⟩) (n + 1) cap) (L ++ [x]) := by
  subst hn
  have fa : Fr (fun k => V.ownBlock = some k ∨ k = b) w w' := ((Fr.refl _ w).alloc o).trans (Fr.ofGrown (M := fun k => V.ownBlock = some k) hg (fun k _ h => h)) (fun k _ hk => .inl hk)
  have hb := h.hb
  have hgb : w0.heap.size ≤ g := (ho.lt g rfl).1
  have fb := fa.setCell (p := ⟨b, 15, none⟩) (fun _ => .inr rfl) (.slice (some ⟨g, 0, none⟩) (L.length + 1) cap)
  have ho2 := own_by ho ((Fr.refl (OneB b) w').setCell (p := ⟨b, 15, none⟩) (fun _ => rfl) (.slice (some ⟨g, 0, none⟩) (L.length + 1) cap)) (fun k hk => by
    have hk : g = k := by simpa [Value.ownBlock] using hk
    simp only [OneB]; omega)
  have ho3 := own_setCells (dcells x.1 x.2 0).toList (L.length * 16) ho2
  have hpl : (pv L).length = L.length * 16 := pv_length L
  rw [← hpl, setL_tail (pv L) zs _ (by rw [hz]; simp [dcells]), hpl] at ho3
  refine h.push hx (fr_setCells (fun hlt => ?_) _ _ fb) (fun k hk => ?_) ?_ (by rw [pv_one]; exact ho3)
  · rcases hat with h | h
    · exact .inl h
    · omega
  · have hk : g = k := by simpa [Value.ownBlock] using hk
    subst hk
    rcases hat with h | h
    · exact .inl h
    · right; omega
  · have hbx := (hg.block b (by have := Lib.lt_of_heap h.r.bx; simp; omega) (fun e => by have := (h.own.lt b e.symm).1; omega)).trans ((Below.heap_alloc w o b (Lib.lt_of_heap h.r.bx)).trans h.r.bx)
    have hs : (w'.setCell ⟨b, 15, none⟩ (.slice (some ⟨g, 0, none⟩) (L.length + 1) cap)).heap[b]? = some (.cells ((dcells f pl0 0).setIfInBounds 15 (.slice (some ⟨g, 0, none⟩) (L.length + 1) cap)) 31 (0, 0)) := by rw [heap_set hbx, set15]
    exact ((fr_setCells (M := OneB g) (fun _ => rfl) (dcells x.1 x.2 0).toList (L.length * 16) (Fr.refl (OneB g) (w'.setCell ⟨b, 15, none⟩ (.slice (some ⟨g, 0, none⟩) (L.length + 1) cap)))).block b (Lib.lt_of_heap hs) (by simp only [OneB]; omega)).trans hs
end Go.Proofs.YtmlmbahimklfiaaGreatDoor

/- Deu -/
namespace Go.Proofs.YtmlmbahimklfiaaGreatDoor
open Go.RowKit
attribute [local go_sem ↓] Go.wp_at_zero Go.wp_at_succ

theorem rdFd_lim {f : Fd} {st : RSt} (h : RLim st) : RLim (rdFd f st).2 := by
  have h1 := rBytes_lim (m := 200) h
  have h2 := rBytes_lim (m := 1000) h1
  unfold rdFd
  split
  · exact rInt_lim (rInt_lim h2)
  split
  · exact rInt_lim h1
  split
  · exact rInt_lim h2
  split
  · exact rInt_lim h
  split
  · exact rInt_lim h
  split
  · exact rBytes_lim h
  split
  · exact rInt_lim h
  · exact h
/-- Where a walk stands still. -/
def Held (p : Prop) : Prop := p
theorem held_store {P : Program} {ops : Array Oper} {Q : Exit → Act → World → Prop} {rest : List Oper} {a : Act} {w : World} {ty tp : TypeId} {x y : Operand} {dst : Option Tmp} {ps : String} {af : Array Edge} {gd : Option (Nat × Bool)} (h : Held (wpList P ops Q ({ dst := dst, op := .store ty x y, type := tp, pos := ps, after := af, guard := gd } :: rest) a w)) : wpList P ops Q ({ dst := dst, op := .store ty x y, type := tp, pos := ps, after := af, guard := gd } :: rest) a w := h
theorem info_deed : (Tryz.prog.info? 31).map (fun i => (i.zero, i.size, i.bytes)) = some (some (.agg (dcells (bareF 0) pl0 0)), 16, 184) := by kernel_rfl
set_option maxHeartbeats 6400000 in
set_option maxRecDepth 8000 in
theorem rdp5_calls (f : Fd) (lo pr b : Nat) (st : RSt) (w : World) (hz : f = bareOf f) (ha : Rdr w lo pr st) (h1 : lo ≤ pr) (h2 : pr < b) (hbx : w.heap[b]? = some (.cells (dcells f pl0 0) 31 (0, 0))) (hlim : RLim st) (hH : Has w) (hgp : 0 < pr) (hk : f.k = 5) :
    Calls Tryz.prog 67 #[.pointer (some ⟨pr, 0, none⟩), .pointer (some ⟨b, 0, none⟩), .bool true] w fun e w' => e = .returned (.tuple #[]) ∧ ∃ V PL, DP w w' lo pr b (rdPs (rCount (rdFd f st).2 500).1.toNat (rCount (rdFd f st).2 500).2).2 (rdFd f st).1 V PL ∧ (rdPs (rCount (rdFd f st).2 500).1.toNat (rCount (rdFd f st).2 500).2).1 = PL.map (fun x => (x.1, 0)) := by
  obtain ⟨z, k, s, t, x, m, path, data, ow, ve, cv, ti, er, cver, ms⟩ := f
  simp only [bareOf, Fd.mk.injEq, Prod.mk.injEq, true_and] at hz
  obtain ⟨rfl, rfl, rfl, rfl, rfl, rfl, rfl, rfl, rfl⟩ := hz
  simp only at hk
  subst hk
  have hcell : w.cell? ⟨0, 5, none⟩ = some (.int .i64 260) := hH.2 5 (by decide)
  have b1 : bits .and .i64 260 1 = 0 := by decide
  have b2 : bits .and .i64 260 2 = 0 := by decide
  have b4 : bits .and .i64 260 4 = 4 := by decide
  have b8 : bits .and .i64 260 8 = 0 := by decide
  have b16 : bits .and .i64 260 16 = 0 := by decide
  have b32 : bits .and .i64 260 32 = 0 := by decide
  have b64 : bits .and .i64 260 64 = 0 := by decide
  have b128 : bits .and .i64 260 128 = 0 := by decide
  have b256 : bits .and .i64 260 256 = 256 := by decide
  have T0 := Lib.hid (DR.start ha hbx h1 h2)
  have hbw := Lib.lt_of_heap hbx
  have d1 := T0.out.cell 1 _ rfl
  obtain ⟨d1, -⟩ := d1
  have HH := Lib.hid hH
  have hhas := hH.1
  obtain ⟨x0, s1, g0⟩ : ∃ x t, rInt st = (x, t) := ⟨_, _, rfl⟩
  have hc0 := fun W (r : Rdr W lo pr st) => rInt_calls lo pr st W r
  rw [g0] at hc0
  have hlim1 : RLim s1 := by have := rInt_lim hlim; rw [g0] at this; exact this
  rw [show rdFd ⟨z, 5, s, t, x, m, [], [], 0, 0, 0, 0, 0, (0, [])⟩ st = (⟨z, 5, s, t, x, m, [], [], x0, 0, 0, 0, 0, (0, [])⟩, s1) by simp [rdFd, g0]]
  simp only
  have hrc := rCount_range s1 500 (by omega)
  have hlim2 : RLim (rCount s1 500).2 := rCount_lim hlim1
  have hc1 := fun W (r : Rdr W lo pr s1) => rCount_calls lo pr s1 500 W r
  obtain ⟨ni, s2, g1⟩ : ∃ x t, rCount s1 500 = (x, t) := ⟨_, _, rfl⟩
  rw [g1] at hrc hlim2 hc1 ⊢
  simp only at hrc hlim2
  obtain ⟨n, rfl⟩ := Int.eq_ofNat_of_zero_le hrc.1
  have hn5 : n ≤ 500 := by omega
  simp only [Int.toNat_natCast]
  obtain ⟨rl, hrl⟩ : ∃ rl, rdPs n s2 = rl := ⟨_, rfl⟩
  rw [hrl]
  have HRL := Lib.hid hrl
  have HC0 := Lib.hid hc0
  have HC1 := Lib.hid hc1
  have HLIM2 := Lib.hid hlim2
  have HB := Lib.hid hbw
  have HHAS := Lib.hid hhas
  simp only [dcells, pl0] at T0 d1
  clear ha hbx hlim hH hrl g1 hrc hc1 hlim1 hlim2 hc0 g0
  obtain ⟨i0, hi0, hz0, hz1, hz2⟩ := info_parts info_deed
  go_enter Tryz.func67, Tryz.ntmps67
  go_wp2_with (fail)
  refine (HC0.out _ T0.out.a).mono ?_
  rintro e v0 ⟨rfl, a0, f0, -⟩
  have U0 := Lib.hid (T0.out.read a0 f0)
  clear a0 f0 T0
  have y := (cells_of U0.out.bx 8).1
  have n0 := (cells_of U0.out.bx 8).2
  simp only [List.getElem?_toArray, List.getElem?_cons_zero, List.getElem?_cons_succ] at y
  have T1 := Lib.hid (U0.out.set 8 (.int .i64 x0))
  simp only [List.setIfInBounds_toArray, List.set_cons_zero, List.set_cons_succ] at T1
  go_wp2_with (fail)
  clear y n0
  generalize v0.setCell ⟨b, 8, none⟩ (.int .i64 x0) = v1 at *
  clear U0
  refine (HC1.out _ T1.out.a).mono ?_
  rintro e v2 ⟨rfl, a2, f2, -⟩
  have T2 := Lib.hid (T1.out.read a2 f2)
  clear a2 f2 T1
  go_wp2
  clear d1 hcell b1 b2 b4 b8 b16 b32 b64 b128 b256
  go_loopw [102] (fun i W => ∃ (k : Nat) (A : Option Addr) (cA : Nat) (PL : List (Fd × Pl)) (st1 : RSt), k ≤ n ∧ i = .int .i64 (k : Int) ∧ PL.length = k ∧ DP w W lo pr b st1 ⟨z, 5, s, t, x, m, [], [], x0, 0, 0, 0, 0, (0, [])⟩ (.slice A k cA) PL ∧ rl = (PL.map (fun x => (x.1, 0)) ++ (rdPs (n - k) st1).1, (rdPs (n - k) st1).2) ∧ RLim st1) (fun i _ => n - (intOf i).toNat)
  case atStart => exact ⟨0, none, 0, [], s2, Nat.zero_le _, rfl, rfl, ⟨T2.out, World.ownsRow_nil _ _ _ _, fun x hx => absurd hx (by simp), HB.out⟩, by simpa using HRL.out.symm, HLIM2.out⟩
  case round =>
    obtain ⟨k, A, cA, PL, st1, hk, rfl, hpl, ht, hr, hlm⟩ := hrel
    have T := Lib.hid ht
    have HR := Lib.hid hr
    have HLM := Lib.hid hlm
    have HPL := Lib.hid hpl
    clear ht hr hlm hpl T2
    by_cases hlt : k < n
    · have hki : (k : Int) < (n : Int) := by omega
      obtain ⟨q, hq⟩ : ∃ q, n - k = q + 1 := ⟨n - k - 1, by omega⟩
      have hr2 := HR.out
      rw [hq, rdPs] at hr2
      have HR2 := Lib.hid hr2
      have HQ := Lib.hid hq
      clear hr2 hq HR
      have hbc := rByte_calls lo pr st1 wr T.out.r.a
      obtain ⟨kb, s3, g3⟩ : ∃ x t, rByte st1 = (x, t) := ⟨_, _, rfl⟩
      rw [g3] at hbc
      have hlm3 : RLim s3 := by
        have := HLM.out
        rcases st1 with _ | ⟨_ | ⟨c0, l0⟩⟩
        · cases g3; trivial
        · cases g3; trivial
        · cases g3; simp only [RLim, List.length_cons] at this ⊢; omega
      have hrp : rdPart st1 = rdFd (bareF kb.toNat) s3 := by unfold rdPart; rw [g3]
      rw [hrp] at HR2
      have HLM3 := Lib.hid hlm3
      have HBC := Lib.hid hbc
      clear hbc g3 hlm3 hrp
      go_wp2_with (fail)
      refine HBC.out.mono ?_
      rintro e w3 ⟨rfl, a3, f3, -⟩
      have T3 := Lib.hid (T.out.read a3 f3)
      clear a3 f3 HBC T
      go_wp2_with (fail)
      have HRD := Lib.hid (rdFlat_calls (bareF kb.toNat) false lo pr w3.heap.size s3 (w3.alloc (.cells (dcells (bareF kb.toNat) pl0 0) 31)) (bareF_ok kb) rfl (T3.out.r.a.fr ((Fr.refl NoB w3).alloc _) (fun _ _ _ x => x) h1) h1 T3.out.r.a.lt (heap_alloc_new w3 _) HLM3.out (HH.out.frw (T3.out.r.fr.trans ((Fr.refl NoB w3).alloc _) (fun _ _ x => x.elim)) (by simp only [ReadB]; omega)) (fun _ => rfl))
      obtain ⟨f', s4, g4⟩ : ∃ x t, rdFd (bareF kb.toNat) s3 = (x, t) := ⟨_, _, rfl⟩
      have hlm4 : RLim s4 := by have := rdFd_lim (f := bareF kb.toNat) HLM3.out; rw [g4] at this; exact this
      have HLM4 := Lib.hid hlm4
      rw [g4] at HRD HR2
      clear hlm4 g4
      refine HRD.out.mono ?_
      rintro e w5 ⟨rfl, pl, hg⟩
      have HG := Lib.hid hg
      have ftot := ((Fr.refl (OneB pr) w3).alloc (.cells (dcells (bareF kb.toNat) pl0 0) 31)).trans hg.r.fr (fun j hj hx => by
        rcases hx with hx | hx
        · exact hx
        · omega)
      have T5 := Lib.hid (T3.out.read hg.r.a ftot)
      have hlo : w3.heap.size + 1 ≤ w5.heap.size := by have := hg.r.fr.size; simpa using this
      have HPA : Hid (PartAt w w5 (.slice A k cA) (f', pl)) := by
        refine ⟨(w3.alloc (.cells (dcells (bareF kb.toNat) pl0 0) 31)).heap.size, w5.heap.size, Nat.le_trans T3.out.r.fr.size (by simp), Nat.le_refl _, fun g hg2 h3 => ?_, hg.d, fun g hg2 => (hg.d.lt g hg2).2, hg.m, hg.p.1, hg.p.2⟩
        have h4 := (T3.out.own.lt g hg2).2
        have h5 := h3.1
        simp at h5
        omega
      have HBX := Lib.hid hg.r.bx
      have HBC3 := Lib.hid (Lib.lt_of_heap T3.out.r.bx)
      have HVC := Lib.hid (fun (g : Nat) (hg2 : (Value.slice A k cA).ownBlock = some g) => Nat.ne_of_lt (T3.out.own.lt g hg2).2)
      have hgc := rGood_calls lo pr s4 w5 hg.r.a
      clear hg ftot HG HRD T3
      have HGC := Lib.hid hgc
      clear hgc
      go_wp2_with (fail)
      refine HGC.out.mono ?_
      rintro e w6 ⟨rfl, rfl⟩
      clear HGC
      by_cases hgood : rGood s4 = true
      · rw [hgood] at HR2 ⊢
        go_wp2
        clear HH HHAS hhas HLM HLM3 h1 h2 hgp HRL HC0 HC1 HLIM2
        have HSZ5 := Lib.hid hlo
        clear hlo
        have HCB : Hid (b < w3.heap.size) := HBC3.out
        obtain ⟨C, hC⟩ : ∃ C, w3.heap.size = C := ⟨_, rfl⟩
        rw [hC] at HBX HSZ5 HVC HCB ⊢
        clear hC
        go_region
        · have F6 := Lib.hid (((Fr.refl NoB w5).alloc (.cells #[.bool false] 4)).drew)
          generalize (w5.alloc (.cells #[.bool false] 4)).drew = w6 at F6 ⊢
          have T6 := Lib.hid (T5.out.keep F6.out)
          have HB6 := Lib.hid (F6.out.at_ HBX.out (fun x => x))
          have HP6 := Lib.hid (HPA.out.keep F6.out (fun _ h => h.elim) (fun g h => .inl h))
          have HLC : Hid (C < w6.heap.size) := Nat.lt_of_lt_of_le HSZ5.out F6.out.size
          have HLCB := HCB
          clear T5 HBX HPA F6 HSZ5
          have y15 := (cells_of T6.out.r.bx 15).1
          have n15 := (cells_of T6.out.r.bx 15).2
          simp only [dcells, List.setIfInBounds_toArray, List.set_cons_zero, List.set_cons_succ, List.getElem?_toArray, List.getElem?_cons_zero, List.getElem?_cons_succ] at y15
          have HOWN := Lib.hid (HPL.out ▸ T6.out.own : w6.ownsRow w.heap.size 31 16 (.slice A k cA) k (pv PL))
          have HBB : Hid (w.heap.size ≤ w6.heap.size) := T6.out.r.fr.size
          have HNB := Lib.hid (fun (g : Nat) (hg : (Value.slice A k cA).ownBlock = some g) => Nat.ne_of_gt (Nat.lt_of_lt_of_le HB.out (HOWN.out.lt g hg).1))
          have hk5 : k ≤ 500 := by omega
          obtain ⟨z1, kk, sn, t1, x1, m1, path1, data1, ow1, ve1, cv1, ti1, er1, cver1, ms1⟩ := f'
          obtain ⟨A1, ca, B1, cb, P1, cp⟩ := pl
          simp only [dcells] at HB6
          go_wp2_with (first
            | (at_builtin; go_loud (refine wpList_append_lies _ rfl _ _ 29 rfl w.heap.size 31 i0 (.agg (dcells (bareF 0) pl0 0)) 16 184 Tryz.underlying29 hi0 hz0 hz1 hz2 rfl (by decide) (.slice A k cA) k (pv PL) rfl (HOWN.out.alloc _) _ 1 _ (dcells (bareF 0) pl0 0).toList rfl rfl (World.news_of_block (heap_alloc_new w6 _)) (dcells_one _ _ _) (by decide) (by unfold maxLen; omega) (by omega) (Nat.le_trans HBB.out (by simp)) (w6.heap.size + 1) (by simp) ?_))
            | fail)
          have cc0 := (cells_of HB6.out 0).1
          have cc1 := (cells_of HB6.out 1).1
          have cc2 := (cells_of HB6.out 2).1
          have cc3 := (cells_of HB6.out 3).1
          have cc4 := (cells_of HB6.out 4).1
          have cc5 := (cells_of HB6.out 5).1
          have cc6 := (cells_of HB6.out 6).1
          have cc7 := (cells_of HB6.out 7).1
          have cc8 := (cells_of HB6.out 8).1
          have cc9 := (cells_of HB6.out 9).1
          have cc10 := (cells_of HB6.out 10).1
          have cc11 := (cells_of HB6.out 11).1
          have cc12 := (cells_of HB6.out 12).1
          have cc13 := (cells_of HB6.out 13).1
          have cc14 := (cells_of HB6.out 14).1
          have cc15 := (cells_of HB6.out 15).1
          simp only [List.getElem?_toArray, List.getElem?_cons_zero, List.getElem?_cons_succ] at cc0 cc1 cc2 cc3 cc4 cc5 cc6 cc7 cc8 cc9 cc10 cc11 cc12 cc13 cc14 cc15
          have y15b : ∀ o, (w6.alloc o).cell? ⟨b, 15, none⟩ = some (.slice A k cA) := fun o => (((Fr.refl NoB w6).alloc o).cell (p := ⟨b, 15, none⟩) (World.block_lt_of_cell? _ _ y15) (fun x => x)).trans y15
          go_region_law ((refine step_append_lies _ (by rfl) _ _ 29 (by rfl) w.heap.size 31 i0 (.agg (dcells (bareF 0) pl0 0)) 16 184 Tryz.underlying29 hi0 hz0 hz1 hz2 (by rfl) (by decide) (.slice A k cA) k (pv PL) (by rfl) ((HOWN.out.alloc _).drew) _ 1 _ (dcells ⟨z1, kk, sn, t1, x1, m1, path1, data1, ow1, ve1, cv1, ti1, er1, (cver1, ms1)⟩ ⟨A1, ca, B1, cb, P1, cp⟩ 0).toList (by rfl) (by rfl) (World.news_of_block (heap_alloc_new w6 _)) (dcells_one _ _ _) (by decide) (by unfold maxLen; omega) (by omega) (Nat.le_trans HBB.out (by simp)) (w6.heap.size + 1) (by simp) ?_; intro g cap w7 hown hgrow hat hlt; have hb7 := (hgrow.block b (by have := Lib.lt_of_heap T6.out.r.bx; simp; omega) (fun e => HNB.out b e.symm rfl)).trans ((Below.heap_alloc w6 _ b (Lib.lt_of_heap T6.out.r.bx)).trans T6.out.r.bx); have y7 := (cells_of hb7 15).1; have n7 := (cells_of hb7 15).2; clear hb7; simp only [dcells, List.setIfInBounds_toArray, List.set_cons_zero, List.set_cons_succ, List.getElem?_toArray, List.getElem?_cons_zero, List.getElem?_cons_succ] at y7))
          all_goals
            have HFIN := Lib.hid (DP.pushB (x := (⟨z1, kk, sn, t1, x1, m1, path1, data1, ow1, ve1, cv1, ti1, er1, (cver1, ms1)⟩, ⟨A1, ca, B1, cb, P1, cp⟩)) HPL.out (T6.out.keep ((Fr.refl NoB w6).drew)) (HP6.out.keep ((Fr.refl NoB w6).drew) (fun _ h => h.elim) (fun g h => .inl h)) (by rw [pv_one]; exact hown) hgrow hat)
            clear hown hgrow hat hlt y15 y15b n15 y7 n7 T6 HP6 HB6 hz0 hz1 hz2 hi0 cc0 cc1 cc2 cc3 cc4 cc5 cc6 cc7 cc8 cc9 cc10 cc11 cc12 cc13 cc14 cc15
            go_wp2
            go_roundw
            case rel => exact ⟨k + 1, some ⟨g, 0, none⟩, cap, PL ++ [(⟨z1, kk, sn, t1, x1, m1, path1, data1, ow1, ve1, cv1, ti1, er1, (cver1, ms1)⟩, ⟨A1, ca, B1, cb, P1, cp⟩)], s4, by omega, by go_num, by rw [List.length_append, HPL.out]; rfl, HFIN.out, by rw [HR2.out, show n - (k + 1) = q by have := HQ.out; omega]; simp, HLM4.out⟩
            case measure => simp [intOf]; omega
        · have F6 := Lib.hid (((Fr.refl NoB w5).alloc (.cells #[.bool true] 4)).drew)
          generalize (w5.alloc (.cells #[.bool true] 4)).drew = w6 at F6 ⊢
          have T6 := Lib.hid (T5.out.keep F6.out)
          have HB6 := Lib.hid (F6.out.at_ HBX.out (fun x => x))
          have HP6 := Lib.hid (HPA.out.keep F6.out (fun _ h => h.elim) (fun g h => .inl h))
          have HLC : Hid (C < w6.heap.size) := Nat.lt_of_lt_of_le HSZ5.out F6.out.size
          have HLCB := HCB
          clear T5 HBX HPA F6 HSZ5
          have y15 := (cells_of T6.out.r.bx 15).1
          have n15 := (cells_of T6.out.r.bx 15).2
          simp only [dcells, List.setIfInBounds_toArray, List.set_cons_zero, List.set_cons_succ, List.getElem?_toArray, List.getElem?_cons_zero, List.getElem?_cons_succ] at y15
          have HOWN := Lib.hid (HPL.out ▸ T6.out.own : w6.ownsRow w.heap.size 31 16 (.slice A k cA) k (pv PL))
          have HBB : Hid (w.heap.size ≤ w6.heap.size) := T6.out.r.fr.size
          have HNB := Lib.hid (fun (g : Nat) (hg : (Value.slice A k cA).ownBlock = some g) => Nat.ne_of_gt (Nat.lt_of_lt_of_le HB.out (HOWN.out.lt g hg).1))
          have hk5 : k ≤ 500 := by omega
          obtain ⟨z1, kk, sn, t1, x1, m1, path1, data1, ow1, ve1, cv1, ti1, er1, cver1, ms1⟩ := f'
          obtain ⟨A1, ca, B1, cb, P1, cp⟩ := pl
          simp only [dcells] at HB6
          go_wp2_with (first
            | (at_builtin; go_loud (refine wpList_append_lies _ rfl _ _ 29 rfl w.heap.size 31 i0 (.agg (dcells (bareF 0) pl0 0)) 16 184 Tryz.underlying29 hi0 hz0 hz1 hz2 rfl (by decide) (.slice A k cA) k (pv PL) rfl (HOWN.out.alloc _) _ 1 _ (dcells (bareF 0) pl0 0).toList rfl rfl (World.news_of_block (heap_alloc_new w6 _)) (dcells_one _ _ _) (by decide) (by unfold maxLen; omega) (by omega) (Nat.le_trans HBB.out (by simp)) (w6.heap.size + 1) (by simp) ?_))
            | fail)
          intro g cap w7 hown hgrow hat hlt
          have HB7 := Lib.hid ((hgrow.block b (by have := Lib.lt_of_heap T6.out.r.bx; simp; omega) (fun e => HNB.out b e.symm rfl)).trans ((Below.heap_alloc w6 _ b (Lib.lt_of_heap T6.out.r.bx)).trans T6.out.r.bx))
          have HC7 := Lib.hid ((hgrow.block C (by have := HLC.out; simp; omega) (fun e => HVC.out C e.symm rfl)).trans ((Below.heap_alloc w6 _ C HLC.out).trans HB6.out))
          have y7 := (cells_of HB7.out 15).1
          have n7 := (cells_of HB7.out 15).2
          simp only [dcells, List.setIfInBounds_toArray, List.set_cons_zero, List.set_cons_succ, List.getElem?_toArray, List.getElem?_cons_zero, List.getElem?_cons_succ] at y7
          have HGB : Hid (g ≠ b) := by
            have h8 := hown.lt g rfl
            have h9 := HB.out
            show _ ≠ _
            omega
          have HO8 := Lib.hid (own_by hown ((Fr.refl (OneB b) w7).setCell (p := ⟨b, 15, none⟩) (fun _ => rfl) (.slice (some ⟨g, 0, none⟩) (k + 1) cap)) (fun g2 hg2 => by
            have h8 : g = g2 := by simpa [Value.ownBlock] using hg2
            subst h8
            exact HGB.out))
          have HC8 := Lib.hid ((Below.heap_setCell w7 ⟨b, 15, none⟩ (.slice (some ⟨g, 0, none⟩) (k + 1) cap) C (by have := HLCB.out; simp only; omega)).trans HC7.out)
          have HTH : Hid ((w7.setCell ⟨b, 15, none⟩ (.slice (some ⟨g, 0, none⟩) (k + 1) cap)).there g (k * 16) 16) := fun j hj => by
            refine ⟨?_, HO8.out.frozenAt _⟩
            rw [HO8.out.cellAt _ (by omega), List.getElem?_eq_getElem (by rw [List.length_append, pv_length, HPL.out]; simp [dcells, bareF, pl0]; omega)]
            rfl
          have HFIN := Lib.hid (DP.pushA (x := (⟨z1, kk, sn, t1, x1, m1, path1, data1, ow1, ve1, cv1, ti1, er1, (cver1, ms1)⟩, ⟨A1, ca, B1, cb, P1, cp⟩)) rfl HPL.out T6.out HP6.out hown hgrow hat)
          have HCAP := Lib.hid (hown.lt g rfl)
          clear hown hgrow hat hlt HB7 HO8 y15 n15 T6 HP6 HB6 hz0 hz1 hz2 hi0
          have c0 := (cells_of HC7.out 0).1
          have c1 := (cells_of HC7.out 1).1
          have c2 := (cells_of HC7.out 2).1
          have c3 := (cells_of HC7.out 3).1
          have c4 := (cells_of HC7.out 4).1
          have c5 := (cells_of HC7.out 5).1
          have c6 := (cells_of HC7.out 6).1
          have c7 := (cells_of HC7.out 7).1
          have c8 := (cells_of HC7.out 8).1
          have c9 := (cells_of HC7.out 9).1
          have c10 := (cells_of HC7.out 10).1
          have c11 := (cells_of HC7.out 11).1
          have c12 := (cells_of HC7.out 12).1
          have c13 := (cells_of HC7.out 13).1
          have c14 := (cells_of HC7.out 14).1
          have c15 := (cells_of HC7.out 15).1
          simp only [List.getElem?_toArray, List.getElem?_cons_zero, List.getElem?_cons_succ] at c0 c1 c2 c3 c4 c5 c6 c7 c8 c9 c10 c11 c12 c13 c14 c15
          have hne1 : ¬ C = b := by have := HLCB.out; omega
          have hne2 : ¬ b = C := by have := HLCB.out; omega
          clear HC7 HC8
          go_wp2_with (first | (with_reducible refine held_store (ty := 31) ?_) | fail)
          unfold Held
          refine wpList_store_mid rfl 31 (.tmp 124) (.tmp 123) rfl g (k * 16) #[.int .i64 z1, .int .u8 kk, .int .i64 sn, .int .i64 t1, .int .i64 x1, .int .i64 m1, .string ⟨path1.toArray⟩, .slice A1 data1.length ca, .int .i64 ow1, .int .i64 ve1, .int .i64 cv1, .int .i64 ti1, .int .i64 er1, .int .i64 cver1, .slice B1 ms1.length cb, .slice P1 0 cp] ?_ ?_ ?_ size16 ?_ ?_
          · rfl
          · rfl
          · exact HTH.out
          · simp [Value.oneCell']
          simp only [dcells] at HFIN
          generalize ((w7.setCell ⟨b, 15, none⟩ (.slice (some ⟨g, 0, none⟩) (k + 1) cap)).setCells g (k * 16) _) = w9 at HFIN ⊢
          go_wp2
          go_roundw
          case rel => exact ⟨k + 1, some ⟨g, 0, none⟩, cap, PL ++ [(⟨z1, kk, sn, t1, x1, m1, path1, data1, ow1, ve1, cv1, ti1, er1, (cver1, ms1)⟩, ⟨A1, ca, B1, cb, P1, cp⟩)], s4, by omega, by go_num, by rw [List.length_append, HPL.out]; rfl, HFIN.out, by rw [HR2.out, show n - (k + 1) = q by have := HQ.out; omega]; simp, HLM4.out⟩
          case measure => simp [intOf]; omega
      · have hgf : rGood s4 = false := by simpa using hgood
        rw [hgf] at HR2 ⊢
        clear hgood
        go_wp2
        refine bodyPost_ret (results_none rfl _ _ _) rfl ?_
        refine ⟨rfl, .slice A k cA, PL, ?_, ?_⟩
        · rw [HR2.out]; exact T5.out
        · rw [HR2.out]; simp
    · obtain rfl : k = n := by omega
      go_wp2
      go_end0
      have hr := HR.out
      rw [Nat.sub_self, rdPs] at hr
      refine ⟨rfl, .slice A k cA, PL, ?_, ?_⟩
      · rw [hr]; exact T.out
      · rw [hr]; simp
set_option maxHeartbeats 6400000 in
set_option maxRecDepth 8000 in
theorem rdp8_calls (f : Fd) (lo pr b : Nat) (st : RSt) (w : World) (hz : f = bareOf f) (ha : Rdr w lo pr st) (h1 : lo ≤ pr) (h2 : pr < b) (hbx : w.heap[b]? = some (.cells (dcells f pl0 0) 31 (0, 0))) (hlim : RLim st) (hH : Has w) (hgp : 0 < pr) (hk : f.k = 8) :
    Calls Tryz.prog 67 #[.pointer (some ⟨pr, 0, none⟩), .pointer (some ⟨b, 0, none⟩), .bool true] w fun e w' => e = .returned (.tuple #[]) ∧ ∃ V PL, DP w w' lo pr b (rdPs (rCount (rdFd f st).2 500).1.toNat (rCount (rdFd f st).2 500).2).2 (rdFd f st).1 V PL ∧ (rdPs (rCount (rdFd f st).2 500).1.toNat (rCount (rdFd f st).2 500).2).1 = PL.map (fun x => (x.1, 0)) := by
  obtain ⟨z, k, s, t, x, m, path, data, ow, ve, cv, ti, er, cver, ms⟩ := f
  simp only [bareOf, Fd.mk.injEq, Prod.mk.injEq, true_and] at hz
  obtain ⟨rfl, rfl, rfl, rfl, rfl, rfl, rfl, rfl, rfl⟩ := hz
  simp only at hk
  subst hk
  have hcell : w.cell? ⟨0, 8, none⟩ = some (.int .i64 256) := hH.2 8 (by decide)
  have b1 : bits .and .i64 256 1 = 0 := by decide
  have b2 : bits .and .i64 256 2 = 0 := by decide
  have b4 : bits .and .i64 256 4 = 0 := by decide
  have b8 : bits .and .i64 256 8 = 0 := by decide
  have b16 : bits .and .i64 256 16 = 0 := by decide
  have b32 : bits .and .i64 256 32 = 0 := by decide
  have b64 : bits .and .i64 256 64 = 0 := by decide
  have b128 : bits .and .i64 256 128 = 0 := by decide
  have b256 : bits .and .i64 256 256 = 256 := by decide
  have T0 := Lib.hid (DR.start ha hbx h1 h2)
  have hbw := Lib.lt_of_heap hbx
  have d1 := T0.out.cell 1 _ rfl
  obtain ⟨d1, -⟩ := d1
  have HH := Lib.hid hH
  have hhas := hH.1
  have hlim1 : RLim st := hlim
  rw [show rdFd ⟨z, 8, s, t, x, m, [], [], 0, 0, 0, 0, 0, (0, [])⟩ st = (⟨z, 8, s, t, x, m, [], [], 0, 0, 0, 0, 0, (0, [])⟩, st) by simp [rdFd]]
  simp only
  have hrc := rCount_range st 500 (by omega)
  have hlim2 : RLim (rCount st 500).2 := rCount_lim hlim1
  have hc1 := fun W (r : Rdr W lo pr st) => rCount_calls lo pr st 500 W r
  obtain ⟨ni, s2, g1⟩ : ∃ x t, rCount st 500 = (x, t) := ⟨_, _, rfl⟩
  rw [g1] at hrc hlim2 hc1 ⊢
  simp only at hrc hlim2
  obtain ⟨n, rfl⟩ := Int.eq_ofNat_of_zero_le hrc.1
  have hn5 : n ≤ 500 := by omega
  simp only [Int.toNat_natCast]
  obtain ⟨rl, hrl⟩ : ∃ rl, rdPs n s2 = rl := ⟨_, rfl⟩
  rw [hrl]
  have HRL := Lib.hid hrl
  skip
  have HC1 := Lib.hid hc1
  have HLIM2 := Lib.hid hlim2
  have HB := Lib.hid hbw
  have HHAS := Lib.hid hhas
  simp only [dcells, pl0] at T0 d1
  clear ha hbx hlim hH hrl g1 hrc hc1 hlim1 hlim2 
  obtain ⟨i0, hi0, hz0, hz1, hz2⟩ := info_parts info_deed
  go_enter Tryz.func67, Tryz.ntmps67
  go_wp2_with (fail)
  have T1 := T0
  clear T0
  refine (HC1.out _ T1.out.a).mono ?_
  rintro e v2 ⟨rfl, a2, f2, -⟩
  have T2 := Lib.hid (T1.out.read a2 f2)
  clear a2 f2 T1
  go_wp2
  clear d1 hcell b1 b2 b4 b8 b16 b32 b64 b128 b256
  go_loopw [102] (fun i W => ∃ (k : Nat) (A : Option Addr) (cA : Nat) (PL : List (Fd × Pl)) (st1 : RSt), k ≤ n ∧ i = .int .i64 (k : Int) ∧ PL.length = k ∧ DP w W lo pr b st1 ⟨z, 8, s, t, x, m, [], [], 0, 0, 0, 0, 0, (0, [])⟩ (.slice A k cA) PL ∧ rl = (PL.map (fun x => (x.1, 0)) ++ (rdPs (n - k) st1).1, (rdPs (n - k) st1).2) ∧ RLim st1) (fun i _ => n - (intOf i).toNat)
  case atStart => exact ⟨0, none, 0, [], s2, Nat.zero_le _, rfl, rfl, ⟨T2.out, World.ownsRow_nil _ _ _ _, fun x hx => absurd hx (by simp), HB.out⟩, by simpa using HRL.out.symm, HLIM2.out⟩
  case round =>
    obtain ⟨k, A, cA, PL, st1, hk, rfl, hpl, ht, hr, hlm⟩ := hrel
    have T := Lib.hid ht
    have HR := Lib.hid hr
    have HLM := Lib.hid hlm
    have HPL := Lib.hid hpl
    clear ht hr hlm hpl T2
    by_cases hlt : k < n
    · have hki : (k : Int) < (n : Int) := by omega
      obtain ⟨q, hq⟩ : ∃ q, n - k = q + 1 := ⟨n - k - 1, by omega⟩
      have hr2 := HR.out
      rw [hq, rdPs] at hr2
      have HR2 := Lib.hid hr2
      have HQ := Lib.hid hq
      clear hr2 hq HR
      have hbc := rByte_calls lo pr st1 wr T.out.r.a
      obtain ⟨kb, s3, g3⟩ : ∃ x t, rByte st1 = (x, t) := ⟨_, _, rfl⟩
      rw [g3] at hbc
      have hlm3 : RLim s3 := by
        have := HLM.out
        rcases st1 with _ | ⟨_ | ⟨c0, l0⟩⟩
        · cases g3; trivial
        · cases g3; trivial
        · cases g3; simp only [RLim, List.length_cons] at this ⊢; omega
      have hrp : rdPart st1 = rdFd (bareF kb.toNat) s3 := by unfold rdPart; rw [g3]
      rw [hrp] at HR2
      have HLM3 := Lib.hid hlm3
      have HBC := Lib.hid hbc
      clear hbc g3 hlm3 hrp
      go_wp2_with (fail)
      refine HBC.out.mono ?_
      rintro e w3 ⟨rfl, a3, f3, -⟩
      have T3 := Lib.hid (T.out.read a3 f3)
      clear a3 f3 HBC T
      go_wp2_with (fail)
      have HRD := Lib.hid (rdFlat_calls (bareF kb.toNat) false lo pr w3.heap.size s3 (w3.alloc (.cells (dcells (bareF kb.toNat) pl0 0) 31)) (bareF_ok kb) rfl (T3.out.r.a.fr ((Fr.refl NoB w3).alloc _) (fun _ _ _ x => x) h1) h1 T3.out.r.a.lt (heap_alloc_new w3 _) HLM3.out (HH.out.frw (T3.out.r.fr.trans ((Fr.refl NoB w3).alloc _) (fun _ _ x => x.elim)) (by simp only [ReadB]; omega)) (fun _ => rfl))
      obtain ⟨f', s4, g4⟩ : ∃ x t, rdFd (bareF kb.toNat) s3 = (x, t) := ⟨_, _, rfl⟩
      have hlm4 : RLim s4 := by have := rdFd_lim (f := bareF kb.toNat) HLM3.out; rw [g4] at this; exact this
      have HLM4 := Lib.hid hlm4
      rw [g4] at HRD HR2
      clear hlm4 g4
      refine HRD.out.mono ?_
      rintro e w5 ⟨rfl, pl, hg⟩
      have HG := Lib.hid hg
      have ftot := ((Fr.refl (OneB pr) w3).alloc (.cells (dcells (bareF kb.toNat) pl0 0) 31)).trans hg.r.fr (fun j hj hx => by
        rcases hx with hx | hx
        · exact hx
        · omega)
      have T5 := Lib.hid (T3.out.read hg.r.a ftot)
      have hlo : w3.heap.size + 1 ≤ w5.heap.size := by have := hg.r.fr.size; simpa using this
      have HPA : Hid (PartAt w w5 (.slice A k cA) (f', pl)) := by
        refine ⟨(w3.alloc (.cells (dcells (bareF kb.toNat) pl0 0) 31)).heap.size, w5.heap.size, Nat.le_trans T3.out.r.fr.size (by simp), Nat.le_refl _, fun g hg2 h3 => ?_, hg.d, fun g hg2 => (hg.d.lt g hg2).2, hg.m, hg.p.1, hg.p.2⟩
        have h4 := (T3.out.own.lt g hg2).2
        have h5 := h3.1
        simp at h5
        omega
      have HBX := Lib.hid hg.r.bx
      have HBC3 := Lib.hid (Lib.lt_of_heap T3.out.r.bx)
      have HVC := Lib.hid (fun (g : Nat) (hg2 : (Value.slice A k cA).ownBlock = some g) => Nat.ne_of_lt (T3.out.own.lt g hg2).2)
      have hgc := rGood_calls lo pr s4 w5 hg.r.a
      clear hg ftot HG HRD T3
      have HGC := Lib.hid hgc
      clear hgc
      go_wp2_with (fail)
      refine HGC.out.mono ?_
      rintro e w6 ⟨rfl, rfl⟩
      clear HGC
      by_cases hgood : rGood s4 = true
      · rw [hgood] at HR2 ⊢
        go_wp2
        clear HH HHAS hhas HLM HLM3 h1 h2 hgp HRL  HC1 HLIM2
        have HSZ5 := Lib.hid hlo
        clear hlo
        have HCB : Hid (b < w3.heap.size) := HBC3.out
        obtain ⟨C, hC⟩ : ∃ C, w3.heap.size = C := ⟨_, rfl⟩
        rw [hC] at HBX HSZ5 HVC HCB ⊢
        clear hC
        go_region
        · have F6 := Lib.hid (((Fr.refl NoB w5).alloc (.cells #[.bool false] 4)).drew)
          generalize (w5.alloc (.cells #[.bool false] 4)).drew = w6 at F6 ⊢
          have T6 := Lib.hid (T5.out.keep F6.out)
          have HB6 := Lib.hid (F6.out.at_ HBX.out (fun x => x))
          have HP6 := Lib.hid (HPA.out.keep F6.out (fun _ h => h.elim) (fun g h => .inl h))
          have HLC : Hid (C < w6.heap.size) := Nat.lt_of_lt_of_le HSZ5.out F6.out.size
          have HLCB := HCB
          clear T5 HBX HPA F6 HSZ5
          have y15 := (cells_of T6.out.r.bx 15).1
          have n15 := (cells_of T6.out.r.bx 15).2
          simp only [dcells, List.setIfInBounds_toArray, List.set_cons_zero, List.set_cons_succ, List.getElem?_toArray, List.getElem?_cons_zero, List.getElem?_cons_succ] at y15
          have HOWN := Lib.hid (HPL.out ▸ T6.out.own : w6.ownsRow w.heap.size 31 16 (.slice A k cA) k (pv PL))
          have HBB : Hid (w.heap.size ≤ w6.heap.size) := T6.out.r.fr.size
          have HNB := Lib.hid (fun (g : Nat) (hg : (Value.slice A k cA).ownBlock = some g) => Nat.ne_of_gt (Nat.lt_of_lt_of_le HB.out (HOWN.out.lt g hg).1))
          have hk5 : k ≤ 500 := by omega
          obtain ⟨z1, kk, sn, t1, x1, m1, path1, data1, ow1, ve1, cv1, ti1, er1, cver1, ms1⟩ := f'
          obtain ⟨A1, ca, B1, cb, P1, cp⟩ := pl
          simp only [dcells] at HB6
          go_wp2_with (first
            | (at_builtin; go_loud (refine wpList_append_lies _ rfl _ _ 29 rfl w.heap.size 31 i0 (.agg (dcells (bareF 0) pl0 0)) 16 184 Tryz.underlying29 hi0 hz0 hz1 hz2 rfl (by decide) (.slice A k cA) k (pv PL) rfl (HOWN.out.alloc _) _ 1 _ (dcells (bareF 0) pl0 0).toList rfl rfl (World.news_of_block (heap_alloc_new w6 _)) (dcells_one _ _ _) (by decide) (by unfold maxLen; omega) (by omega) (Nat.le_trans HBB.out (by simp)) (w6.heap.size + 1) (by simp) ?_))
            | fail)
          have cc0 := (cells_of HB6.out 0).1
          have cc1 := (cells_of HB6.out 1).1
          have cc2 := (cells_of HB6.out 2).1
          have cc3 := (cells_of HB6.out 3).1
          have cc4 := (cells_of HB6.out 4).1
          have cc5 := (cells_of HB6.out 5).1
          have cc6 := (cells_of HB6.out 6).1
          have cc7 := (cells_of HB6.out 7).1
          have cc8 := (cells_of HB6.out 8).1
          have cc9 := (cells_of HB6.out 9).1
          have cc10 := (cells_of HB6.out 10).1
          have cc11 := (cells_of HB6.out 11).1
          have cc12 := (cells_of HB6.out 12).1
          have cc13 := (cells_of HB6.out 13).1
          have cc14 := (cells_of HB6.out 14).1
          have cc15 := (cells_of HB6.out 15).1
          simp only [List.getElem?_toArray, List.getElem?_cons_zero, List.getElem?_cons_succ] at cc0 cc1 cc2 cc3 cc4 cc5 cc6 cc7 cc8 cc9 cc10 cc11 cc12 cc13 cc14 cc15
          have y15b : ∀ o, (w6.alloc o).cell? ⟨b, 15, none⟩ = some (.slice A k cA) := fun o => (((Fr.refl NoB w6).alloc o).cell (p := ⟨b, 15, none⟩) (World.block_lt_of_cell? _ _ y15) (fun x => x)).trans y15
          go_region_law ((refine step_append_lies _ (by rfl) _ _ 29 (by rfl) w.heap.size 31 i0 (.agg (dcells (bareF 0) pl0 0)) 16 184 Tryz.underlying29 hi0 hz0 hz1 hz2 (by rfl) (by decide) (.slice A k cA) k (pv PL) (by rfl) ((HOWN.out.alloc _).drew) _ 1 _ (dcells ⟨z1, kk, sn, t1, x1, m1, path1, data1, ow1, ve1, cv1, ti1, er1, (cver1, ms1)⟩ ⟨A1, ca, B1, cb, P1, cp⟩ 0).toList (by rfl) (by rfl) (World.news_of_block (heap_alloc_new w6 _)) (dcells_one _ _ _) (by decide) (by unfold maxLen; omega) (by omega) (Nat.le_trans HBB.out (by simp)) (w6.heap.size + 1) (by simp) ?_; intro g cap w7 hown hgrow hat hlt; have hb7 := (hgrow.block b (by have := Lib.lt_of_heap T6.out.r.bx; simp; omega) (fun e => HNB.out b e.symm rfl)).trans ((Below.heap_alloc w6 _ b (Lib.lt_of_heap T6.out.r.bx)).trans T6.out.r.bx); have y7 := (cells_of hb7 15).1; have n7 := (cells_of hb7 15).2; clear hb7; simp only [dcells, List.setIfInBounds_toArray, List.set_cons_zero, List.set_cons_succ, List.getElem?_toArray, List.getElem?_cons_zero, List.getElem?_cons_succ] at y7))
          all_goals
            have HFIN := Lib.hid (DP.pushB (x := (⟨z1, kk, sn, t1, x1, m1, path1, data1, ow1, ve1, cv1, ti1, er1, (cver1, ms1)⟩, ⟨A1, ca, B1, cb, P1, cp⟩)) HPL.out (T6.out.keep ((Fr.refl NoB w6).drew)) (HP6.out.keep ((Fr.refl NoB w6).drew) (fun _ h => h.elim) (fun g h => .inl h)) (by rw [pv_one]; exact hown) hgrow hat)
            clear hown hgrow hat hlt y15 y15b n15 y7 n7 T6 HP6 HB6 hz0 hz1 hz2 hi0 cc0 cc1 cc2 cc3 cc4 cc5 cc6 cc7 cc8 cc9 cc10 cc11 cc12 cc13 cc14 cc15
            go_wp2
            go_roundw
            case rel => exact ⟨k + 1, some ⟨g, 0, none⟩, cap, PL ++ [(⟨z1, kk, sn, t1, x1, m1, path1, data1, ow1, ve1, cv1, ti1, er1, (cver1, ms1)⟩, ⟨A1, ca, B1, cb, P1, cp⟩)], s4, by omega, by go_num, by rw [List.length_append, HPL.out]; rfl, HFIN.out, by rw [HR2.out, show n - (k + 1) = q by have := HQ.out; omega]; simp, HLM4.out⟩
            case measure => simp [intOf]; omega
        · have F6 := Lib.hid (((Fr.refl NoB w5).alloc (.cells #[.bool true] 4)).drew)
          generalize (w5.alloc (.cells #[.bool true] 4)).drew = w6 at F6 ⊢
          have T6 := Lib.hid (T5.out.keep F6.out)
          have HB6 := Lib.hid (F6.out.at_ HBX.out (fun x => x))
          have HP6 := Lib.hid (HPA.out.keep F6.out (fun _ h => h.elim) (fun g h => .inl h))
          have HLC : Hid (C < w6.heap.size) := Nat.lt_of_lt_of_le HSZ5.out F6.out.size
          have HLCB := HCB
          clear T5 HBX HPA F6 HSZ5
          have y15 := (cells_of T6.out.r.bx 15).1
          have n15 := (cells_of T6.out.r.bx 15).2
          simp only [dcells, List.setIfInBounds_toArray, List.set_cons_zero, List.set_cons_succ, List.getElem?_toArray, List.getElem?_cons_zero, List.getElem?_cons_succ] at y15
          have HOWN := Lib.hid (HPL.out ▸ T6.out.own : w6.ownsRow w.heap.size 31 16 (.slice A k cA) k (pv PL))
          have HBB : Hid (w.heap.size ≤ w6.heap.size) := T6.out.r.fr.size
          have HNB := Lib.hid (fun (g : Nat) (hg : (Value.slice A k cA).ownBlock = some g) => Nat.ne_of_gt (Nat.lt_of_lt_of_le HB.out (HOWN.out.lt g hg).1))
          have hk5 : k ≤ 500 := by omega
          obtain ⟨z1, kk, sn, t1, x1, m1, path1, data1, ow1, ve1, cv1, ti1, er1, cver1, ms1⟩ := f'
          obtain ⟨A1, ca, B1, cb, P1, cp⟩ := pl
          simp only [dcells] at HB6
          go_wp2_with (first
            | (at_builtin; go_loud (refine wpList_append_lies _ rfl _ _ 29 rfl w.heap.size 31 i0 (.agg (dcells (bareF 0) pl0 0)) 16 184 Tryz.underlying29 hi0 hz0 hz1 hz2 rfl (by decide) (.slice A k cA) k (pv PL) rfl (HOWN.out.alloc _) _ 1 _ (dcells (bareF 0) pl0 0).toList rfl rfl (World.news_of_block (heap_alloc_new w6 _)) (dcells_one _ _ _) (by decide) (by unfold maxLen; omega) (by omega) (Nat.le_trans HBB.out (by simp)) (w6.heap.size + 1) (by simp) ?_))
            | fail)
          intro g cap w7 hown hgrow hat hlt
          have HB7 := Lib.hid ((hgrow.block b (by have := Lib.lt_of_heap T6.out.r.bx; simp; omega) (fun e => HNB.out b e.symm rfl)).trans ((Below.heap_alloc w6 _ b (Lib.lt_of_heap T6.out.r.bx)).trans T6.out.r.bx))
          have HC7 := Lib.hid ((hgrow.block C (by have := HLC.out; simp; omega) (fun e => HVC.out C e.symm rfl)).trans ((Below.heap_alloc w6 _ C HLC.out).trans HB6.out))
          have y7 := (cells_of HB7.out 15).1
          have n7 := (cells_of HB7.out 15).2
          simp only [dcells, List.setIfInBounds_toArray, List.set_cons_zero, List.set_cons_succ, List.getElem?_toArray, List.getElem?_cons_zero, List.getElem?_cons_succ] at y7
          have HGB : Hid (g ≠ b) := by
            have h8 := hown.lt g rfl
            have h9 := HB.out
            show _ ≠ _
            omega
          have HO8 := Lib.hid (own_by hown ((Fr.refl (OneB b) w7).setCell (p := ⟨b, 15, none⟩) (fun _ => rfl) (.slice (some ⟨g, 0, none⟩) (k + 1) cap)) (fun g2 hg2 => by
            have h8 : g = g2 := by simpa [Value.ownBlock] using hg2
            subst h8
            exact HGB.out))
          have HC8 := Lib.hid ((Below.heap_setCell w7 ⟨b, 15, none⟩ (.slice (some ⟨g, 0, none⟩) (k + 1) cap) C (by have := HLCB.out; simp only; omega)).trans HC7.out)
          have HTH : Hid ((w7.setCell ⟨b, 15, none⟩ (.slice (some ⟨g, 0, none⟩) (k + 1) cap)).there g (k * 16) 16) := fun j hj => by
            refine ⟨?_, HO8.out.frozenAt _⟩
            rw [HO8.out.cellAt _ (by omega), List.getElem?_eq_getElem (by rw [List.length_append, pv_length, HPL.out]; simp [dcells, bareF, pl0]; omega)]
            rfl
          have HFIN := Lib.hid (DP.pushA (x := (⟨z1, kk, sn, t1, x1, m1, path1, data1, ow1, ve1, cv1, ti1, er1, (cver1, ms1)⟩, ⟨A1, ca, B1, cb, P1, cp⟩)) rfl HPL.out T6.out HP6.out hown hgrow hat)
          have HCAP := Lib.hid (hown.lt g rfl)
          clear hown hgrow hat hlt HB7 HO8 y15 n15 T6 HP6 HB6 hz0 hz1 hz2 hi0
          have c0 := (cells_of HC7.out 0).1
          have c1 := (cells_of HC7.out 1).1
          have c2 := (cells_of HC7.out 2).1
          have c3 := (cells_of HC7.out 3).1
          have c4 := (cells_of HC7.out 4).1
          have c5 := (cells_of HC7.out 5).1
          have c6 := (cells_of HC7.out 6).1
          have c7 := (cells_of HC7.out 7).1
          have c8 := (cells_of HC7.out 8).1
          have c9 := (cells_of HC7.out 9).1
          have c10 := (cells_of HC7.out 10).1
          have c11 := (cells_of HC7.out 11).1
          have c12 := (cells_of HC7.out 12).1
          have c13 := (cells_of HC7.out 13).1
          have c14 := (cells_of HC7.out 14).1
          have c15 := (cells_of HC7.out 15).1
          simp only [List.getElem?_toArray, List.getElem?_cons_zero, List.getElem?_cons_succ] at c0 c1 c2 c3 c4 c5 c6 c7 c8 c9 c10 c11 c12 c13 c14 c15
          have hne1 : ¬ C = b := by have := HLCB.out; omega
          have hne2 : ¬ b = C := by have := HLCB.out; omega
          clear HC7 HC8
          go_wp2_with (first | (with_reducible refine held_store (ty := 31) ?_) | fail)
          unfold Held
          refine wpList_store_mid rfl 31 (.tmp 124) (.tmp 123) rfl g (k * 16) #[.int .i64 z1, .int .u8 kk, .int .i64 sn, .int .i64 t1, .int .i64 x1, .int .i64 m1, .string ⟨path1.toArray⟩, .slice A1 data1.length ca, .int .i64 ow1, .int .i64 ve1, .int .i64 cv1, .int .i64 ti1, .int .i64 er1, .int .i64 cver1, .slice B1 ms1.length cb, .slice P1 0 cp] ?_ ?_ ?_ size16 ?_ ?_
          · rfl
          · rfl
          · exact HTH.out
          · simp [Value.oneCell']
          simp only [dcells] at HFIN
          generalize ((w7.setCell ⟨b, 15, none⟩ (.slice (some ⟨g, 0, none⟩) (k + 1) cap)).setCells g (k * 16) _) = w9 at HFIN ⊢
          go_wp2
          go_roundw
          case rel => exact ⟨k + 1, some ⟨g, 0, none⟩, cap, PL ++ [(⟨z1, kk, sn, t1, x1, m1, path1, data1, ow1, ve1, cv1, ti1, er1, (cver1, ms1)⟩, ⟨A1, ca, B1, cb, P1, cp⟩)], s4, by omega, by go_num, by rw [List.length_append, HPL.out]; rfl, HFIN.out, by rw [HR2.out, show n - (k + 1) = q by have := HQ.out; omega]; simp, HLM4.out⟩
          case measure => simp [intOf]; omega
      · have hgf : rGood s4 = false := by simpa using hgood
        rw [hgf] at HR2 ⊢
        clear hgood
        go_wp2
        refine bodyPost_ret (results_none rfl _ _ _) rfl ?_
        refine ⟨rfl, .slice A k cA, PL, ?_, ?_⟩
        · rw [HR2.out]; exact T5.out
        · rw [HR2.out]; simp
    · obtain rfl : k = n := by omega
      go_wp2
      go_end0
      have hr := HR.out
      rw [Nat.sub_self, rdPs] at hr
      refine ⟨rfl, .slice A k cA, PL, ?_, ?_⟩
      · rw [hr]; exact T.out
      · rw [hr]; simp
end Go.Proofs.YtmlmbahimklfiaaGreatDoor

/- Dev -/
namespace Go.Proofs.YtmlmbahimklfiaaGreatDoor
open Go.RowKit

theorem PartAt.low {w0 w1 w : World} {V : Value} {x : Fd × Pl} (h : PartAt w1 w V x) (hs : w0.heap.size ≤ w1.heap.size) : PartAt w0 w V x := by
  obtain ⟨lo, hi, h1, h2⟩ := h.e
  exact ⟨lo, hi, Nat.le_trans hs h1, h2⟩
/-- A deed that was read: its lists are new memory. -/
structure GotD (w0 w : World) (f : Fd) (pl : Pl) (l : List (Fd × Nat)) : Prop where
  d : w.ownsRow w0.heap.size 5 1 (.slice pl.A f.data.length pl.c) f.data.length (bv f.data)
  m : RdM w w0.heap.size w.heap.size pl.B f.c.2
  p : ∃ PL : List (Fd × Pl), l = PL.map (fun x => (x.1, 0)) ∧ w.ownsRow w0.heap.size 31 16 (.slice pl.P l.length pl.e) l.length (pv PL) ∧ ∀ x ∈ PL, PartAt w0 w (.slice pl.P l.length pl.e) x
theorem GotD.low {w0 w1 w : World} {f : Fd} {pl : Pl} {l : List (Fd × Nat)} (h : GotD w1 w f pl l) (hs : w0.heap.size ≤ w1.heap.size) : GotD w0 w f pl l := by
  obtain ⟨PL, h1, h2, h3⟩ := h.p
  exact ⟨own_low h.d hs, h.m.wide hs (Nat.le_refl _), PL, h1, own_low h2 hs, fun x hx => (h3 x hx).low hs⟩
theorem GotD.keep {w0 w w1 : World} {M : Nat → Prop} {f : Fd} {pl : Pl} {l : List (Fd × Nat)} (h : GotD w0 w f pl l) (fr : Fr M w w1) (hm : ∀ k, M k → k < w0.heap.size ∨ w.heap.size ≤ k) : GotD w0 w1 f pl l := by
  obtain ⟨PL, h1, h2, h3⟩ := h.p
  have hfar : ∀ k, w0.heap.size ≤ k → k < w.heap.size → ¬ M k := fun k a b c => by rcases hm k c with h | h <;> omega
  exact ⟨own_by h.d fr (fun g hg => hfar g (h.d.lt g hg).1 (h.d.lt g hg).2), (h.m.fr fr (Nat.le_refl _) hfar).wide (Nat.le_refl _) fr.size, PL, h1, own_by h2 fr (fun g hg => hfar g (h2.lt g hg).1 (h2.lt g hg).2),
    fun x hx => (h3 x hx).keep fr (fun k hk => (hm k hk).elim .inl (fun h => .inr (.inl h))) (fun g hg => .inl hg)⟩
theorem GotD.rd {w0 w : World} {f : Fd} {pl : Pl} {l : List (Fd × Nat)} (h : GotD w0 w f pl l) : RdD w w0.heap.size w.heap.size f pl l := by
  obtain ⟨PL, rfl, ho, hp⟩ := h.p
  refine ⟨own_rd h.d, h.m, fun hl => ?_⟩
  obtain ⟨g, cap, hv, hb, hlt⟩ := ho.form hl
  have hP : pl.P = some ⟨g, 0, none⟩ := by injection hv
  refine ⟨g, 0, hP, hb, hlt, fun i q hq => ?_⟩
  rw [List.getElem?_map] at hq
  cases hx : PL[i]? with
  | none => rw [hx] at hq; cases hq
  | some x =>
    rw [hx] at hq
    simp only [Option.map_some, Option.some.injEq] at hq
    subst hq
    obtain ⟨lo, hi, h1, h2, h3, h4, h5, h6, h7, h8⟩ := (hp x (List.mem_of_getElem? hx)).e
    refine ⟨x.2, fun j v hv => ?_, (own_rd h4).wide h1 (Nat.le_refl _), h6.wide h1 h2⟩
    have := ho.cells (g := g) (by rw [hP]; rfl) (i * 16 + j) v (pv_get hx j v hv)
    rw [Lib.addr_add, Nat.zero_add] at this
    rw [Nat.zero_add]
    exact this
theorem GotD.none (w0 w : World) : GotD w0 w (bareF 0) pl0 [] :=
  ⟨own_nil0 _ _, RdM.nil' _ _ _ _, [], rfl, World.ownsRow_nil _ _ _ _, fun x hx => absurd hx (by simp)⟩
/-- What is read of a kind, parts and all. -/
def rdTail (f : Fd) (st : RSt) : (Fd × List (Fd × Nat)) × RSt :=
  if f.k = 5 ∨ f.k = 8 then (((rdFd f st).1, (rdPs (rCount (rdFd f st).2 500).1.toNat (rCount (rdFd f st).2 500).2).1), (rdPs (rCount (rdFd f st).2 500).1.toNat (rCount (rdFd f st).2 500).2).2)
  else (((rdFd f st).1, []), (rdFd f st).2)
theorem rdDeed_tail (b : List UInt8) : rdDeed b = rdTail (rdHead b).1 (rdHead b).2 := by
  unfold rdDeed rdTail
  rfl
theorem dp_cells (f : Fd) (A : Option Addr) (n c : Nat) : (dcells f pl0 0).setIfInBounds 15 (.slice A n c) = dcells f ⟨none, 0, none, 0, A, c⟩ n := by simp [dcells, pl0]
theorem DP.got {w0 w : World} {lo pr b : Nat} {st : RSt} {f : Fd} {A : Option Addr} {c : Nat} {PL : List (Fd × Pl)} (h : DP w0 w lo pr b st f (.slice A PL.length c) PL) (hd : f.data = []) (hm : f.c.2 = []) : DR w0 w lo pr b st (dcells f ⟨none, 0, none, 0, A, c⟩ PL.length) ∧ GotD w0 w f ⟨none, 0, none, 0, A, c⟩ (PL.map fun x => (x.1, 0)) := by
  refine ⟨by rw [← dp_cells]; exact h.r, ⟨by rw [hd]; exact own_nil0 _ _, by rw [hm]; exact RdM.nil' _ _ _ _, PL, rfl, ?_, ?_⟩⟩
  · rw [List.length_map]; exact h.own
  · rw [List.length_map]; exact h.parts
theorem own_len {w : World} {base e size n n' : Nat} {A : Option Addr} {c : Nat} {xs : List Value} (h : w.ownsRow base e size (.slice A n' c) n xs) : n' = n := by
  rcases h.2 with ⟨h, h0⟩ | ⟨g, cap, cur, h, _⟩
  · injection h with _ h; omega
  · injection h
theorem rdPs_le (n : Nat) (st : RSt) : (rdPs n st).1.length ≤ n := by
  induction n generalizing st with
  | zero => simp [rdPs]
  | succ n ih =>
    rw [rdPs]
    split
    · have := ih (rdPart st).2; simp only [List.length_cons]; omega
    · simp
theorem rdTail_len (f : Fd) (st : RSt) : (rdTail f st).1.2.length ≤ 500 := by
  unfold rdTail
  split
  · have h1 := rCount_range (rdFd f st).2 500 (by omega)
    have h2 := rdPs_le (rCount (rdFd f st).2 500).1.toNat (rCount (rdFd f st).2 500).2
    simp only
    omega
  · simp
theorem dread_all (f : Fd) (lo pr b : Nat) (st : RSt) (w : World) (hf : f.Ok) (hz : f = bareOf f) (ha : Rdr w lo pr st) (h1 : lo ≤ pr) (h2 : pr < b) (hbx : w.heap[b]? = some (.cells (dcells f pl0 0) 31 (0, 0))) (hlim : RLim st) (hH : Has w) (hgp : 0 < pr) :
    Calls Tryz.prog 67 #[.pointer (some ⟨pr, 0, none⟩), .pointer (some ⟨b, 0, none⟩), .bool true] w fun e w' => e = .returned (.tuple #[]) ∧ ∃ pl, DR w w' lo pr b (rdTail f st).2 (dcells (rdTail f st).1.1 pl (rdTail f st).1.2.length) ∧ GotD w w' (rdTail f st).1.1 pl (rdTail f st).1.2 := by
  unfold rdTail
  have hdz : ∀ n, f.k = n → (n = 5 ∨ n = 8) → (rdFd f st).1.data = [] ∧ (rdFd f st).1.c.2 = [] := fun n hn h58 => by
    have e1 : f.data = [] := by rw [hz]; rfl
    have e2 : f.c.2 = [] := by rw [hz]; rfl
    rcases h58 with rfl | rfl <;> simp [rdFd, hn, e1, e2]
  by_cases h5 : f.k = 5
  · rw [if_pos (.inl h5)]
    refine (rdp5_calls f lo pr b st w hz ha h1 h2 hbx hlim hH hgp h5).mono ?_
    rintro e w' ⟨rfl, V, PL, hp, hl⟩
    refine ⟨rfl, ?_⟩
    simp only
    rw [hl]
    obtain ⟨A, c, rfl, _, _⟩ := own_form4 hp.own
    refine ⟨⟨none, 0, none, 0, A, c⟩, ?_⟩
    rw [List.length_map]
    exact hp.got (hdz 5 h5 (.inl rfl)).1 (hdz 5 h5 (.inl rfl)).2
  by_cases h8 : f.k = 8
  · rw [if_pos (.inr h8)]
    refine (rdp8_calls f lo pr b st w hz ha h1 h2 hbx hlim hH hgp h8).mono ?_
    rintro e w' ⟨rfl, V, PL, hp, hl⟩
    refine ⟨rfl, ?_⟩
    simp only
    rw [hl]
    obtain ⟨A, c, rfl, _, _⟩ := own_form4 hp.own
    refine ⟨⟨none, 0, none, 0, A, c⟩, ?_⟩
    rw [List.length_map]
    exact hp.got (hdz 8 h8 (.inr rfl)).1 (hdz 8 h8 (.inr rfl)).2
  · rw [if_neg (by omega)]
    refine (rdFlat_calls f true lo pr b st w hf hz ha h1 h2 hbx hlim hH (fun h => absurd h (by omega))).mono ?_
    rintro e w' ⟨rfl, pl, hg⟩
    refine ⟨rfl, pl, hg.r, hg.d, hg.m, [], rfl, ?_, fun x hx => absurd hx (by simp)⟩
    rw [hg.p.1, hg.p.2]
    exact World.ownsRow_nil _ _ _ _

set_option maxRecDepth 8000 in
set_option maxHeartbeats 6400000 in
theorem dget_calls (A : Option Addr) (b : List UInt8) (c lo hi : Nat) (w : World) (h : Rd w lo hi A b) (hh : hi ≤ w.heap.size) (hl : b.length ≤ 140737488355328) (hH : Has w) :
    Calls Tryz.prog 30 #[.slice A b.length c] w fun e w' => ∃ f pl l zz, e = .returned (.tuple #[dval f pl l.length, .int .i64 zz]) ∧ ((getD b = some (f, l) ∧ zz = 0) ∨ (getD b = none ∧ f = bareF 0 ∧ l = [] ∧ pl = pl0 ∧ zz = 4)) ∧ GotD w w' f pl l ∧ Fr NoB w w' := by
  have HGD : Hid (getD b = if rWhole (rdDeed b).2 = true ∧ Right (rdDeed b).1.1 (rdDeed b).1.2 then some (rdDeed b).1 else none) := rfl
  have hokk := rdDeed_ok b
  have hdt := rdDeed_tail b
  obtain ⟨x0, s0, g0⟩ : ∃ x t, rByte (some b) = (x, t) := ⟨_, _, rfl⟩
  obtain ⟨x1, s1, g1⟩ : ∃ x t, rInt s0 = (x, t) := ⟨_, _, rfl⟩
  obtain ⟨x2, s2, g2⟩ : ∃ x t, rInt s1 = (x, t) := ⟨_, _, rfl⟩
  obtain ⟨x3, s3, g3⟩ : ∃ x t, rInt s2 = (x, t) := ⟨_, _, rfl⟩
  obtain ⟨x4, s4, g4⟩ : ∃ x t, rInt s3 = (x, t) := ⟨_, _, rfl⟩
  obtain ⟨x5, s5, g5⟩ : ∃ x t, rInt s4 = (x, t) := ⟨_, _, rfl⟩
  have hhd : rdHead b = (⟨x1, x0.toNat, x2, x3, x4, x5, [], [], 0, 0, 0, 0, 0, (0, [])⟩, s5) := by simp [rdHead, g0, g1, g2, g3, g4, g5]
  have hhok := rdHead_ok b
  rw [hhd] at hdt hhok
  simp only at hdt hhok
  have hlim0 : RLim s0 := by
    have hl2 := hl
    rcases b with _ | ⟨c0, l0⟩
    · cases g0; trivial
    · cases g0; simp only [RLim, List.length_cons] at hl2 ⊢; omega
  have hlim5 : RLim s5 := by
    have h1 := rInt_lim hlim0; rw [g1] at h1
    have h2 := rInt_lim h1; rw [g2] at h2
    have h3 := rInt_lim h2; rw [g3] at h3
    have h4 := rInt_lim h3; rw [g4] at h4
    have h5 := rInt_lim h4; rw [g5] at h5
    exact h5
  have HLIM := Lib.hid hlim5
  have HHOK := Lib.hid hhok
  obtain ⟨rl, hrl⟩ : ∃ rl, rdDeed b = rl := ⟨_, rfl⟩
  rw [hrl] at HGD hokk hdt
  have HDT := Lib.hid hdt
  have HLN : Hid (rl.1.2.length ≤ 500) := by rw [hdt]; exact rdTail_len _ _
  have HOKK := Lib.hid hokk
  have hb0 := fun W lo p (r : Rdr W lo p (some b)) => rByte_calls lo p (some b) W r
  rw [g0] at hb0
  have hb1 := fun W lo p (r : Rdr W lo p s0) => rInt_calls lo p s0 W r
  rw [g1] at hb1
  have hb2 := fun W lo p (r : Rdr W lo p s1) => rInt_calls lo p s1 W r
  rw [g2] at hb2
  have hb3 := fun W lo p (r : Rdr W lo p s2) => rInt_calls lo p s2 W r
  rw [g3] at hb3
  have hb4 := fun W lo p (r : Rdr W lo p s3) => rInt_calls lo p s3 W r
  rw [g4] at hb4
  have hb5 := fun W lo p (r : Rdr W lo p s4) => rInt_calls lo p s4 W r
  rw [g5] at hb5
  have HB0 := Lib.hid hb0
  have HB1 := Lib.hid hb1
  have HB2 := Lib.hid hb2
  have HB3 := Lib.hid hb3
  have HB4 := Lib.hid hb4
  have HB5 := Lib.hid hb5
  have HR := Lib.hid h
  have HH := Lib.hid hH
  have HHAS := Lib.hid hH.1
  clear h hH hb0 hb1 hb2 hb3 hb4 hb5 g0 g1 g2 g3 g4 g5 hlim0 hlim5 hhd hhok hokk hdt hrl
  go_enter Tryz.func30, Tryz.ntmps30
  go_wp2_with (fail)
  have F0 := Lib.hid ((Fr.refl NoB w).alloc (.cells #[.int .i64 0, .int .u8 0, .int .i64 0, .int .i64 0, .int .i64 0, .int .i64 0, .string ⟨#[]⟩, .slice none 0 0, .int .i64 0, .int .i64 0, .int .i64 0, .int .i64 0, .int .i64 0, .int .i64 0, .slice none 0 0, .slice none 0 0] 31))
  have HRV := Lib.hid (heap_alloc_new w (.cells #[.int .i64 0, .int .u8 0, .int .i64 0, .int .i64 0, .int .i64 0, .int .i64 0, .string ⟨#[]⟩, .slice none 0 0, .int .i64 0, .int .i64 0, .int .i64 0, .int .i64 0, .int .i64 0, .int .i64 0, .slice none 0 0, .slice none 0 0] 31))
  have HSW : Hid ((w.alloc (.cells #[.int .i64 0, .int .u8 0, .int .i64 0, .int .i64 0, .int .i64 0, .int .i64 0, .string ⟨#[]⟩, .slice none 0 0, .int .i64 0, .int .i64 0, .int .i64 0, .int .i64 0, .int .i64 0, .int .i64 0, .slice none 0 0, .slice none 0 0] 31)).heap.size = w.heap.size + 1) := by show _ = _; simp
  generalize w.alloc (.cells #[.int .i64 0, .int .u8 0, .int .i64 0, .int .i64 0, .int .i64 0, .int .i64 0, .string ⟨#[]⟩, .slice none 0 0, .int .i64 0, .int .i64 0, .int .i64 0, .int .i64 0, .int .i64 0, .int .i64 0, .slice none 0 0, .slice none 0 0] 31) = wb at F0 HRV HSW ⊢
  obtain ⟨RV, hRV⟩ : ∃ RV, w.heap.size = RV := ⟨_, rfl⟩
  have HWR := Lib.hid hRV
  rw [hRV] at HRV HSW ⊢
  clear hRV
  refine (rNew_calls A b c lo hi wb (HR.out.fr F0.out hh (fun _ _ _ x => x)) hl).mono ?_
  rintro e w1 ⟨p, rfl, q1, q2, q3, -⟩
  have Q1 := Lib.hid q1
  have Q2 := Lib.hid q2
  have Q3 := Lib.hid q3
  clear q1 q2 q3 HR
  go_wp2_with (fail)
  refine (HB0.out _ _ _ Q2.out).mono ?_
  rintro e w2 ⟨rfl, a2, f2, -⟩
  have A2 := Lib.hid a2
  have F2 := Lib.hid f2
  clear a2 f2 Q2 HB0
  go_wp2_with (fail)
  obtain ⟨w3, hw3⟩ : ∃ w3, w2.alloc (.cells (dcells (bareF x0.toNat) pl0 0) 31) = w3 := ⟨_, rfl⟩
  have T3 := Lib.hid (DR.start (w := w3) (by rw [← hw3]; exact A2.out.fr ((Fr.refl NoB w2).alloc _) (fun _ _ _ x => x) Q1.out) (by rw [← hw3]; exact heap_alloc_new w2 _) Q1.out A2.out.lt)
  have F3 : Hid (Fr NoB wb w3) := by
    rw [← hw3]
    exact (Q3.out.upE F2.out (fun k hk => by simp only [OneB] at hk; have := Q1.out; omega)).alloc _
  simp only [dcells, bareF, pl0, List.length_nil] at T3 hw3
  rw [hw3]
  clear hw3 F2 A2 Q3
  obtain ⟨E, hE⟩ : ∃ E, w2.heap.size = E := ⟨_, rfl⟩
  rw [hE] at T3 ⊢
  clear hE
  refine (HB1.out _ _ _ T3.out.a).mono ?_
  rintro e w4 ⟨rfl, a4, f4, -⟩
  have T4 := Lib.hid (T3.out.read a4 f4)
  clear a4 f4 HB1 T3
  go_wp2_with (fail)
  refine (HB2.out _ _ _ T4.out.a).mono ?_
  rintro e w5 ⟨rfl, a5, f5, -⟩
  have T5 := Lib.hid (T4.out.read a5 f5)
  clear a5 f5 HB2 T4
  have y0 := (cells_of T5.out.bx 0).1
  have n0 := (cells_of T5.out.bx 0).2
  have y2 := (cells_of T5.out.bx 2).1
  have n2 := (cells_of T5.out.bx 2).2
  simp only [List.getElem?_toArray, List.getElem?_cons_zero, List.getElem?_cons_succ] at y0 y2
  have T6 := Lib.hid ((T5.out.set 0 (.int .i64 x1)).set 2 (.int .i64 x2))
  simp only [List.setIfInBounds_toArray, List.set_cons_zero, List.set_cons_succ] at T6
  go_wp2_with (fail)
  clear y0 n0 y2 n2 T5
  generalize (w5.setCell ⟨E, 0, none⟩ (.int .i64 x1)).setCell ⟨E, 2, none⟩ (.int .i64 x2) = w6 at *
  refine (HB3.out _ _ _ T6.out.a).mono ?_
  rintro e w7 ⟨rfl, a7, f7, -⟩
  have T7 := Lib.hid (T6.out.read a7 f7)
  clear a7 f7 HB3 T6
  go_wp2_with (fail)
  refine (HB4.out _ _ _ T7.out.a).mono ?_
  rintro e w8 ⟨rfl, a8, f8, -⟩
  have T8 := Lib.hid (T7.out.read a8 f8)
  clear a8 f8 HB4 T7
  go_wp2_with (fail)
  refine (HB5.out _ _ _ T8.out.a).mono ?_
  rintro e w9 ⟨rfl, a9, f9, -⟩
  have T9 := Lib.hid (T8.out.read a9 f9)
  clear a9 f9 HB5 T8
  have y3 := (cells_of T9.out.bx 3).1
  have n3 := (cells_of T9.out.bx 3).2
  have y4 := (cells_of T9.out.bx 4).1
  have n4 := (cells_of T9.out.bx 4).2
  have y5 := (cells_of T9.out.bx 5).1
  have n5 := (cells_of T9.out.bx 5).2
  simp only [List.getElem?_toArray, List.getElem?_cons_zero, List.getElem?_cons_succ] at y3 y4 y5
  have T10 := Lib.hid (((T9.out.set 3 (.int .i64 x3)).set 4 (.int .i64 x4)).set 5 (.int .i64 x5))
  simp only [List.setIfInBounds_toArray, List.set_cons_zero, List.set_cons_succ] at T10
  go_wp2_with (fail)
  clear y3 n3 y4 n4 y5 n5 T9
  generalize ((w9.setCell ⟨E, 3, none⟩ (.int .i64 x3)).setCell ⟨E, 4, none⟩ (.int .i64 x4)).setCell ⟨E, 5, none⟩ (.int .i64 x5) = w10 at *
  have HLO := Lib.hid T10.out.lo1
  have HPE := Lib.hid T10.out.lo2
  have F10 : Hid (Fr NoB wb w10) := F3.out.upE T10.out.fr (fun k hk => by rcases hk with hk | hk <;> (have := HLO.out; have := HPE.out; omega))
  have hrd := dread_all ⟨x1, x0.toNat, x2, x3, x4, x5, [], [], 0, 0, 0, 0, 0, (0, [])⟩ wb.heap.size p E s5 w10 HHOK.out rfl T10.out.a HLO.out HPE.out T10.out.bx HLIM.out (HH.out.fr (F0.out.then F10.out)) (by have := HHAS.out; have := HLO.out; have := F0.out.size; omega)
  rw [← HDT.out] at hrd
  have HWB : Hid (w.heap.size ≤ w10.heap.size) := Nat.le_trans F0.out.size F10.out.size
  have HRVW : Hid (wb.heap.size ≤ w10.heap.size) := F10.out.size
  have HEB : Hid (E < w10.heap.size) := Lib.lt_of_heap T10.out.bx
  clear T10 HLIM HHOK F3
  refine hrd.mono ?_
  rintro e w11 ⟨rfl, pl, hr, hg⟩
  clear hrd
  obtain ⟨⟨⟨z, k, s, t, x, m, path, data, ow, ve, cv, ti, er, cver, ms⟩, l⟩, st⟩ := rl
  obtain ⟨A1, c1, B1, d1, P1, e1⟩ := pl
  simp only at hr hg
  have R11 := Lib.hid hr
  have G11 := Lib.hid hg
  have F11 : Hid (Fr NoB wb w11) := F10.out.upE hr.fr (fun k hk => by rcases hk with hk | hk <;> (have := HLO.out; have := HPE.out; omega))
  clear hr hg F10
  have hwc := rWhole_calls wb.heap.size p st w11 R11.out.a
  have HWC := Lib.hid hwc
  clear hwc
  go_wp2_with (fail)
  refine HWC.out.mono ?_
  rintro e w12 ⟨rfl, rfl⟩
  clear HWC
  have HRVb : Hid (RV < wb.heap.size) := by have := HSW.out; show _ < _; omega
  by_cases hwh : rWhole st = true
  rotate_left
  · as_aux_lemma =>
    have hwf : rWhole st = false := by simpa using hwh
    rw [hwf]
    have hnone : getD b = none := by rw [HGD.out, if_neg (fun hx => hwh hx.1)]
    have HNONE := Lib.hid hnone
    have HRV2 := Lib.hid (F11.out.at_ HRV.out (fun x => x))
    clear hnone HGD HOKK HDT R11 G11
    go_wp2_with (first | (with_reducible refine held_store (ty := 31) ?_) | fail)
    unfold Held
    refine wpList_store_row rfl 31 _ _ rfl RV #[.int .i64 0, .int .u8 0, .int .i64 0, .int .i64 0, .int .i64 0, .int .i64 0, .string ⟨#[]⟩, .slice none 0 0, .int .i64 0, .int .i64 0, .int .i64 0, .int .i64 0, .int .i64 0, .int .i64 0, .slice none 0 0, .slice none 0 0] ?_ ?_ _ _ HRV2.out size16 rfl (by simp [Value.oneCell']) ?_
    · rfl
    · rfl
    go_wp2
    refine bodyPost_ret (v := .tuple #[.agg #[.int .i64 0, .int .u8 0, .int .i64 0, .int .i64 0, .int .i64 0, .int .i64 0, .string ⟨#[]⟩, .slice none 0 0, .int .i64 0, .int .i64 0, .int .i64 0, .int .i64 0, .int .i64 0, .int .i64 0, .slice none 0 0, .slice none 0 0], .int .i64 4]) (results_row_tmp (fn := Tryz.f30) (p := 2) (u := 3) (ty := 31) (by kernel_rfl) _ _ RV 31 _ _ _ rfl (setRow_heap _ _ _ _ _ _ HRV2.out) Tryz.underlying31 rfl (by kernel_rfl)) rfl ?_
    exact ⟨bareF 0, pl0, [], 4, rfl, .inr ⟨HNONE.out, rfl, rfl, rfl, rfl⟩, GotD.none _ _, (F0.out.then F11.out).setRow (fun hx => absurd hx (by have := HWR.out; omega)) _⟩
  · rw [hwh]
    have hrc := right_calls ⟨z, k, s, t, x, m, path, data, ow, ve, cv, ti, er, (cver, ms)⟩ ⟨A1, c1, B1, d1, P1, e1⟩ l _ _ w11 HOKK.out.1 (by have := HLN.out; omega) (fun q hq => ⟨(HOKK.out.2 q hq).1, by rw [(HOKK.out.2 q hq).2]; omega⟩) G11.out.rd (Nat.le_refl _) (HH.out.fr (F0.out.then F11.out))
    simp only [dval] at hrc
    have HRC := Lib.hid hrc
    have R11b := R11.out.bx
    simp only [dcells] at R11b HRC
    have qq0 := (cells_of R11b 0).1
    have qq1 := (cells_of R11b 1).1
    have qq2 := (cells_of R11b 2).1
    have qq3 := (cells_of R11b 3).1
    have qq4 := (cells_of R11b 4).1
    have qq5 := (cells_of R11b 5).1
    have qq6 := (cells_of R11b 6).1
    have qq7 := (cells_of R11b 7).1
    have qq8 := (cells_of R11b 8).1
    have qq9 := (cells_of R11b 9).1
    have qq10 := (cells_of R11b 10).1
    have qq11 := (cells_of R11b 11).1
    have qq12 := (cells_of R11b 12).1
    have qq13 := (cells_of R11b 13).1
    have qq14 := (cells_of R11b 14).1
    have qq15 := (cells_of R11b 15).1
    simp only [List.getElem?_toArray, List.getElem?_cons_zero, List.getElem?_cons_succ] at qq0 qq1 qq2 qq3 qq4 qq5 qq6 qq7 qq8 qq9 qq10 qq11 qq12 qq13 qq14 qq15
    clear R11b hrc
    go_wp2_with (fail)
    refine HRC.out.mono ?_
    rintro e w13 ⟨rfl, f13⟩
    clear qq0 qq1 qq2 qq3 qq4 qq5 qq6 qq7 qq8 qq9 qq10 qq11 qq12 qq13 qq14 qq15
    have HRV2 := Lib.hid ((F11.out.then f13).at_ HRV.out (fun x => x))
    have F13 := Lib.hid (F11.out.then f13)
    have G13 := Lib.hid (G11.out.keep f13 (fun _ hk => hk.elim))
    have R13 := f13.at_ R11.out.bx (fun x => x)
    simp only [dcells] at R13
    by_cases hright : Right ⟨z, k, s, t, x, m, path, data, ow, ve, cv, ti, er, (cver, ms)⟩ l
    · as_aux_lemma =>
      rw [decide_eq_true hright]
      have hsome : getD b = some (⟨z, k, s, t, x, m, path, data, ow, ve, cv, ti, er, (cver, ms)⟩, l) := by rw [HGD.out, if_pos ⟨hwh, hright⟩]
      have HSOME := Lib.hid hsome
      have HR13 := Lib.hid R13
      have qq0 := (cells_of R13 0).1
      have qq1 := (cells_of R13 1).1
      have qq2 := (cells_of R13 2).1
      have qq3 := (cells_of R13 3).1
      have qq4 := (cells_of R13 4).1
      have qq5 := (cells_of R13 5).1
      have qq6 := (cells_of R13 6).1
      have qq7 := (cells_of R13 7).1
      have qq8 := (cells_of R13 8).1
      have qq9 := (cells_of R13 9).1
      have qq10 := (cells_of R13 10).1
      have qq11 := (cells_of R13 11).1
      have qq12 := (cells_of R13 12).1
      have qq13 := (cells_of R13 13).1
      have qq14 := (cells_of R13 14).1
      have qq15 := (cells_of R13 15).1
      simp only [List.getElem?_toArray, List.getElem?_cons_zero, List.getElem?_cons_succ] at qq0 qq1 qq2 qq3 qq4 qq5 qq6 qq7 qq8 qq9 qq10 qq11 qq12 qq13 qq14 qq15
      clear hsome HGD HOKK HDT R11 G11 HRC hright f13 R13
      go_wp2_with (first | (with_reducible refine held_store (ty := 31) ?_) | fail)
      unfold Held
      refine wpList_store_row rfl 31 _ _ rfl RV #[.int .i64 z, .int .u8 k, .int .i64 s, .int .i64 t, .int .i64 x, .int .i64 m, .string ⟨path.toArray⟩, .slice A1 data.length c1, .int .i64 ow, .int .i64 ve, .int .i64 cv, .int .i64 ti, .int .i64 er, .int .i64 cver, .slice B1 ms.length d1, .slice P1 l.length e1] ?_ ?_ _ _ HRV2.out size16 rfl (by simp [Value.oneCell']) ?_
      · rfl
      · rfl
      clear qq0 qq1 qq2 qq3 qq4 qq5 qq6 qq7 qq8 qq9 qq10 qq11 qq12 qq13 qq14 qq15
      go_wp2
      refine bodyPost_ret (v := .tuple #[.agg #[.int .i64 z, .int .u8 k, .int .i64 s, .int .i64 t, .int .i64 x, .int .i64 m, .string ⟨path.toArray⟩, .slice A1 data.length c1, .int .i64 ow, .int .i64 ve, .int .i64 cv, .int .i64 ti, .int .i64 er, .int .i64 cver, .slice B1 ms.length d1, .slice P1 l.length e1], .int .i64 0]) (results_row_tmp (fn := Tryz.f30) (p := 2) (u := 3) (ty := 31) (by kernel_rfl) _ _ RV 31 _ _ _ rfl (setRow_heap _ _ _ _ _ _ HRV2.out) Tryz.underlying31 rfl (by kernel_rfl)) rfl ?_
      refine ⟨⟨z, k, s, t, x, m, path, data, ow, ve, cv, ti, er, (cver, ms)⟩, ⟨A1, c1, B1, d1, P1, e1⟩, l, 0, rfl, .inl ⟨HSOME.out, rfl⟩, ?_, (F0.out.then F13.out).setRow (fun hx => absurd hx (by have := HWR.out; omega)) _⟩
      exact ((G13.out.keep ((Fr.refl (OneB RV) w13).setRow (fun _ => rfl) _) (fun k hk => .inl (by simp only [OneB] at hk; have := HRVb.out; have := HRVW.out; omega))).low HWB.out)
    · as_aux_lemma =>
      rw [decide_eq_false hright]
      have hnone : getD b = none := by rw [HGD.out, if_neg (fun hx => hright hx.2)]
      have HNONE := Lib.hid hnone
      clear hnone HGD HOKK HDT R11 G11 HRC hright f13 R13
      go_wp2_with (first | (with_reducible refine held_store (ty := 31) ?_) | fail)
      unfold Held
      refine wpList_store_row rfl 31 _ _ rfl RV #[.int .i64 0, .int .u8 0, .int .i64 0, .int .i64 0, .int .i64 0, .int .i64 0, .string ⟨#[]⟩, .slice none 0 0, .int .i64 0, .int .i64 0, .int .i64 0, .int .i64 0, .int .i64 0, .int .i64 0, .slice none 0 0, .slice none 0 0] ?_ ?_ _ _ HRV2.out size16 rfl (by simp [Value.oneCell']) ?_
      · rfl
      · rfl
      go_wp2
      refine bodyPost_ret (v := .tuple #[.agg #[.int .i64 0, .int .u8 0, .int .i64 0, .int .i64 0, .int .i64 0, .int .i64 0, .string ⟨#[]⟩, .slice none 0 0, .int .i64 0, .int .i64 0, .int .i64 0, .int .i64 0, .int .i64 0, .int .i64 0, .slice none 0 0, .slice none 0 0], .int .i64 4]) (results_row_tmp (fn := Tryz.f30) (p := 2) (u := 3) (ty := 31) (by kernel_rfl) _ _ RV 31 _ _ _ rfl (setRow_heap _ _ _ _ _ _ HRV2.out) Tryz.underlying31 rfl (by kernel_rfl)) rfl ?_
      exact ⟨bareF 0, pl0, [], 4, rfl, .inr ⟨HNONE.out, rfl, rfl, rfl, rfl⟩, GotD.none _ _, (F0.out.then F13.out).setRow (fun hx => absurd hx (by have := HWR.out; omega)) _⟩
end Go.Proofs.YtmlmbahimklfiaaGreatDoor
