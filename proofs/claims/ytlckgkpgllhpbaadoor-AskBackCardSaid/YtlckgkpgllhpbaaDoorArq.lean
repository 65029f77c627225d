/-
  Arq: Ard, Are, Arp, Arq.
-/
import Derived.Test.YtlckgkpgllhpbaaDoorAbk
import Derived.Deep.RegionHeld3
import Derived.Deep.AppendLies
import Derived.Test.YtlckgkpgllhpbaaDoorEnf
import Derived.Test.YtlckgkpgllhpbaaDoorAbe
import Derived.Deep.DrawnRows
import Derived.Deep.RegionLaw
/- Ard -/
namespace Go.Proofs.YtlckgkpgllhpbaaDoor
open Go.RowKit

def ReadA (pr b : Nat) : Nat → Prop := fun k => k = pr ∨ k = b
/-- A reader, a call's box behind it. -/
structure AR (w0 w : World) (lo pr b : Nat) (st : RSt) (cs : Array Value) : Prop where
  a : Rdr w lo pr st
  fr : Fr (ReadA pr b) w0 w
  bx : w.heap[b]? = some (.cells cs 29 (0, 0))
  lo1 : lo ≤ pr
  lo2 : pr < b
theorem AR.read {w0 w w1 : World} {lo pr b : Nat} {st st1 : RSt} {cs : Array Value} (h : AR w0 w lo pr b st cs) (a : Rdr w1 lo pr st1) (f : Fr (OneB pr) w w1) : AR w0 w1 lo pr b st1 cs :=
  ⟨a, h.fr.trans f (fun k _ hx => .inl hx), f.at_ h.bx (by have := h.lo2; simp only [OneB]; omega), h.lo1, h.lo2⟩
theorem AR.keep {w0 w w1 : World} {lo pr b : Nat} {st : RSt} {cs : Array Value} (h : AR w0 w lo pr b st cs) (f : Fr NoB w w1) : AR w0 w1 lo pr b st cs :=
  ⟨h.a.fr f (fun _ _ _ x => x) h.lo1, h.fr.trans f (fun _ _ x => x.elim), f.at_ h.bx (fun x => x), h.lo1, h.lo2⟩
theorem AR.set {w0 w : World} {lo pr b : Nat} {st : RSt} {cs : Array Value} (h : AR w0 w lo pr b st cs) (i : Nat) (u : Value) : AR w0 (w.setCell ⟨b, i, none⟩ u) lo pr b st (cs.setIfInBounds i u) := by
  have f : Fr (OneB b) w (w.setCell ⟨b, i, none⟩ u) := (Fr.refl (OneB b) w).setCell (p := ⟨b, i, none⟩) (fun _ => rfl) u
  exact ⟨h.a.fr f (fun k _ hk hx => by have := h.lo2; simp only [OneB] at hx; omega) h.lo1, h.fr.trans f (fun k _ hx => .inr hx), by rw [heap_set h.bx], h.lo1, h.lo2⟩
theorem AR.cell {w0 w : World} {lo pr b : Nat} {st : RSt} {cs : Array Value} (h : AR w0 w lo pr b st cs) (i : Nat) (v : Value) (hv : cs[i]? = some v) : w.cell? ⟨b, i, none⟩ = some v ∧ w.frozen? ⟨b, i, none⟩ = false := ⟨(cells_of h.bx i).1.trans hv, (cells_of h.bx i).2⟩
theorem AR.start {w : World} {lo pr b : Nat} {st : RSt} {cs : Array Value} (a : Rdr w lo pr st) (bx : w.heap[b]? = some (.cells cs 29 (0, 0))) (h1 : lo ≤ pr) (h2 : pr < b) : AR w w lo pr b st cs := ⟨a, Fr.refl _ _, bx, h1, h2⟩
/-- A call that was read: its box, its lists. -/
structure GotA (w0 w : World) (lo pr b : Nat) (st : RSt) (f : Fa) (pl : Pl) : Prop where
  r : AR w0 w lo pr b st (acells f pl 0)
  d : w.ownsRow w0.heap.size 5 1 (.slice pl.A f.data.length pl.c) f.data.length (bv f.data)
  m : RdM w w0.heap.size w.heap.size pl.B f.ms
  p : pl.P = none ∧ pl.e = 0
theorem own_nil0 (w : World) (B : Nat) : w.ownsRow B 5 1 (.slice none 0 0) 0 (bv []) := World.ownsRow_nil _ _ _ _
theorem RdM.nil' (w : World) (lo hi : Nat) (A : Option Addr) : RdM w lo hi A [] := fun h => absurd h (by simp)
set_option maxHeartbeats 3200000 in
set_option maxRecDepth 8000 in
theorem ard1_calls (f : Fa) (deep : Bool) (lo pr b : Nat) (st : RSt) (w : World) (hz : f = bareAO f) (ha : Rdr w lo pr st) (h1 : lo ≤ pr) (h2 : pr < b) (hbx : w.heap[b]? = some (.cells (acells f pl0 0) 29 (0, 0))) (hlim : RLim st) (hk : f.k = 1) :
    Calls Tryd.prog 50 #[.pointer (some ⟨pr, 0, none⟩), .pointer (some ⟨b, 0, none⟩), .bool deep] w fun e w' => e = .returned (.bool (rdFa f st).1.2) ∧ ∃ pl, GotA w w' lo pr b (rdFa f st).2 (rdFa f st).1.1 pl := by
  obtain ⟨k, x, s, t, path, data, fl, ve, wa, so, la, ti, fr, ms⟩ := f
  simp only [bareAO, Fa.mk.injEq, true_and] at hz
  obtain ⟨rfl, rfl, rfl, rfl, rfl, rfl, rfl, rfl, rfl, rfl⟩ := hz
  simp only at hk
  subst hk
  have KP := fun W => kp_false (k := 1) W (by decide) (by decide)
  have KD := fun W => kd_false (k := 1) W (by decide) (by decide)
  have KV := fun W => kv_false (k := 1) W (by decide) (by decide)
  have KW := fun W => kw_false (k := 1) W (by decide) (by decide)
  have KL := fun W => kl_true (k := 1) W (by decide) (by decide)
  have T0 := Lib.hid (AR.start ha hbx h1 h2)
  have d1 := T0.out.cell 0 _ rfl
  obtain ⟨d1, -⟩ := d1
  have HLIM := Lib.hid hlim
  obtain ⟨x0, s1, g0⟩ : ∃ x t, rInt st = (x, t) := ⟨_, _, rfl⟩
  have hc0 := fun W (r : Rdr W lo pr st) => rInt_calls lo pr st W r
  rw [g0] at hc0
  obtain ⟨x1, s2, g1⟩ : ∃ x t, rInt s1 = (x, t) := ⟨_, _, rfl⟩
  have hc1 := fun W (r : Rdr W lo pr s1) => rInt_calls lo pr s1 W r
  rw [g1] at hc1
  have HFIN : Hid (rdFa ⟨1, x, s, t, [], [], 0, 0, false, 0, 0, 0, 0, []⟩ st = ((⟨1, x, s, t, [], [], 0, 0, false, 0, x0, x1, 0, []⟩, true), s2)) := by show _ = _; simp [rdFa, g0, g1]
  have HC0 := Lib.hid hc0
  have HC1 := Lib.hid hc1
  simp only [acells, pl0] at *
  clear ha hbx hlim hc0 hc1 g0 g1
  go_enter Tryd.func50, Tryd.ntmps50
  go_wp2_with (first | ((with_reducible refine (KP _).mono ?_); rintro e w' ⟨rfl, rfl⟩) | ((with_reducible refine (KD _).mono ?_); rintro e w' ⟨rfl, rfl⟩) | ((with_reducible refine (KV _).mono ?_); rintro e w' ⟨rfl, rfl⟩) | ((with_reducible refine (KW _).mono ?_); rintro e w' ⟨rfl, rfl⟩) | ((with_reducible refine (KL _).mono ?_); rintro e w' ⟨rfl, rfl⟩) | fail)
  refine (HC0.out _ T0.out.a).mono ?_
  rintro e v0 ⟨rfl, a0, f0, -⟩
  have U0 := Lib.hid (T0.out.read a0 f0)
  clear a0 f0 T0
  have y := (cells_of U0.out.bx 10).1
  have n := (cells_of U0.out.bx 10).2
  simp only [List.getElem?_toArray, List.getElem?_cons_zero, List.getElem?_cons_succ] at y
  have T1 := Lib.hid (U0.out.set 10 (.int .i64 x0))
  simp only [List.setIfInBounds_toArray, List.set_cons_zero, List.set_cons_succ] at T1
  go_wp2_with (first | ((with_reducible refine (KP _).mono ?_); rintro e w' ⟨rfl, rfl⟩) | ((with_reducible refine (KD _).mono ?_); rintro e w' ⟨rfl, rfl⟩) | ((with_reducible refine (KV _).mono ?_); rintro e w' ⟨rfl, rfl⟩) | ((with_reducible refine (KW _).mono ?_); rintro e w' ⟨rfl, rfl⟩) | ((with_reducible refine (KL _).mono ?_); rintro e w' ⟨rfl, rfl⟩) | fail)
  clear y n
  generalize v0.setCell ⟨b, 10, none⟩ (.int .i64 x0) = t0 at *
  refine (HC1.out _ T1.out.a).mono ?_
  rintro e v1 ⟨rfl, a1, f1, -⟩
  have U1 := Lib.hid (T1.out.read a1 f1)
  clear a1 f1 T1
  have y := (cells_of U1.out.bx 11).1
  have n := (cells_of U1.out.bx 11).2
  simp only [List.getElem?_toArray, List.getElem?_cons_zero, List.getElem?_cons_succ] at y
  have T2 := Lib.hid (U1.out.set 11 (.int .i64 x1))
  simp only [List.setIfInBounds_toArray, List.set_cons_zero, List.set_cons_succ] at T2
  go_wp2_with (first | ((with_reducible refine (KP _).mono ?_); rintro e w' ⟨rfl, rfl⟩) | ((with_reducible refine (KD _).mono ?_); rintro e w' ⟨rfl, rfl⟩) | ((with_reducible refine (KV _).mono ?_); rintro e w' ⟨rfl, rfl⟩) | ((with_reducible refine (KW _).mono ?_); rintro e w' ⟨rfl, rfl⟩) | ((with_reducible refine (KL _).mono ?_); rintro e w' ⟨rfl, rfl⟩) | fail)
  clear y n
  go_ret
  refine ⟨by rw [HFIN.out]; rfl, ?_⟩
  rw [HFIN.out]
  exact ⟨pl0, T2.out, own_nil0 _ _, RdM.nil' _ _ _ _, rfl, rfl⟩
set_option maxHeartbeats 3200000 in
set_option maxRecDepth 8000 in
theorem ard2_calls (f : Fa) (deep : Bool) (lo pr b : Nat) (st : RSt) (w : World) (hz : f = bareAO f) (ha : Rdr w lo pr st) (h1 : lo ≤ pr) (h2 : pr < b) (hbx : w.heap[b]? = some (.cells (acells f pl0 0) 29 (0, 0))) (hlim : RLim st) (hk : f.k = 2) :
    Calls Tryd.prog 50 #[.pointer (some ⟨pr, 0, none⟩), .pointer (some ⟨b, 0, none⟩), .bool deep] w fun e w' => e = .returned (.bool (rdFa f st).1.2) ∧ ∃ pl, GotA w w' lo pr b (rdFa f st).2 (rdFa f st).1.1 pl := by
  obtain ⟨k, x, s, t, path, data, fl, ve, wa, so, la, ti, fr, ms⟩ := f
  simp only [bareAO, Fa.mk.injEq, true_and] at hz
  obtain ⟨rfl, rfl, rfl, rfl, rfl, rfl, rfl, rfl, rfl, rfl⟩ := hz
  simp only at hk
  subst hk
  have KP := fun W => kp_false (k := 2) W (by decide) (by decide)
  have KD := fun W => kd_false (k := 2) W (by decide) (by decide)
  have KV := fun W => kv_false (k := 2) W (by decide) (by decide)
  have KW := fun W => kw_false (k := 2) W (by decide) (by decide)
  have KL := fun W => kl_false (k := 2) W (by decide) (by decide)
  have T0 := Lib.hid (AR.start ha hbx h1 h2)
  have d1 := T0.out.cell 0 _ rfl
  obtain ⟨d1, -⟩ := d1
  have HLIM := Lib.hid hlim
  have HFIN : Hid (rdFa ⟨2, x, s, t, [], [], 0, 0, false, 0, 0, 0, 0, []⟩ st = ((⟨2, x, s, t, [], [], 0, 0, false, 0, 0, 0, 0, []⟩, true), st)) := by show _ = _; simp [rdFa]
  simp only [acells, pl0] at *
  clear ha hbx hlim 
  go_enter Tryd.func50, Tryd.ntmps50
  go_wp2_with (first | ((with_reducible refine (KP _).mono ?_); rintro e w' ⟨rfl, rfl⟩) | ((with_reducible refine (KD _).mono ?_); rintro e w' ⟨rfl, rfl⟩) | ((with_reducible refine (KV _).mono ?_); rintro e w' ⟨rfl, rfl⟩) | ((with_reducible refine (KW _).mono ?_); rintro e w' ⟨rfl, rfl⟩) | ((with_reducible refine (KL _).mono ?_); rintro e w' ⟨rfl, rfl⟩) | fail)
  go_ret
  refine ⟨by rw [HFIN.out]; rfl, ?_⟩
  rw [HFIN.out]
  exact ⟨pl0, T0.out, own_nil0 _ _, RdM.nil' _ _ _ _, rfl, rfl⟩
set_option maxHeartbeats 3200000 in
set_option maxRecDepth 8000 in
theorem ard3_calls (f : Fa) (deep : Bool) (lo pr b : Nat) (st : RSt) (w : World) (hz : f = bareAO f) (ha : Rdr w lo pr st) (h1 : lo ≤ pr) (h2 : pr < b) (hbx : w.heap[b]? = some (.cells (acells f pl0 0) 29 (0, 0))) (hlim : RLim st) (hk : f.k = 3) :
    Calls Tryd.prog 50 #[.pointer (some ⟨pr, 0, none⟩), .pointer (some ⟨b, 0, none⟩), .bool deep] w fun e w' => e = .returned (.bool (rdFa f st).1.2) ∧ ∃ pl, GotA w w' lo pr b (rdFa f st).2 (rdFa f st).1.1 pl := by
  obtain ⟨k, x, s, t, path, data, fl, ve, wa, so, la, ti, fr, ms⟩ := f
  simp only [bareAO, Fa.mk.injEq, true_and] at hz
  obtain ⟨rfl, rfl, rfl, rfl, rfl, rfl, rfl, rfl, rfl, rfl⟩ := hz
  simp only at hk
  subst hk
  have KP := fun W => kp_true (k := 3) W (by decide) (by decide)
  have KD := fun W => kd_true (k := 3) W (by decide) (by decide)
  have KV := fun W => kv_false (k := 3) W (by decide) (by decide)
  have KW := fun W => kw_false (k := 3) W (by decide) (by decide)
  have KL := fun W => kl_false (k := 3) W (by decide) (by decide)
  have T0 := Lib.hid (AR.start ha hbx h1 h2)
  have d1 := T0.out.cell 0 _ rfl
  obtain ⟨d1, -⟩ := d1
  have HLIM := Lib.hid hlim
  obtain ⟨x0, s1, g0⟩ : ∃ x t, rBytes st 220 = (x, t) := ⟨_, _, rfl⟩
  have hc0 := fun W (r : Rdr W lo pr st) => rText_calls lo pr st 220 W r
  rw [g0] at hc0
  have hlim1 : RLim s1 := by have := rBytes_lim (m := 220) hlim; rw [g0] at this; exact this
  obtain ⟨x1, s2, g1⟩ : ∃ x t, rBytes s1 1000 = (x, t) := ⟨_, _, rfl⟩
  have hc1 := fun W (r : Rdr W lo pr s1) => rBytes_calls lo pr s1 1000 W r h1 hlim1
  rw [g1] at hc1
  obtain ⟨x2, s3, g2⟩ : ∃ x t, rInt s2 = (x, t) := ⟨_, _, rfl⟩
  have hc2 := fun W (r : Rdr W lo pr s2) => rInt_calls lo pr s2 W r
  rw [g2] at hc2
  have HFIN : Hid (rdFa ⟨3, x, s, t, [], [], 0, 0, false, 0, 0, 0, 0, []⟩ st = ((⟨3, x, s, t, x0, x1, x2, 0, false, 0, 0, 0, 0, []⟩, true), s3)) := by show _ = _; simp [rdFa, g0, g1, g2]
  have HC0 := Lib.hid hc0
  have HC1 := Lib.hid hc1
  have HC2 := Lib.hid hc2
  simp only [acells, pl0] at *
  clear ha hbx hlim hc0 hc1 hc2 g0 g1 g2 hlim1
  go_enter Tryd.func50, Tryd.ntmps50
  go_wp2_with (first | ((with_reducible refine (KP _).mono ?_); rintro e w' ⟨rfl, rfl⟩) | ((with_reducible refine (KD _).mono ?_); rintro e w' ⟨rfl, rfl⟩) | ((with_reducible refine (KV _).mono ?_); rintro e w' ⟨rfl, rfl⟩) | ((with_reducible refine (KW _).mono ?_); rintro e w' ⟨rfl, rfl⟩) | ((with_reducible refine (KL _).mono ?_); rintro e w' ⟨rfl, rfl⟩) | fail)
  refine (HC0.out _ T0.out.a).mono ?_
  rintro e v0 ⟨rfl, a0, f0, -⟩
  have U0 := Lib.hid (T0.out.read a0 f0)
  clear a0 f0 T0
  have y := (cells_of U0.out.bx 4).1
  have n := (cells_of U0.out.bx 4).2
  simp only [List.getElem?_toArray, List.getElem?_cons_zero, List.getElem?_cons_succ] at y
  have T1 := Lib.hid (U0.out.set 4 (.string ⟨x0.toArray⟩))
  simp only [List.setIfInBounds_toArray, List.set_cons_zero, List.set_cons_succ] at T1
  go_wp2_with (first | ((with_reducible refine (KP _).mono ?_); rintro e w' ⟨rfl, rfl⟩) | ((with_reducible refine (KD _).mono ?_); rintro e w' ⟨rfl, rfl⟩) | ((with_reducible refine (KV _).mono ?_); rintro e w' ⟨rfl, rfl⟩) | ((with_reducible refine (KW _).mono ?_); rintro e w' ⟨rfl, rfl⟩) | ((with_reducible refine (KL _).mono ?_); rintro e w' ⟨rfl, rfl⟩) | fail)
  clear y n
  generalize v0.setCell ⟨b, 4, none⟩ (.string ⟨x0.toArray⟩) = t0 at *
  refine (HC1.out _ T1.out.a).mono ?_
  rintro e v1 ⟨y1, rfl, o1, a1, f1⟩
  obtain ⟨DA, dc, rfl, -, -⟩ := own_form o1
  have HO := Lib.hid (own_low o1 T1.out.fr.size)
  have U1 := Lib.hid (T1.out.read a1 f1)
  have HDB := Lib.hid (fun g (hg : (Value.slice DA x1.length dc).ownBlock = some g) => Nat.ne_of_gt (Nat.lt_of_lt_of_le (Lib.lt_of_heap T1.out.bx) (o1.lt g hg).1))
  have HDP := Lib.hid (fun g (hg : (Value.slice DA x1.length dc).ownBlock = some g) => Nat.ne_of_gt (Nat.lt_of_lt_of_le (Nat.lt_trans h2 (Lib.lt_of_heap T1.out.bx)) (o1.lt g hg).1))
  clear a1 f1 o1 T1
  have y := (cells_of U1.out.bx 5).1
  have n := (cells_of U1.out.bx 5).2
  simp only [List.getElem?_toArray, List.getElem?_cons_zero, List.getElem?_cons_succ] at y
  have T2 := Lib.hid (U1.out.set 5 (.slice DA x1.length dc))
  simp only [List.setIfInBounds_toArray, List.set_cons_zero, List.set_cons_succ] at T2
  have HOs1 := Lib.hid (own_by HO.out ((Fr.refl (OneB b) v1).setCell (p := ⟨b, 5, none⟩) (fun _ => rfl) (.slice DA x1.length dc)) (fun g hg hx => HDB.out g hg hx))
  clear HO
  go_wp2_with (first | ((with_reducible refine (KP _).mono ?_); rintro e w' ⟨rfl, rfl⟩) | ((with_reducible refine (KD _).mono ?_); rintro e w' ⟨rfl, rfl⟩) | ((with_reducible refine (KV _).mono ?_); rintro e w' ⟨rfl, rfl⟩) | ((with_reducible refine (KW _).mono ?_); rintro e w' ⟨rfl, rfl⟩) | ((with_reducible refine (KL _).mono ?_); rintro e w' ⟨rfl, rfl⟩) | fail)
  clear y n
  generalize v1.setCell ⟨b, 5, none⟩ (.slice DA x1.length dc) = t1 at *
  refine (HC2.out _ T2.out.a).mono ?_
  rintro e v2 ⟨rfl, a2, f2, -⟩
  have U2 := Lib.hid (T2.out.read a2 f2)
  have HO2 := Lib.hid (own_by HOs1.out f2 (fun g hg hx => HDP.out g hg hx))
  clear HOs1
  clear a2 f2 T2
  have y := (cells_of U2.out.bx 6).1
  have n := (cells_of U2.out.bx 6).2
  simp only [List.getElem?_toArray, List.getElem?_cons_zero, List.getElem?_cons_succ] at y
  have T3 := Lib.hid (U2.out.set 6 (.int .i64 x2))
  simp only [List.setIfInBounds_toArray, List.set_cons_zero, List.set_cons_succ] at T3
  have HOs2 := Lib.hid (own_by HO2.out ((Fr.refl (OneB b) v2).setCell (p := ⟨b, 6, none⟩) (fun _ => rfl) (.int .i64 x2)) (fun g hg hx => HDB.out g hg hx))
  clear HO2
  go_wp2_with (first | ((with_reducible refine (KP _).mono ?_); rintro e w' ⟨rfl, rfl⟩) | ((with_reducible refine (KD _).mono ?_); rintro e w' ⟨rfl, rfl⟩) | ((with_reducible refine (KV _).mono ?_); rintro e w' ⟨rfl, rfl⟩) | ((with_reducible refine (KW _).mono ?_); rintro e w' ⟨rfl, rfl⟩) | ((with_reducible refine (KL _).mono ?_); rintro e w' ⟨rfl, rfl⟩) | fail)
  clear y n
  go_ret
  refine ⟨by rw [HFIN.out]; rfl, ?_⟩
  rw [HFIN.out]
  exact ⟨⟨DA, dc, none, 0, none, 0⟩, T3.out, HOs2.out, RdM.nil' _ _ _ _, rfl, rfl⟩
set_option maxHeartbeats 3200000 in
set_option maxRecDepth 8000 in
theorem ard4_calls (f : Fa) (deep : Bool) (lo pr b : Nat) (st : RSt) (w : World) (hz : f = bareAO f) (ha : Rdr w lo pr st) (h1 : lo ≤ pr) (h2 : pr < b) (hbx : w.heap[b]? = some (.cells (acells f pl0 0) 29 (0, 0))) (hlim : RLim st) (hk : f.k = 4) :
    Calls Tryd.prog 50 #[.pointer (some ⟨pr, 0, none⟩), .pointer (some ⟨b, 0, none⟩), .bool deep] w fun e w' => e = .returned (.bool (rdFa f st).1.2) ∧ ∃ pl, GotA w w' lo pr b (rdFa f st).2 (rdFa f st).1.1 pl := by
  obtain ⟨k, x, s, t, path, data, fl, ve, wa, so, la, ti, fr, ms⟩ := f
  simp only [bareAO, Fa.mk.injEq, true_and] at hz
  obtain ⟨rfl, rfl, rfl, rfl, rfl, rfl, rfl, rfl, rfl, rfl⟩ := hz
  simp only at hk
  subst hk
  have KP := fun W => kp_true (k := 4) W (by decide) (by decide)
  have KD := fun W => kd_false (k := 4) W (by decide) (by decide)
  have KV := fun W => kv_true (k := 4) W (by decide) (by decide)
  have KW := fun W => kw_false (k := 4) W (by decide) (by decide)
  have KL := fun W => kl_false (k := 4) W (by decide) (by decide)
  have T0 := Lib.hid (AR.start ha hbx h1 h2)
  have d1 := T0.out.cell 0 _ rfl
  obtain ⟨d1, -⟩ := d1
  have HLIM := Lib.hid hlim
  obtain ⟨x0, s1, g0⟩ : ∃ x t, rBytes st 220 = (x, t) := ⟨_, _, rfl⟩
  have hc0 := fun W (r : Rdr W lo pr st) => rText_calls lo pr st 220 W r
  rw [g0] at hc0
  have hlim1 : RLim s1 := by have := rBytes_lim (m := 220) hlim; rw [g0] at this; exact this
  obtain ⟨x1, s2, g1⟩ : ∃ x t, rInt s1 = (x, t) := ⟨_, _, rfl⟩
  have hc1 := fun W (r : Rdr W lo pr s1) => rInt_calls lo pr s1 W r
  rw [g1] at hc1
  have HFIN : Hid (rdFa ⟨4, x, s, t, [], [], 0, 0, false, 0, 0, 0, 0, []⟩ st = ((⟨4, x, s, t, x0, [], 0, x1, false, 0, 0, 0, 0, []⟩, true), s2)) := by show _ = _; simp [rdFa, g0, g1]
  have HC0 := Lib.hid hc0
  have HC1 := Lib.hid hc1
  simp only [acells, pl0] at *
  clear ha hbx hlim hc0 hc1 g0 g1 hlim1
  go_enter Tryd.func50, Tryd.ntmps50
  go_wp2_with (first | ((with_reducible refine (KP _).mono ?_); rintro e w' ⟨rfl, rfl⟩) | ((with_reducible refine (KD _).mono ?_); rintro e w' ⟨rfl, rfl⟩) | ((with_reducible refine (KV _).mono ?_); rintro e w' ⟨rfl, rfl⟩) | ((with_reducible refine (KW _).mono ?_); rintro e w' ⟨rfl, rfl⟩) | ((with_reducible refine (KL _).mono ?_); rintro e w' ⟨rfl, rfl⟩) | fail)
  refine (HC0.out _ T0.out.a).mono ?_
  rintro e v0 ⟨rfl, a0, f0, -⟩
  have U0 := Lib.hid (T0.out.read a0 f0)
  clear a0 f0 T0
  have y := (cells_of U0.out.bx 4).1
  have n := (cells_of U0.out.bx 4).2
  simp only [List.getElem?_toArray, List.getElem?_cons_zero, List.getElem?_cons_succ] at y
  have T1 := Lib.hid (U0.out.set 4 (.string ⟨x0.toArray⟩))
  simp only [List.setIfInBounds_toArray, List.set_cons_zero, List.set_cons_succ] at T1
  go_wp2_with (first | ((with_reducible refine (KP _).mono ?_); rintro e w' ⟨rfl, rfl⟩) | ((with_reducible refine (KD _).mono ?_); rintro e w' ⟨rfl, rfl⟩) | ((with_reducible refine (KV _).mono ?_); rintro e w' ⟨rfl, rfl⟩) | ((with_reducible refine (KW _).mono ?_); rintro e w' ⟨rfl, rfl⟩) | ((with_reducible refine (KL _).mono ?_); rintro e w' ⟨rfl, rfl⟩) | fail)
  clear y n
  generalize v0.setCell ⟨b, 4, none⟩ (.string ⟨x0.toArray⟩) = t0 at *
  refine (HC1.out _ T1.out.a).mono ?_
  rintro e v1 ⟨rfl, a1, f1, -⟩
  have U1 := Lib.hid (T1.out.read a1 f1)
  clear a1 f1 T1
  have y := (cells_of U1.out.bx 7).1
  have n := (cells_of U1.out.bx 7).2
  simp only [List.getElem?_toArray, List.getElem?_cons_zero, List.getElem?_cons_succ] at y
  have T2 := Lib.hid (U1.out.set 7 (.int .i64 x1))
  simp only [List.setIfInBounds_toArray, List.set_cons_zero, List.set_cons_succ] at T2
  go_wp2_with (first | ((with_reducible refine (KP _).mono ?_); rintro e w' ⟨rfl, rfl⟩) | ((with_reducible refine (KD _).mono ?_); rintro e w' ⟨rfl, rfl⟩) | ((with_reducible refine (KV _).mono ?_); rintro e w' ⟨rfl, rfl⟩) | ((with_reducible refine (KW _).mono ?_); rintro e w' ⟨rfl, rfl⟩) | ((with_reducible refine (KL _).mono ?_); rintro e w' ⟨rfl, rfl⟩) | fail)
  clear y n
  go_ret
  refine ⟨by rw [HFIN.out]; rfl, ?_⟩
  rw [HFIN.out]
  exact ⟨pl0, T2.out, own_nil0 _ _, RdM.nil' _ _ _ _, rfl, rfl⟩
set_option maxHeartbeats 3200000 in
set_option maxRecDepth 8000 in
theorem ard5_calls (f : Fa) (deep : Bool) (lo pr b : Nat) (st : RSt) (w : World) (hz : f = bareAO f) (ha : Rdr w lo pr st) (h1 : lo ≤ pr) (h2 : pr < b) (hbx : w.heap[b]? = some (.cells (acells f pl0 0) 29 (0, 0))) (hlim : RLim st) (hk : f.k = 5) :
    Calls Tryd.prog 50 #[.pointer (some ⟨pr, 0, none⟩), .pointer (some ⟨b, 0, none⟩), .bool deep] w fun e w' => e = .returned (.bool (rdFa f st).1.2) ∧ ∃ pl, GotA w w' lo pr b (rdFa f st).2 (rdFa f st).1.1 pl := by
  obtain ⟨k, x, s, t, path, data, fl, ve, wa, so, la, ti, fr, ms⟩ := f
  simp only [bareAO, Fa.mk.injEq, true_and] at hz
  obtain ⟨rfl, rfl, rfl, rfl, rfl, rfl, rfl, rfl, rfl, rfl⟩ := hz
  simp only at hk
  subst hk
  have KP := fun W => kp_true (k := 5) W (by decide) (by decide)
  have KD := fun W => kd_true (k := 5) W (by decide) (by decide)
  have KV := fun W => kv_true (k := 5) W (by decide) (by decide)
  have KW := fun W => kw_false (k := 5) W (by decide) (by decide)
  have KL := fun W => kl_false (k := 5) W (by decide) (by decide)
  have T0 := Lib.hid (AR.start ha hbx h1 h2)
  have d1 := T0.out.cell 0 _ rfl
  obtain ⟨d1, -⟩ := d1
  have HLIM := Lib.hid hlim
  obtain ⟨x0, s1, g0⟩ : ∃ x t, rBytes st 220 = (x, t) := ⟨_, _, rfl⟩
  have hc0 := fun W (r : Rdr W lo pr st) => rText_calls lo pr st 220 W r
  rw [g0] at hc0
  have hlim1 : RLim s1 := by have := rBytes_lim (m := 220) hlim; rw [g0] at this; exact this
  obtain ⟨x1, s2, g1⟩ : ∃ x t, rBytes s1 1000 = (x, t) := ⟨_, _, rfl⟩
  have hc1 := fun W (r : Rdr W lo pr s1) => rBytes_calls lo pr s1 1000 W r h1 hlim1
  rw [g1] at hc1
  obtain ⟨x2, s3, g2⟩ : ∃ x t, rInt s2 = (x, t) := ⟨_, _, rfl⟩
  have hc2 := fun W (r : Rdr W lo pr s2) => rInt_calls lo pr s2 W r
  rw [g2] at hc2
  have HFIN : Hid (rdFa ⟨5, x, s, t, [], [], 0, 0, false, 0, 0, 0, 0, []⟩ st = ((⟨5, x, s, t, x0, x1, 0, x2, false, 0, 0, 0, 0, []⟩, true), s3)) := by show _ = _; simp [rdFa, g0, g1, g2]
  have HC0 := Lib.hid hc0
  have HC1 := Lib.hid hc1
  have HC2 := Lib.hid hc2
  simp only [acells, pl0] at *
  clear ha hbx hlim hc0 hc1 hc2 g0 g1 g2 hlim1
  go_enter Tryd.func50, Tryd.ntmps50
  go_wp2_with (first | ((with_reducible refine (KP _).mono ?_); rintro e w' ⟨rfl, rfl⟩) | ((with_reducible refine (KD _).mono ?_); rintro e w' ⟨rfl, rfl⟩) | ((with_reducible refine (KV _).mono ?_); rintro e w' ⟨rfl, rfl⟩) | ((with_reducible refine (KW _).mono ?_); rintro e w' ⟨rfl, rfl⟩) | ((with_reducible refine (KL _).mono ?_); rintro e w' ⟨rfl, rfl⟩) | fail)
  refine (HC0.out _ T0.out.a).mono ?_
  rintro e v0 ⟨rfl, a0, f0, -⟩
  have U0 := Lib.hid (T0.out.read a0 f0)
  clear a0 f0 T0
  have y := (cells_of U0.out.bx 4).1
  have n := (cells_of U0.out.bx 4).2
  simp only [List.getElem?_toArray, List.getElem?_cons_zero, List.getElem?_cons_succ] at y
  have T1 := Lib.hid (U0.out.set 4 (.string ⟨x0.toArray⟩))
  simp only [List.setIfInBounds_toArray, List.set_cons_zero, List.set_cons_succ] at T1
  go_wp2_with (first | ((with_reducible refine (KP _).mono ?_); rintro e w' ⟨rfl, rfl⟩) | ((with_reducible refine (KD _).mono ?_); rintro e w' ⟨rfl, rfl⟩) | ((with_reducible refine (KV _).mono ?_); rintro e w' ⟨rfl, rfl⟩) | ((with_reducible refine (KW _).mono ?_); rintro e w' ⟨rfl, rfl⟩) | ((with_reducible refine (KL _).mono ?_); rintro e w' ⟨rfl, rfl⟩) | fail)
  clear y n
  generalize v0.setCell ⟨b, 4, none⟩ (.string ⟨x0.toArray⟩) = t0 at *
  refine (HC1.out _ T1.out.a).mono ?_
  rintro e v1 ⟨y1, rfl, o1, a1, f1⟩
  obtain ⟨DA, dc, rfl, -, -⟩ := own_form o1
  have HO := Lib.hid (own_low o1 T1.out.fr.size)
  have U1 := Lib.hid (T1.out.read a1 f1)
  have HDB := Lib.hid (fun g (hg : (Value.slice DA x1.length dc).ownBlock = some g) => Nat.ne_of_gt (Nat.lt_of_lt_of_le (Lib.lt_of_heap T1.out.bx) (o1.lt g hg).1))
  have HDP := Lib.hid (fun g (hg : (Value.slice DA x1.length dc).ownBlock = some g) => Nat.ne_of_gt (Nat.lt_of_lt_of_le (Nat.lt_trans h2 (Lib.lt_of_heap T1.out.bx)) (o1.lt g hg).1))
  clear a1 f1 o1 T1
  have y := (cells_of U1.out.bx 5).1
  have n := (cells_of U1.out.bx 5).2
  simp only [List.getElem?_toArray, List.getElem?_cons_zero, List.getElem?_cons_succ] at y
  have T2 := Lib.hid (U1.out.set 5 (.slice DA x1.length dc))
  simp only [List.setIfInBounds_toArray, List.set_cons_zero, List.set_cons_succ] at T2
  have HOs1 := Lib.hid (own_by HO.out ((Fr.refl (OneB b) v1).setCell (p := ⟨b, 5, none⟩) (fun _ => rfl) (.slice DA x1.length dc)) (fun g hg hx => HDB.out g hg hx))
  clear HO
  go_wp2_with (first | ((with_reducible refine (KP _).mono ?_); rintro e w' ⟨rfl, rfl⟩) | ((with_reducible refine (KD _).mono ?_); rintro e w' ⟨rfl, rfl⟩) | ((with_reducible refine (KV _).mono ?_); rintro e w' ⟨rfl, rfl⟩) | ((with_reducible refine (KW _).mono ?_); rintro e w' ⟨rfl, rfl⟩) | ((with_reducible refine (KL _).mono ?_); rintro e w' ⟨rfl, rfl⟩) | fail)
  clear y n
  generalize v1.setCell ⟨b, 5, none⟩ (.slice DA x1.length dc) = t1 at *
  refine (HC2.out _ T2.out.a).mono ?_
  rintro e v2 ⟨rfl, a2, f2, -⟩
  have U2 := Lib.hid (T2.out.read a2 f2)
  have HO2 := Lib.hid (own_by HOs1.out f2 (fun g hg hx => HDP.out g hg hx))
  clear HOs1
  clear a2 f2 T2
  have y := (cells_of U2.out.bx 7).1
  have n := (cells_of U2.out.bx 7).2
  simp only [List.getElem?_toArray, List.getElem?_cons_zero, List.getElem?_cons_succ] at y
  have T3 := Lib.hid (U2.out.set 7 (.int .i64 x2))
  simp only [List.setIfInBounds_toArray, List.set_cons_zero, List.set_cons_succ] at T3
  have HOs2 := Lib.hid (own_by HO2.out ((Fr.refl (OneB b) v2).setCell (p := ⟨b, 7, none⟩) (fun _ => rfl) (.int .i64 x2)) (fun g hg hx => HDB.out g hg hx))
  clear HO2
  go_wp2_with (first | ((with_reducible refine (KP _).mono ?_); rintro e w' ⟨rfl, rfl⟩) | ((with_reducible refine (KD _).mono ?_); rintro e w' ⟨rfl, rfl⟩) | ((with_reducible refine (KV _).mono ?_); rintro e w' ⟨rfl, rfl⟩) | ((with_reducible refine (KW _).mono ?_); rintro e w' ⟨rfl, rfl⟩) | ((with_reducible refine (KL _).mono ?_); rintro e w' ⟨rfl, rfl⟩) | fail)
  clear y n
  go_ret
  refine ⟨by rw [HFIN.out]; rfl, ?_⟩
  rw [HFIN.out]
  exact ⟨⟨DA, dc, none, 0, none, 0⟩, T3.out, HOs2.out, RdM.nil' _ _ _ _, rfl, rfl⟩
set_option maxHeartbeats 3200000 in
set_option maxRecDepth 8000 in
theorem ard6_calls (f : Fa) (deep : Bool) (lo pr b : Nat) (st : RSt) (w : World) (hz : f = bareAO f) (ha : Rdr w lo pr st) (h1 : lo ≤ pr) (h2 : pr < b) (hbx : w.heap[b]? = some (.cells (acells f pl0 0) 29 (0, 0))) (hlim : RLim st) (hk : f.k = 6) :
    Calls Tryd.prog 50 #[.pointer (some ⟨pr, 0, none⟩), .pointer (some ⟨b, 0, none⟩), .bool deep] w fun e w' => e = .returned (.bool (rdFa f st).1.2) ∧ ∃ pl, GotA w w' lo pr b (rdFa f st).2 (rdFa f st).1.1 pl := by
  obtain ⟨k, x, s, t, path, data, fl, ve, wa, so, la, ti, fr, ms⟩ := f
  simp only [bareAO, Fa.mk.injEq, true_and] at hz
  obtain ⟨rfl, rfl, rfl, rfl, rfl, rfl, rfl, rfl, rfl, rfl⟩ := hz
  simp only at hk
  subst hk
  have KP := fun W => kp_true (k := 6) W (by decide) (by decide)
  have KD := fun W => kd_false (k := 6) W (by decide) (by decide)
  have KV := fun W => kv_true (k := 6) W (by decide) (by decide)
  have KW := fun W => kw_false (k := 6) W (by decide) (by decide)
  have KL := fun W => kl_false (k := 6) W (by decide) (by decide)
  have T0 := Lib.hid (AR.start ha hbx h1 h2)
  have d1 := T0.out.cell 0 _ rfl
  obtain ⟨d1, -⟩ := d1
  have HLIM := Lib.hid hlim
  obtain ⟨x0, s1, g0⟩ : ∃ x t, rBytes st 220 = (x, t) := ⟨_, _, rfl⟩
  have hc0 := fun W (r : Rdr W lo pr st) => rText_calls lo pr st 220 W r
  rw [g0] at hc0
  have hlim1 : RLim s1 := by have := rBytes_lim (m := 220) hlim; rw [g0] at this; exact this
  obtain ⟨x1, s2, g1⟩ : ∃ x t, rInt s1 = (x, t) := ⟨_, _, rfl⟩
  have hc1 := fun W (r : Rdr W lo pr s1) => rInt_calls lo pr s1 W r
  rw [g1] at hc1
  have HFIN : Hid (rdFa ⟨6, x, s, t, [], [], 0, 0, false, 0, 0, 0, 0, []⟩ st = ((⟨6, x, s, t, x0, [], 0, x1, false, 0, 0, 0, 0, []⟩, true), s2)) := by show _ = _; simp [rdFa, g0, g1]
  have HC0 := Lib.hid hc0
  have HC1 := Lib.hid hc1
  simp only [acells, pl0] at *
  clear ha hbx hlim hc0 hc1 g0 g1 hlim1
  go_enter Tryd.func50, Tryd.ntmps50
  go_wp2_with (first | ((with_reducible refine (KP _).mono ?_); rintro e w' ⟨rfl, rfl⟩) | ((with_reducible refine (KD _).mono ?_); rintro e w' ⟨rfl, rfl⟩) | ((with_reducible refine (KV _).mono ?_); rintro e w' ⟨rfl, rfl⟩) | ((with_reducible refine (KW _).mono ?_); rintro e w' ⟨rfl, rfl⟩) | ((with_reducible refine (KL _).mono ?_); rintro e w' ⟨rfl, rfl⟩) | fail)
  refine (HC0.out _ T0.out.a).mono ?_
  rintro e v0 ⟨rfl, a0, f0, -⟩
  have U0 := Lib.hid (T0.out.read a0 f0)
  clear a0 f0 T0
  have y := (cells_of U0.out.bx 4).1
  have n := (cells_of U0.out.bx 4).2
  simp only [List.getElem?_toArray, List.getElem?_cons_zero, List.getElem?_cons_succ] at y
  have T1 := Lib.hid (U0.out.set 4 (.string ⟨x0.toArray⟩))
  simp only [List.setIfInBounds_toArray, List.set_cons_zero, List.set_cons_succ] at T1
  go_wp2_with (first | ((with_reducible refine (KP _).mono ?_); rintro e w' ⟨rfl, rfl⟩) | ((with_reducible refine (KD _).mono ?_); rintro e w' ⟨rfl, rfl⟩) | ((with_reducible refine (KV _).mono ?_); rintro e w' ⟨rfl, rfl⟩) | ((with_reducible refine (KW _).mono ?_); rintro e w' ⟨rfl, rfl⟩) | ((with_reducible refine (KL _).mono ?_); rintro e w' ⟨rfl, rfl⟩) | fail)
  clear y n
  generalize v0.setCell ⟨b, 4, none⟩ (.string ⟨x0.toArray⟩) = t0 at *
  refine (HC1.out _ T1.out.a).mono ?_
  rintro e v1 ⟨rfl, a1, f1, -⟩
  have U1 := Lib.hid (T1.out.read a1 f1)
  clear a1 f1 T1
  have y := (cells_of U1.out.bx 7).1
  have n := (cells_of U1.out.bx 7).2
  simp only [List.getElem?_toArray, List.getElem?_cons_zero, List.getElem?_cons_succ] at y
  have T2 := Lib.hid (U1.out.set 7 (.int .i64 x1))
  simp only [List.setIfInBounds_toArray, List.set_cons_zero, List.set_cons_succ] at T2
  go_wp2_with (first | ((with_reducible refine (KP _).mono ?_); rintro e w' ⟨rfl, rfl⟩) | ((with_reducible refine (KD _).mono ?_); rintro e w' ⟨rfl, rfl⟩) | ((with_reducible refine (KV _).mono ?_); rintro e w' ⟨rfl, rfl⟩) | ((with_reducible refine (KW _).mono ?_); rintro e w' ⟨rfl, rfl⟩) | ((with_reducible refine (KL _).mono ?_); rintro e w' ⟨rfl, rfl⟩) | fail)
  clear y n
  go_ret
  refine ⟨by rw [HFIN.out]; rfl, ?_⟩
  rw [HFIN.out]
  exact ⟨pl0, T2.out, own_nil0 _ _, RdM.nil' _ _ _ _, rfl, rfl⟩
set_option maxHeartbeats 3200000 in
set_option maxRecDepth 8000 in
theorem ard7_calls (f : Fa) (deep : Bool) (lo pr b : Nat) (st : RSt) (w : World) (hz : f = bareAO f) (ha : Rdr w lo pr st) (h1 : lo ≤ pr) (h2 : pr < b) (hbx : w.heap[b]? = some (.cells (acells f pl0 0) 29 (0, 0))) (hlim : RLim st) (hk : f.k = 7) :
    Calls Tryd.prog 50 #[.pointer (some ⟨pr, 0, none⟩), .pointer (some ⟨b, 0, none⟩), .bool deep] w fun e w' => e = .returned (.bool (rdFa f st).1.2) ∧ ∃ pl, GotA w w' lo pr b (rdFa f st).2 (rdFa f st).1.1 pl := by
  obtain ⟨k, x, s, t, path, data, fl, ve, wa, so, la, ti, fr, ms⟩ := f
  simp only [bareAO, Fa.mk.injEq, true_and] at hz
  obtain ⟨rfl, rfl, rfl, rfl, rfl, rfl, rfl, rfl, rfl, rfl⟩ := hz
  simp only at hk
  subst hk
  have KP := fun W => kp_true (k := 7) W (by decide) (by decide)
  have KD := fun W => kd_false (k := 7) W (by decide) (by decide)
  have KV := fun W => kv_false (k := 7) W (by decide) (by decide)
  have KW := fun W => kw_true (k := 7) W (by decide) (by decide)
  have KL := fun W => kl_false (k := 7) W (by decide) (by decide)
  have T0 := Lib.hid (AR.start ha hbx h1 h2)
  have d1 := T0.out.cell 0 _ rfl
  obtain ⟨d1, -⟩ := d1
  have HLIM := Lib.hid hlim
  obtain ⟨x0, s1, g0⟩ : ∃ x t, rBytes st 220 = (x, t) := ⟨_, _, rfl⟩
  have hc0 := fun W (r : Rdr W lo pr st) => rText_calls lo pr st 220 W r
  rw [g0] at hc0
  have hlim1 : RLim s1 := by have := rBytes_lim (m := 220) hlim; rw [g0] at this; exact this
  obtain ⟨x1, s2, g1⟩ : ∃ x t, rByte s1 = (x, t) := ⟨_, _, rfl⟩
  have hc1 := fun W (r : Rdr W lo pr s1) => rByte_calls lo pr s1 W r
  rw [g1] at hc1
  have HFIN : Hid (rdFa ⟨7, x, s, t, [], [], 0, 0, false, 0, 0, 0, 0, []⟩ st = ((⟨7, x, s, t, x0, [], 0, 0, (x1 == 1), 0, 0, 0, 0, []⟩, decide (x1.toNat ≤ 1)), s2)) := by show _ = _; simp [rdFa, g0, g1]
  have hw1 : ((x1.toNat : Int) == 1) = (x1 == 1) := by rw [Bool.eq_iff_iff, beq_iff_eq, beq_iff_eq, ← UInt8.toNat_inj]; show _ ↔ x1.toNat = 1; omega
  have hw2 : decide ((x1.toNat : Int) ≤ 1) = decide (x1.toNat ≤ 1) := by rw [decide_eq_decide]; omega
  have HC0 := Lib.hid hc0
  have HC1 := Lib.hid hc1
  simp only [acells, pl0] at *
  clear ha hbx hlim hc0 hc1 g0 g1 hlim1
  go_enter Tryd.func50, Tryd.ntmps50
  go_wp2_with (first | ((with_reducible refine (KP _).mono ?_); rintro e w' ⟨rfl, rfl⟩) | ((with_reducible refine (KD _).mono ?_); rintro e w' ⟨rfl, rfl⟩) | ((with_reducible refine (KV _).mono ?_); rintro e w' ⟨rfl, rfl⟩) | ((with_reducible refine (KW _).mono ?_); rintro e w' ⟨rfl, rfl⟩) | ((with_reducible refine (KL _).mono ?_); rintro e w' ⟨rfl, rfl⟩) | fail)
  refine (HC0.out _ T0.out.a).mono ?_
  rintro e v0 ⟨rfl, a0, f0, -⟩
  have U0 := Lib.hid (T0.out.read a0 f0)
  clear a0 f0 T0
  have y := (cells_of U0.out.bx 4).1
  have n := (cells_of U0.out.bx 4).2
  simp only [List.getElem?_toArray, List.getElem?_cons_zero, List.getElem?_cons_succ] at y
  have T1 := Lib.hid (U0.out.set 4 (.string ⟨x0.toArray⟩))
  simp only [List.setIfInBounds_toArray, List.set_cons_zero, List.set_cons_succ] at T1
  go_wp2_with (first | ((with_reducible refine (KP _).mono ?_); rintro e w' ⟨rfl, rfl⟩) | ((with_reducible refine (KD _).mono ?_); rintro e w' ⟨rfl, rfl⟩) | ((with_reducible refine (KV _).mono ?_); rintro e w' ⟨rfl, rfl⟩) | ((with_reducible refine (KW _).mono ?_); rintro e w' ⟨rfl, rfl⟩) | ((with_reducible refine (KL _).mono ?_); rintro e w' ⟨rfl, rfl⟩) | fail)
  clear y n
  generalize v0.setCell ⟨b, 4, none⟩ (.string ⟨x0.toArray⟩) = t0 at *
  refine (HC1.out _ T1.out.a).mono ?_
  rintro e v1 ⟨rfl, a1, f1, -⟩
  have U1 := Lib.hid (T1.out.read a1 f1)
  clear a1 f1 T1
  have y := (cells_of U1.out.bx 8).1
  have n := (cells_of U1.out.bx 8).2
  simp only [List.getElem?_toArray, List.getElem?_cons_zero, List.getElem?_cons_succ] at y
  have T2 := Lib.hid (U1.out.set 8 (.bool (x1 == 1)))
  simp only [List.setIfInBounds_toArray, List.set_cons_zero, List.set_cons_succ] at T2
  go_wp2_with (first | ((with_reducible refine (KP _).mono ?_); rintro e w' ⟨rfl, rfl⟩) | ((with_reducible refine (KD _).mono ?_); rintro e w' ⟨rfl, rfl⟩) | ((with_reducible refine (KV _).mono ?_); rintro e w' ⟨rfl, rfl⟩) | ((with_reducible refine (KW _).mono ?_); rintro e w' ⟨rfl, rfl⟩) | ((with_reducible refine (KL _).mono ?_); rintro e w' ⟨rfl, rfl⟩) | fail)
  clear y n
  go_ret
  refine ⟨by rw [HFIN.out]; rfl, ?_⟩
  rw [HFIN.out]
  exact ⟨pl0, T2.out, own_nil0 _ _, RdM.nil' _ _ _ _, rfl, rfl⟩
set_option maxHeartbeats 3200000 in
set_option maxRecDepth 8000 in
theorem ard8_calls (f : Fa) (deep : Bool) (lo pr b : Nat) (st : RSt) (w : World) (hz : f = bareAO f) (ha : Rdr w lo pr st) (h1 : lo ≤ pr) (h2 : pr < b) (hbx : w.heap[b]? = some (.cells (acells f pl0 0) 29 (0, 0))) (hlim : RLim st) (hk : f.k = 8) :
    Calls Tryd.prog 50 #[.pointer (some ⟨pr, 0, none⟩), .pointer (some ⟨b, 0, none⟩), .bool deep] w fun e w' => e = .returned (.bool (rdFa f st).1.2) ∧ ∃ pl, GotA w w' lo pr b (rdFa f st).2 (rdFa f st).1.1 pl := by
  obtain ⟨k, x, s, t, path, data, fl, ve, wa, so, la, ti, fr, ms⟩ := f
  simp only [bareAO, Fa.mk.injEq, true_and] at hz
  obtain ⟨rfl, rfl, rfl, rfl, rfl, rfl, rfl, rfl, rfl, rfl⟩ := hz
  simp only at hk
  subst hk
  have KP := fun W => kp_true (k := 8) W (by decide) (by decide)
  have KD := fun W => kd_false (k := 8) W (by decide) (by decide)
  have KV := fun W => kv_false (k := 8) W (by decide) (by decide)
  have KW := fun W => kw_true (k := 8) W (by decide) (by decide)
  have KL := fun W => kl_false (k := 8) W (by decide) (by decide)
  have T0 := Lib.hid (AR.start ha hbx h1 h2)
  have d1 := T0.out.cell 0 _ rfl
  obtain ⟨d1, -⟩ := d1
  have HLIM := Lib.hid hlim
  obtain ⟨x0, s1, g0⟩ : ∃ x t, rBytes st 220 = (x, t) := ⟨_, _, rfl⟩
  have hc0 := fun W (r : Rdr W lo pr st) => rText_calls lo pr st 220 W r
  rw [g0] at hc0
  have hlim1 : RLim s1 := by have := rBytes_lim (m := 220) hlim; rw [g0] at this; exact this
  obtain ⟨x1, s2, g1⟩ : ∃ x t, rByte s1 = (x, t) := ⟨_, _, rfl⟩
  have hc1 := fun W (r : Rdr W lo pr s1) => rByte_calls lo pr s1 W r
  rw [g1] at hc1
  have HFIN : Hid (rdFa ⟨8, x, s, t, [], [], 0, 0, false, 0, 0, 0, 0, []⟩ st = ((⟨8, x, s, t, x0, [], 0, 0, (x1 == 1), 0, 0, 0, 0, []⟩, decide (x1.toNat ≤ 1)), s2)) := by show _ = _; simp [rdFa, g0, g1]
  have hw1 : ((x1.toNat : Int) == 1) = (x1 == 1) := by rw [Bool.eq_iff_iff, beq_iff_eq, beq_iff_eq, ← UInt8.toNat_inj]; show _ ↔ x1.toNat = 1; omega
  have hw2 : decide ((x1.toNat : Int) ≤ 1) = decide (x1.toNat ≤ 1) := by rw [decide_eq_decide]; omega
  have HC0 := Lib.hid hc0
  have HC1 := Lib.hid hc1
  simp only [acells, pl0] at *
  clear ha hbx hlim hc0 hc1 g0 g1 hlim1
  go_enter Tryd.func50, Tryd.ntmps50
  go_wp2_with (first | ((with_reducible refine (KP _).mono ?_); rintro e w' ⟨rfl, rfl⟩) | ((with_reducible refine (KD _).mono ?_); rintro e w' ⟨rfl, rfl⟩) | ((with_reducible refine (KV _).mono ?_); rintro e w' ⟨rfl, rfl⟩) | ((with_reducible refine (KW _).mono ?_); rintro e w' ⟨rfl, rfl⟩) | ((with_reducible refine (KL _).mono ?_); rintro e w' ⟨rfl, rfl⟩) | fail)
  refine (HC0.out _ T0.out.a).mono ?_
  rintro e v0 ⟨rfl, a0, f0, -⟩
  have U0 := Lib.hid (T0.out.read a0 f0)
  clear a0 f0 T0
  have y := (cells_of U0.out.bx 4).1
  have n := (cells_of U0.out.bx 4).2
  simp only [List.getElem?_toArray, List.getElem?_cons_zero, List.getElem?_cons_succ] at y
  have T1 := Lib.hid (U0.out.set 4 (.string ⟨x0.toArray⟩))
  simp only [List.setIfInBounds_toArray, List.set_cons_zero, List.set_cons_succ] at T1
  go_wp2_with (first | ((with_reducible refine (KP _).mono ?_); rintro e w' ⟨rfl, rfl⟩) | ((with_reducible refine (KD _).mono ?_); rintro e w' ⟨rfl, rfl⟩) | ((with_reducible refine (KV _).mono ?_); rintro e w' ⟨rfl, rfl⟩) | ((with_reducible refine (KW _).mono ?_); rintro e w' ⟨rfl, rfl⟩) | ((with_reducible refine (KL _).mono ?_); rintro e w' ⟨rfl, rfl⟩) | fail)
  clear y n
  generalize v0.setCell ⟨b, 4, none⟩ (.string ⟨x0.toArray⟩) = t0 at *
  refine (HC1.out _ T1.out.a).mono ?_
  rintro e v1 ⟨rfl, a1, f1, -⟩
  have U1 := Lib.hid (T1.out.read a1 f1)
  clear a1 f1 T1
  have y := (cells_of U1.out.bx 8).1
  have n := (cells_of U1.out.bx 8).2
  simp only [List.getElem?_toArray, List.getElem?_cons_zero, List.getElem?_cons_succ] at y
  have T2 := Lib.hid (U1.out.set 8 (.bool (x1 == 1)))
  simp only [List.setIfInBounds_toArray, List.set_cons_zero, List.set_cons_succ] at T2
  go_wp2_with (first | ((with_reducible refine (KP _).mono ?_); rintro e w' ⟨rfl, rfl⟩) | ((with_reducible refine (KD _).mono ?_); rintro e w' ⟨rfl, rfl⟩) | ((with_reducible refine (KV _).mono ?_); rintro e w' ⟨rfl, rfl⟩) | ((with_reducible refine (KW _).mono ?_); rintro e w' ⟨rfl, rfl⟩) | ((with_reducible refine (KL _).mono ?_); rintro e w' ⟨rfl, rfl⟩) | fail)
  clear y n
  go_ret
  refine ⟨by rw [HFIN.out]; rfl, ?_⟩
  rw [HFIN.out]
  exact ⟨pl0, T2.out, own_nil0 _ _, RdM.nil' _ _ _ _, rfl, rfl⟩
set_option maxHeartbeats 3200000 in
set_option maxRecDepth 8000 in
theorem ard9_calls (f : Fa) (deep : Bool) (lo pr b : Nat) (st : RSt) (w : World) (hz : f = bareAO f) (ha : Rdr w lo pr st) (h1 : lo ≤ pr) (h2 : pr < b) (hbx : w.heap[b]? = some (.cells (acells f pl0 0) 29 (0, 0))) (hlim : RLim st) (hk : f.k = 9) :
    Calls Tryd.prog 50 #[.pointer (some ⟨pr, 0, none⟩), .pointer (some ⟨b, 0, none⟩), .bool deep] w fun e w' => e = .returned (.bool (rdFa f st).1.2) ∧ ∃ pl, GotA w w' lo pr b (rdFa f st).2 (rdFa f st).1.1 pl := by
  obtain ⟨k, x, s, t, path, data, fl, ve, wa, so, la, ti, fr, ms⟩ := f
  simp only [bareAO, Fa.mk.injEq, true_and] at hz
  obtain ⟨rfl, rfl, rfl, rfl, rfl, rfl, rfl, rfl, rfl, rfl⟩ := hz
  simp only at hk
  subst hk
  have KP := fun W => kp_true (k := 9) W (by decide) (by decide)
  have KD := fun W => kd_false (k := 9) W (by decide) (by decide)
  have KV := fun W => kv_false (k := 9) W (by decide) (by decide)
  have KW := fun W => kw_true (k := 9) W (by decide) (by decide)
  have KL := fun W => kl_false (k := 9) W (by decide) (by decide)
  have T0 := Lib.hid (AR.start ha hbx h1 h2)
  have d1 := T0.out.cell 0 _ rfl
  obtain ⟨d1, -⟩ := d1
  have HLIM := Lib.hid hlim
  obtain ⟨x0, s1, g0⟩ : ∃ x t, rBytes st 220 = (x, t) := ⟨_, _, rfl⟩
  have hc0 := fun W (r : Rdr W lo pr st) => rText_calls lo pr st 220 W r
  rw [g0] at hc0
  have hlim1 : RLim s1 := by have := rBytes_lim (m := 220) hlim; rw [g0] at this; exact this
  obtain ⟨x1, s2, g1⟩ : ∃ x t, rByte s1 = (x, t) := ⟨_, _, rfl⟩
  have hc1 := fun W (r : Rdr W lo pr s1) => rByte_calls lo pr s1 W r
  rw [g1] at hc1
  have HFIN : Hid (rdFa ⟨9, x, s, t, [], [], 0, 0, false, 0, 0, 0, 0, []⟩ st = ((⟨9, x, s, t, x0, [], 0, 0, (x1 == 1), 0, 0, 0, 0, []⟩, decide (x1.toNat ≤ 1)), s2)) := by show _ = _; simp [rdFa, g0, g1]
  have hw1 : ((x1.toNat : Int) == 1) = (x1 == 1) := by rw [Bool.eq_iff_iff, beq_iff_eq, beq_iff_eq, ← UInt8.toNat_inj]; show _ ↔ x1.toNat = 1; omega
  have hw2 : decide ((x1.toNat : Int) ≤ 1) = decide (x1.toNat ≤ 1) := by rw [decide_eq_decide]; omega
  have HC0 := Lib.hid hc0
  have HC1 := Lib.hid hc1
  simp only [acells, pl0] at *
  clear ha hbx hlim hc0 hc1 g0 g1 hlim1
  go_enter Tryd.func50, Tryd.ntmps50
  go_wp2_with (first | ((with_reducible refine (KP _).mono ?_); rintro e w' ⟨rfl, rfl⟩) | ((with_reducible refine (KD _).mono ?_); rintro e w' ⟨rfl, rfl⟩) | ((with_reducible refine (KV _).mono ?_); rintro e w' ⟨rfl, rfl⟩) | ((with_reducible refine (KW _).mono ?_); rintro e w' ⟨rfl, rfl⟩) | ((with_reducible refine (KL _).mono ?_); rintro e w' ⟨rfl, rfl⟩) | fail)
  refine (HC0.out _ T0.out.a).mono ?_
  rintro e v0 ⟨rfl, a0, f0, -⟩
  have U0 := Lib.hid (T0.out.read a0 f0)
  clear a0 f0 T0
  have y := (cells_of U0.out.bx 4).1
  have n := (cells_of U0.out.bx 4).2
  simp only [List.getElem?_toArray, List.getElem?_cons_zero, List.getElem?_cons_succ] at y
  have T1 := Lib.hid (U0.out.set 4 (.string ⟨x0.toArray⟩))
  simp only [List.setIfInBounds_toArray, List.set_cons_zero, List.set_cons_succ] at T1
  go_wp2_with (first | ((with_reducible refine (KP _).mono ?_); rintro e w' ⟨rfl, rfl⟩) | ((with_reducible refine (KD _).mono ?_); rintro e w' ⟨rfl, rfl⟩) | ((with_reducible refine (KV _).mono ?_); rintro e w' ⟨rfl, rfl⟩) | ((with_reducible refine (KW _).mono ?_); rintro e w' ⟨rfl, rfl⟩) | ((with_reducible refine (KL _).mono ?_); rintro e w' ⟨rfl, rfl⟩) | fail)
  clear y n
  generalize v0.setCell ⟨b, 4, none⟩ (.string ⟨x0.toArray⟩) = t0 at *
  refine (HC1.out _ T1.out.a).mono ?_
  rintro e v1 ⟨rfl, a1, f1, -⟩
  have U1 := Lib.hid (T1.out.read a1 f1)
  clear a1 f1 T1
  have y := (cells_of U1.out.bx 8).1
  have n := (cells_of U1.out.bx 8).2
  simp only [List.getElem?_toArray, List.getElem?_cons_zero, List.getElem?_cons_succ] at y
  have T2 := Lib.hid (U1.out.set 8 (.bool (x1 == 1)))
  simp only [List.setIfInBounds_toArray, List.set_cons_zero, List.set_cons_succ] at T2
  go_wp2_with (first | ((with_reducible refine (KP _).mono ?_); rintro e w' ⟨rfl, rfl⟩) | ((with_reducible refine (KD _).mono ?_); rintro e w' ⟨rfl, rfl⟩) | ((with_reducible refine (KV _).mono ?_); rintro e w' ⟨rfl, rfl⟩) | ((with_reducible refine (KW _).mono ?_); rintro e w' ⟨rfl, rfl⟩) | ((with_reducible refine (KL _).mono ?_); rintro e w' ⟨rfl, rfl⟩) | fail)
  clear y n
  go_ret
  refine ⟨by rw [HFIN.out]; rfl, ?_⟩
  rw [HFIN.out]
  exact ⟨pl0, T2.out, own_nil0 _ _, RdM.nil' _ _ _ _, rfl, rfl⟩
set_option maxHeartbeats 3200000 in
set_option maxRecDepth 8000 in
theorem ard10_calls (f : Fa) (deep : Bool) (lo pr b : Nat) (st : RSt) (w : World) (hz : f = bareAO f) (ha : Rdr w lo pr st) (h1 : lo ≤ pr) (h2 : pr < b) (hbx : w.heap[b]? = some (.cells (acells f pl0 0) 29 (0, 0))) (hlim : RLim st) (hk : f.k = 10) :
    Calls Tryd.prog 50 #[.pointer (some ⟨pr, 0, none⟩), .pointer (some ⟨b, 0, none⟩), .bool deep] w fun e w' => e = .returned (.bool (rdFa f st).1.2) ∧ ∃ pl, GotA w w' lo pr b (rdFa f st).2 (rdFa f st).1.1 pl := by
  obtain ⟨k, x, s, t, path, data, fl, ve, wa, so, la, ti, fr, ms⟩ := f
  simp only [bareAO, Fa.mk.injEq, true_and] at hz
  obtain ⟨rfl, rfl, rfl, rfl, rfl, rfl, rfl, rfl, rfl, rfl⟩ := hz
  simp only at hk
  subst hk
  have KP := fun W => kp_false (k := 10) W (by decide) (by decide)
  have KD := fun W => kd_false (k := 10) W (by decide) (by decide)
  have KV := fun W => kv_false (k := 10) W (by decide) (by decide)
  have KW := fun W => kw_false (k := 10) W (by decide) (by decide)
  have KL := fun W => kl_false (k := 10) W (by decide) (by decide)
  have T0 := Lib.hid (AR.start ha hbx h1 h2)
  have d1 := T0.out.cell 0 _ rfl
  obtain ⟨d1, -⟩ := d1
  have HLIM := Lib.hid hlim
  have HFIN : Hid (rdFa ⟨10, x, s, t, [], [], 0, 0, false, 0, 0, 0, 0, []⟩ st = ((⟨10, x, s, t, [], [], 0, 0, false, 0, 0, 0, 0, []⟩, true), st)) := by show _ = _; simp [rdFa]
  simp only [acells, pl0] at *
  clear ha hbx hlim 
  go_enter Tryd.func50, Tryd.ntmps50
  go_wp2_with (first | ((with_reducible refine (KP _).mono ?_); rintro e w' ⟨rfl, rfl⟩) | ((with_reducible refine (KD _).mono ?_); rintro e w' ⟨rfl, rfl⟩) | ((with_reducible refine (KV _).mono ?_); rintro e w' ⟨rfl, rfl⟩) | ((with_reducible refine (KW _).mono ?_); rintro e w' ⟨rfl, rfl⟩) | ((with_reducible refine (KL _).mono ?_); rintro e w' ⟨rfl, rfl⟩) | fail)
  go_ret
  refine ⟨by rw [HFIN.out]; rfl, ?_⟩
  rw [HFIN.out]
  exact ⟨pl0, T0.out, own_nil0 _ _, RdM.nil' _ _ _ _, rfl, rfl⟩
set_option maxHeartbeats 3200000 in
set_option maxRecDepth 8000 in
theorem ard11_calls (f : Fa) (deep : Bool) (lo pr b : Nat) (st : RSt) (w : World) (hz : f = bareAO f) (ha : Rdr w lo pr st) (h1 : lo ≤ pr) (h2 : pr < b) (hbx : w.heap[b]? = some (.cells (acells f pl0 0) 29 (0, 0))) (hlim : RLim st) (hdp : deep = false) (hk : f.k = 11) :
    Calls Tryd.prog 50 #[.pointer (some ⟨pr, 0, none⟩), .pointer (some ⟨b, 0, none⟩), .bool deep] w fun e w' => e = .returned (.bool (rdFa f st).1.2) ∧ ∃ pl, GotA w w' lo pr b (rdFa f st).2 (rdFa f st).1.1 pl := by
  obtain ⟨k, x, s, t, path, data, fl, ve, wa, so, la, ti, fr, ms⟩ := f
  simp only [bareAO, Fa.mk.injEq, true_and] at hz
  obtain ⟨rfl, rfl, rfl, rfl, rfl, rfl, rfl, rfl, rfl, rfl⟩ := hz
  simp only at hk
  subst hk
  subst hdp
  have KP := fun W => kp_false (k := 11) W (by decide) (by decide)
  have KD := fun W => kd_false (k := 11) W (by decide) (by decide)
  have KV := fun W => kv_false (k := 11) W (by decide) (by decide)
  have KW := fun W => kw_false (k := 11) W (by decide) (by decide)
  have KL := fun W => kl_false (k := 11) W (by decide) (by decide)
  have T0 := Lib.hid (AR.start ha hbx h1 h2)
  have d1 := T0.out.cell 0 _ rfl
  obtain ⟨d1, -⟩ := d1
  have HLIM := Lib.hid hlim
  have HFIN : Hid (rdFa ⟨11, x, s, t, [], [], 0, 0, false, 0, 0, 0, 0, []⟩ st = ((⟨11, x, s, t, [], [], 0, 0, false, 0, 0, 0, 0, []⟩, true), st)) := by show _ = _; simp [rdFa]
  simp only [acells, pl0] at *
  clear ha hbx hlim 
  go_enter Tryd.func50, Tryd.ntmps50
  go_wp2_with (first | ((with_reducible refine (KP _).mono ?_); rintro e w' ⟨rfl, rfl⟩) | ((with_reducible refine (KD _).mono ?_); rintro e w' ⟨rfl, rfl⟩) | ((with_reducible refine (KV _).mono ?_); rintro e w' ⟨rfl, rfl⟩) | ((with_reducible refine (KW _).mono ?_); rintro e w' ⟨rfl, rfl⟩) | ((with_reducible refine (KL _).mono ?_); rintro e w' ⟨rfl, rfl⟩) | fail)
  go_ret
  refine ⟨by rw [HFIN.out]; rfl, ?_⟩
  rw [HFIN.out]
  exact ⟨pl0, T0.out, own_nil0 _ _, RdM.nil' _ _ _ _, rfl, rfl⟩
set_option maxHeartbeats 3200000 in
set_option maxRecDepth 8000 in
theorem ard13_calls (f : Fa) (deep : Bool) (lo pr b : Nat) (st : RSt) (w : World) (hz : f = bareAO f) (ha : Rdr w lo pr st) (h1 : lo ≤ pr) (h2 : pr < b) (hbx : w.heap[b]? = some (.cells (acells f pl0 0) 29 (0, 0))) (hlim : RLim st) (hk : f.k = 13) :
    Calls Tryd.prog 50 #[.pointer (some ⟨pr, 0, none⟩), .pointer (some ⟨b, 0, none⟩), .bool deep] w fun e w' => e = .returned (.bool (rdFa f st).1.2) ∧ ∃ pl, GotA w w' lo pr b (rdFa f st).2 (rdFa f st).1.1 pl := by
  obtain ⟨k, x, s, t, path, data, fl, ve, wa, so, la, ti, fr, ms⟩ := f
  simp only [bareAO, Fa.mk.injEq, true_and] at hz
  obtain ⟨rfl, rfl, rfl, rfl, rfl, rfl, rfl, rfl, rfl, rfl⟩ := hz
  simp only at hk
  subst hk
  have KP := fun W => kp_false (k := 13) W (by decide) (by decide)
  have KD := fun W => kd_false (k := 13) W (by decide) (by decide)
  have KV := fun W => kv_false (k := 13) W (by decide) (by decide)
  have KW := fun W => kw_false (k := 13) W (by decide) (by decide)
  have KL := fun W => kl_false (k := 13) W (by decide) (by decide)
  have T0 := Lib.hid (AR.start ha hbx h1 h2)
  have d1 := T0.out.cell 0 _ rfl
  obtain ⟨d1, -⟩ := d1
  have HLIM := Lib.hid hlim
  have HFIN : Hid (rdFa ⟨13, x, s, t, [], [], 0, 0, false, 0, 0, 0, 0, []⟩ st = ((⟨13, x, s, t, [], [], 0, 0, false, 0, 0, 0, 0, []⟩, true), st)) := by show _ = _; simp [rdFa]
  simp only [acells, pl0] at *
  clear ha hbx hlim 
  go_enter Tryd.func50, Tryd.ntmps50
  go_wp2_with (first | ((with_reducible refine (KP _).mono ?_); rintro e w' ⟨rfl, rfl⟩) | ((with_reducible refine (KD _).mono ?_); rintro e w' ⟨rfl, rfl⟩) | ((with_reducible refine (KV _).mono ?_); rintro e w' ⟨rfl, rfl⟩) | ((with_reducible refine (KW _).mono ?_); rintro e w' ⟨rfl, rfl⟩) | ((with_reducible refine (KL _).mono ?_); rintro e w' ⟨rfl, rfl⟩) | fail)
  go_ret
  refine ⟨by rw [HFIN.out]; rfl, ?_⟩
  rw [HFIN.out]
  exact ⟨pl0, T0.out, own_nil0 _ _, RdM.nil' _ _ _ _, rfl, rfl⟩
set_option maxHeartbeats 3200000 in
set_option maxRecDepth 8000 in
theorem ard14_calls (f : Fa) (deep : Bool) (lo pr b : Nat) (st : RSt) (w : World) (hz : f = bareAO f) (ha : Rdr w lo pr st) (h1 : lo ≤ pr) (h2 : pr < b) (hbx : w.heap[b]? = some (.cells (acells f pl0 0) 29 (0, 0))) (hlim : RLim st) (hk : f.k = 14) :
    Calls Tryd.prog 50 #[.pointer (some ⟨pr, 0, none⟩), .pointer (some ⟨b, 0, none⟩), .bool deep] w fun e w' => e = .returned (.bool (rdFa f st).1.2) ∧ ∃ pl, GotA w w' lo pr b (rdFa f st).2 (rdFa f st).1.1 pl := by
  obtain ⟨k, x, s, t, path, data, fl, ve, wa, so, la, ti, fr, ms⟩ := f
  simp only [bareAO, Fa.mk.injEq, true_and] at hz
  obtain ⟨rfl, rfl, rfl, rfl, rfl, rfl, rfl, rfl, rfl, rfl⟩ := hz
  simp only at hk
  subst hk
  have KP := fun W => kp_true (k := 14) W (by decide) (by decide)
  have KD := fun W => kd_false (k := 14) W (by decide) (by decide)
  have KV := fun W => kv_false (k := 14) W (by decide) (by decide)
  have KW := fun W => kw_false (k := 14) W (by decide) (by decide)
  have KL := fun W => kl_true (k := 14) W (by decide) (by decide)
  have T0 := Lib.hid (AR.start ha hbx h1 h2)
  have d1 := T0.out.cell 0 _ rfl
  obtain ⟨d1, -⟩ := d1
  have HLIM := Lib.hid hlim
  obtain ⟨x0, s1, g0⟩ : ∃ x t, rBytes st 220 = (x, t) := ⟨_, _, rfl⟩
  have hc0 := fun W (r : Rdr W lo pr st) => rText_calls lo pr st 220 W r
  rw [g0] at hc0
  have hlim1 : RLim s1 := by have := rBytes_lim (m := 220) hlim; rw [g0] at this; exact this
  obtain ⟨x1, s2, g1⟩ : ∃ x t, rByte s1 = (x, t) := ⟨_, _, rfl⟩
  have hc1 := fun W (r : Rdr W lo pr s1) => rByte_calls lo pr s1 W r
  rw [g1] at hc1
  obtain ⟨x2, s3, g2⟩ : ∃ x t, rInt s2 = (x, t) := ⟨_, _, rfl⟩
  have hc2 := fun W (r : Rdr W lo pr s2) => rInt_calls lo pr s2 W r
  rw [g2] at hc2
  have HFIN : Hid (rdFa ⟨14, x, s, t, [], [], 0, 0, false, 0, 0, 0, 0, []⟩ st = ((⟨14, x, s, t, x0, [], 0, 0, false, (x1.toNat : Int), x2, 0, 0, []⟩, true), s3)) := by show _ = _; simp [rdFa, g0, g1, g2]
  have HC0 := Lib.hid hc0
  have HC1 := Lib.hid hc1
  have HC2 := Lib.hid hc2
  simp only [acells, pl0] at *
  clear ha hbx hlim hc0 hc1 hc2 g0 g1 g2 hlim1
  go_enter Tryd.func50, Tryd.ntmps50
  go_wp2_with (first | ((with_reducible refine (KP _).mono ?_); rintro e w' ⟨rfl, rfl⟩) | ((with_reducible refine (KD _).mono ?_); rintro e w' ⟨rfl, rfl⟩) | ((with_reducible refine (KV _).mono ?_); rintro e w' ⟨rfl, rfl⟩) | ((with_reducible refine (KW _).mono ?_); rintro e w' ⟨rfl, rfl⟩) | ((with_reducible refine (KL _).mono ?_); rintro e w' ⟨rfl, rfl⟩) | fail)
  refine (HC0.out _ T0.out.a).mono ?_
  rintro e v0 ⟨rfl, a0, f0, -⟩
  have U0 := Lib.hid (T0.out.read a0 f0)
  clear a0 f0 T0
  have y := (cells_of U0.out.bx 4).1
  have n := (cells_of U0.out.bx 4).2
  simp only [List.getElem?_toArray, List.getElem?_cons_zero, List.getElem?_cons_succ] at y
  have T1 := Lib.hid (U0.out.set 4 (.string ⟨x0.toArray⟩))
  simp only [List.setIfInBounds_toArray, List.set_cons_zero, List.set_cons_succ] at T1
  go_wp2_with (first | ((with_reducible refine (KP _).mono ?_); rintro e w' ⟨rfl, rfl⟩) | ((with_reducible refine (KD _).mono ?_); rintro e w' ⟨rfl, rfl⟩) | ((with_reducible refine (KV _).mono ?_); rintro e w' ⟨rfl, rfl⟩) | ((with_reducible refine (KW _).mono ?_); rintro e w' ⟨rfl, rfl⟩) | ((with_reducible refine (KL _).mono ?_); rintro e w' ⟨rfl, rfl⟩) | fail)
  clear y n
  generalize v0.setCell ⟨b, 4, none⟩ (.string ⟨x0.toArray⟩) = t0 at *
  refine (HC1.out _ T1.out.a).mono ?_
  rintro e v1 ⟨rfl, a1, f1, -⟩
  have U1 := Lib.hid (T1.out.read a1 f1)
  clear a1 f1 T1
  have y := (cells_of U1.out.bx 9).1
  have n := (cells_of U1.out.bx 9).2
  simp only [List.getElem?_toArray, List.getElem?_cons_zero, List.getElem?_cons_succ] at y
  have T2 := Lib.hid (U1.out.set 9 (.int .u8 (x1.toNat : Int)))
  simp only [List.setIfInBounds_toArray, List.set_cons_zero, List.set_cons_succ] at T2
  go_wp2_with (first | ((with_reducible refine (KP _).mono ?_); rintro e w' ⟨rfl, rfl⟩) | ((with_reducible refine (KD _).mono ?_); rintro e w' ⟨rfl, rfl⟩) | ((with_reducible refine (KV _).mono ?_); rintro e w' ⟨rfl, rfl⟩) | ((with_reducible refine (KW _).mono ?_); rintro e w' ⟨rfl, rfl⟩) | ((with_reducible refine (KL _).mono ?_); rintro e w' ⟨rfl, rfl⟩) | fail)
  clear y n
  generalize v1.setCell ⟨b, 9, none⟩ (.int .u8 (x1.toNat : Int)) = t1 at *
  refine (HC2.out _ T2.out.a).mono ?_
  rintro e v2 ⟨rfl, a2, f2, -⟩
  have U2 := Lib.hid (T2.out.read a2 f2)
  clear a2 f2 T2
  have y := (cells_of U2.out.bx 10).1
  have n := (cells_of U2.out.bx 10).2
  simp only [List.getElem?_toArray, List.getElem?_cons_zero, List.getElem?_cons_succ] at y
  have T3 := Lib.hid (U2.out.set 10 (.int .i64 x2))
  simp only [List.setIfInBounds_toArray, List.set_cons_zero, List.set_cons_succ] at T3
  go_wp2_with (first | ((with_reducible refine (KP _).mono ?_); rintro e w' ⟨rfl, rfl⟩) | ((with_reducible refine (KD _).mono ?_); rintro e w' ⟨rfl, rfl⟩) | ((with_reducible refine (KV _).mono ?_); rintro e w' ⟨rfl, rfl⟩) | ((with_reducible refine (KW _).mono ?_); rintro e w' ⟨rfl, rfl⟩) | ((with_reducible refine (KL _).mono ?_); rintro e w' ⟨rfl, rfl⟩) | fail)
  clear y n
  go_ret
  refine ⟨by rw [HFIN.out]; rfl, ?_⟩
  rw [HFIN.out]
  exact ⟨pl0, T3.out, own_nil0 _ _, RdM.nil' _ _ _ _, rfl, rfl⟩
end Go.Proofs.YtlckgkpgllhpbaaDoor

/- Are -/
namespace Go.Proofs.YtlckgkpgllhpbaaDoor
open Go.RowKit

/-- Members under way: the call's box, the row of its members. -/
structure AM (w0 w : World) (lo pr b : Nat) (st : RSt) (f : Fa) (V : Value) (l : List Mem) : Prop where
  r : AR w0 w lo pr b st ((acells f pl0 0).setIfInBounds 13 V)
  own : w.ownsRow w0.heap.size 106 4 V l.length (mv l)
  hb : b < w0.heap.size
section
variable {w0 w : World} {lo pr b : Nat} {st : RSt} {f : Fa} {V : Value} {l : List Mem}
theorem AM.read {w1 : World} {st1 : RSt} (h : AM w0 w lo pr b st f V l) (a : Rdr w1 lo pr st1) (fr : Fr (OneB pr) w w1) : AM w0 w1 lo pr b st1 f V l := by
  have h2 := h.r.lo2
  have hb := h.hb
  exact ⟨h.r.read a fr, own_by h.own fr (fun g hg => by have := (h.own.lt g hg).1; simp only [OneB]; omega), hb⟩
theorem AM.keep {w1 : World} (h : AM w0 w lo pr b st f V l) (fr : Fr NoB w w1) : AM w0 w1 lo pr b st f V l := ⟨h.r.keep fr, own_by h.own fr (fun _ _ x => x), h.hb⟩
theorem AM.old (h : AM w0 w lo pr b st f V l) {W wA : World} {V' : Value} {N : Nat} {xs : List Value} (fW : Fr NoB w W) (hA : App w0.heap.size 106 4 V N xs W V' wA) : wA.heap[b]? = some (.cells ((acells f pl0 0).setIfInBounds 13 V) 29 (0, 0)) :=
  hA.fr.at_ (fW.at_ h.r.bx (fun x => x)) (fun hx => by have := (h.own.lt b hx).1; have := h.hb; omega)
theorem AM.push (h : AM w0 w lo pr b st f V l) {W wA : World} {V' : Value} {m : Mem} (fW : Fr NoB w W) (hA : App w0.heap.size 106 4 V (l.length + 1) (mv l ++ mv [m]) W V' wA) : AM w0 (wA.setCell ⟨b, 13, none⟩ V') lo pr b st f V' (l ++ [m]) := by
  have h1 := h.r.lo1
  have h2 := h.r.lo2
  have hb := h.hb
  have hV : ∀ k, V.ownBlock = some k → w0.heap.size ≤ k := fun k hk => (h.own.lt k hk).1
  have f0 : Fr (fun k => V.ownBlock = some k) w wA := (fW.no (M := fun k => V.ownBlock = some k)).then hA.fr
  have f1 : Fr (fun k => V.ownBlock = some k ∨ k = b) w (wA.setCell ⟨b, 13, none⟩ V') := (f0.mono fun k _ hk => .inl hk).setCell (p := ⟨b, 13, none⟩) (fun _ => .inr rfl) V'
  have fb : Fr (OneB b) wA (wA.setCell ⟨b, 13, none⟩ V') := (Fr.refl (OneB b) wA).setCell (p := ⟨b, 13, none⟩) (fun _ => rfl) V'
  have hnew : ∀ g, V'.ownBlock = some g → w0.heap.size ≤ g := fun g hg => (hA.own.lt g hg).1
  refine ⟨⟨h.r.a.fr f1 (fun k _ hk hx => ?_) h1, h.r.fr.trans f1 (fun k hk hx => ?_), ?_, h1, h2⟩, ?_, hb⟩
  · rcases hx with hx | hx
    · have := hV k hx; omega
    · omega
  · rcases hx with hx | hx
    · have := hV k hx; omega
    · exact .inr hx
  · rw [heap_set (h.old fW hA)]; simp [acells]
  · rw [List.length_append, mv_append]
    exact own_by hA.own fb fun g hg => by have := hnew g hg; simp only [OneB]; omega
end

set_option maxHeartbeats 6400000 in
set_option maxRecDepth 8000 in
theorem ard12_calls (f : Fa) (deep : Bool) (lo pr b : Nat) (st : RSt) (w : World) (hz : f = bareAO f) (ha : Rdr w lo pr st) (h1 : lo ≤ pr) (h2 : pr < b) (hbx : w.heap[b]? = some (.cells (acells f pl0 0) 29 (0, 0))) (hk : f.k = 12) :
    Calls Tryd.prog 50 #[.pointer (some ⟨pr, 0, none⟩), .pointer (some ⟨b, 0, none⟩), .bool deep] w fun e w' => e = .returned (.bool (rdFa f st).1.2) ∧ ∃ pl, GotA w w' lo pr b (rdFa f st).2 (rdFa f st).1.1 pl := by
  obtain ⟨k, x, s, t, path, data, fl, ve, wa, so, la, ti, fr, ms⟩ := f
  simp only [bareAO, Fa.mk.injEq, true_and] at hz
  obtain ⟨rfl, rfl, rfl, rfl, rfl, rfl, rfl, rfl, rfl, rfl⟩ := hz
  simp only at hk
  subst hk
  obtain ⟨i0, hi0, hz0, hz1, hz2⟩ := info_parts info_mem
  have hbl : b < w.heap.size := Lib.lt_of_heap hbx
  have KP := fun W => kp_false (k := 12) W (by decide) (by decide)
  have KD := fun W => kd_false (k := 12) W (by decide) (by decide)
  have KV := fun W => kv_false (k := 12) W (by decide) (by decide)
  have KW := fun W => kw_false (k := 12) W (by decide) (by decide)
  have KL := fun W => kl_false (k := 12) W (by decide) (by decide)
  have T0 := Lib.hid (AR.start ha hbx h1 h2)
  have d1 := T0.out.cell 0 _ rfl
  obtain ⟨d1, -⟩ := d1
  obtain ⟨x0, s0, g0⟩ : ∃ x t, rInt st = (x, t) := ⟨_, _, rfl⟩
  have hc0 := fun W (r : Rdr W lo pr st) => rInt_calls lo pr st W r
  rw [g0] at hc0
  obtain ⟨nn, s1, g1⟩ : ∃ x t, rCount s0 7 = (x, t) := ⟨_, _, rfl⟩
  have hc1 := fun W (r : Rdr W lo pr s0) => rCount_calls lo pr s0 7 W r
  rw [g1] at hc1
  have hrg := rCount_range s0 7 (by omega)
  rw [g1] at hrg
  obtain ⟨n, rfl⟩ : ∃ n : Nat, nn = (n : Int) := ⟨nn.toNat, by simp only at hrg; omega⟩
  have hn7 : n ≤ 7 := by simp only at hrg; omega
  obtain ⟨⟨R, o⟩, s2, g2⟩ : ∃ x t, rdMas n s1 = (x, t) := ⟨_, _, rfl⟩
  have HFIN : Hid (rdFa ⟨12, x, s, t, [], [], 0, 0, false, 0, 0, 0, 0, []⟩ st = ((⟨12, x, s, t, [], [], 0, 0, false, 0, 0, 0, x0, R⟩, o), s2)) := by show _ = _; simp [rdFa, g0, g1, g2]
  have HG2 := Lib.hid g2
  have HC0 := Lib.hid hc0
  have HC1 := Lib.hid hc1
  simp only [acells, pl0] at *
  clear ha hbx hc0 hc1 g0 g1 g2 hrg
  go_enter Tryd.func50, Tryd.ntmps50
  go_wp2_with (first | ((with_reducible refine (KP _).mono ?_); rintro e w' ⟨rfl, rfl⟩) | ((with_reducible refine (KD _).mono ?_); rintro e w' ⟨rfl, rfl⟩) | ((with_reducible refine (KV _).mono ?_); rintro e w' ⟨rfl, rfl⟩) | ((with_reducible refine (KW _).mono ?_); rintro e w' ⟨rfl, rfl⟩) | ((with_reducible refine (KL _).mono ?_); rintro e w' ⟨rfl, rfl⟩) | fail)
  refine (HC0.out _ T0.out.a).mono ?_
  rintro e v0 ⟨rfl, a0, f0, -⟩
  have U0 := Lib.hid (T0.out.read a0 f0)
  clear a0 f0 T0 d1
  have y := (cells_of U0.out.bx 12).1
  have n0 := (cells_of U0.out.bx 12).2
  simp only [List.getElem?_toArray, List.getElem?_cons_zero, List.getElem?_cons_succ] at y
  have T1 := Lib.hid (U0.out.set 12 (.int .i64 x0))
  simp only [List.setIfInBounds_toArray, List.set_cons_zero, List.set_cons_succ] at T1
  go_wp2_with (fail)
  clear y n0 U0
  generalize v0.setCell ⟨b, 12, none⟩ (.int .i64 x0) = t0 at *
  refine (HC1.out _ T1.out.a).mono ?_
  rintro e v1 ⟨rfl, a1, f1, -⟩
  have T2 := Lib.hid (show AM w v1 lo pr b s1 ⟨12, x, s, t, [], [], 0, 0, false, 0, 0, 0, x0, []⟩ (.slice none 0 0) [] from ⟨T1.out.read a1 f1, World.ownsRow_nil _ _ _ _, hbl⟩)
  clear a1 f1 T1 KP KD KV KW KL
  have KL := fun W => kl_false (k := 12) W (by decide) (by decide)
  go_wp2
  go_loopw [8, 88] (fun ok i W => ∃ (k : Nat) (V : Value), k ≤ n ∧ i = .int .i64 (k : Int) ∧ ok = .bool (rdMas k s1).1.2 ∧ AM w W lo pr b (rdMas k s1).2 ⟨12, x, s, t, [], [], 0, 0, false, 0, 0, 0, x0, []⟩ V (rdMas k s1).1.1) (fun _ i _ => n - (intOf i).toNat)
  case atStart => exact ⟨0, _, Nat.zero_le _, rfl, rfl, T2.out⟩
  case round =>
    obtain ⟨k, V, hk, rfl, rfl, ht⟩ := hrel
    have T := Lib.hid ht
    clear ht T2
    by_cases hlt : k < n
    · have hki : (k : Int) < (n : Int) := by omega
      have hll := rdMas_len k s1
      have hstep : rdMas (k + 1) s1 = (((rdMas k s1).1.1 ++ [(rdMa (rdMas k s1).2).1.1], (rdMas k s1).1.2 && (rdMa (rdMas k s1).2).1.2), (rdMa (rdMas k s1).2).2) := rfl
      generalize (rdMas k s1).1.1 = l at T hll hstep
      generalize (rdMas k s1).1.2 = ok at T hstep ⊢
      generalize (rdMas k s1).2 = sk at T hstep
      obtain ⟨x1, t1, g1⟩ : ∃ x t, rInt sk = (x, t) := ⟨_, _, rfl⟩
      obtain ⟨x2, t2, g2⟩ : ∃ x t, rInt t1 = (x, t) := ⟨_, _, rfl⟩
      obtain ⟨x3, t3, g3⟩ : ∃ x t, rInt t2 = (x, t) := ⟨_, _, rfl⟩
      obtain ⟨x4, t4, g4⟩ : ∃ x t, rInt t3 = (x, t) := ⟨_, _, rfl⟩
      have hmem : rdMa sk = (((x1, x2 % 256, x3, x4), decide (0 ≤ x2 ∧ x2 < 256)), t4) := by simp [rdMa, g1, g2, g3, g4]
      rw [hmem] at hstep
      have hC1 := fun W (r : Rdr W lo pr sk) => rInt_calls lo pr sk W r
      have hC2 := fun W (r : Rdr W lo pr t1) => rInt_calls lo pr t1 W r
      have hC3 := fun W (r : Rdr W lo pr t2) => rInt_calls lo pr t2 W r
      have hC4 := fun W (r : Rdr W lo pr t3) => rInt_calls lo pr t3 W r
      rw [g1] at hC1
      rw [g2] at hC2
      rw [g3] at hC3
      rw [g4] at hC4
      have HD1 := Lib.hid hC1
      have HD2 := Lib.hid hC2
      have HD3 := Lib.hid hC3
      have HD4 := Lib.hid hC4
      obtain ⟨r, hr⟩ : ∃ r, (ok && decide (0 ≤ x2 ∧ x2 < 256)) = r := ⟨_, rfl⟩
      simp only at hstep
      rw [hr] at hstep
      have HSTEP := Lib.hid hstep
      have HLL := Lib.hid hll
      obtain ⟨AV, cV, hVe, _, _⟩ := own_form4 T.out.own
      subst hVe
      clear hC1 hC2 hC3 hC4 hstep hmem g1 g2 g3 g4 hll
      go_wp2_with (fail)
      refine (HD1.out _ T.out.r.a).mono ?_
      rintro e w5 ⟨rfl, a5, f5, -⟩
      have T5 := Lib.hid (T.out.read a5 f5)
      clear a5 f5 T HD1
      go_wp2_with (fail)
      refine (HD2.out _ T5.out.r.a).mono ?_
      rintro e w6 ⟨rfl, a6, f6, -⟩
      have T6 := Lib.hid (T5.out.read a6 f6)
      clear a6 f6 T5 HD2
      have hcase : (ok = false ∧ r = false) ∨ (ok = true ∧ ¬ 0 ≤ x2 ∧ r = false) ∨ (ok = true ∧ 0 ≤ x2 ∧ ¬ x2 < 256 ∧ r = false) ∨ (ok = true ∧ 0 ≤ x2 ∧ x2 < 256 ∧ r = true) := by
        cases ok
        · exact .inl ⟨rfl, hr.symm⟩
        · refine .inr ?_
          rw [Bool.true_and] at hr
          by_cases q1 : 0 ≤ x2
          · by_cases q2 : x2 < 256
            · exact .inr (.inr ⟨rfl, q1, q2, by rw [← hr]; exact decide_eq_true ⟨q1, q2⟩⟩)
            · exact .inr (.inl ⟨rfl, q1, q2, by rw [← hr]; exact decide_eq_false fun h => q2 h.2⟩)
          · exact .inl ⟨rfl, q1, by rw [← hr]; exact decide_eq_false fun h => q1 h.1⟩
      clear hr
      rcases hcase with ⟨rfl, rfl⟩ | ⟨rfl, q1, rfl⟩ | ⟨rfl, q1, q2, rfl⟩ | ⟨rfl, q1, q2, rfl⟩
      rotate_left 3
      · have hm : x2 % 256 = x2 := by omega
        rw [hm] at HSTEP
        clear hm
        go_wp2_with (fail)
        refine (HD3.out _ T6.out.r.a).mono ?_
        rintro e w7 ⟨rfl, a7, f7, -⟩
        have T7 := Lib.hid (T6.out.read a7 f7)
        clear a7 f7 T6 HD3
        go_wp2_with (fail)
        refine (HD4.out _ T7.out.r.a).mono ?_
        rintro e w8 ⟨rfl, a8, f8, -⟩
        have T8 := Lib.hid (T7.out.read a8 f8)
        clear a8 f8 T7 HD4
        have u13 := (cells_of T8.out.r.bx 13).1
        simp only [acells, List.setIfInBounds_toArray, List.set_cons_zero, List.set_cons_succ, List.getElem?_toArray, List.getElem?_cons_zero, List.getElem?_cons_succ] at u13
        have FW := Lib.hid ((Fr.refl NoB w8).alloc (.cells #[.int .i64 x1, .int .u8 (x2), .int .i64 x3, .int .i64 x4] 106))
        have OW := Lib.hid (own_by T8.out.own FW.out (fun _ _ x => x))
        have SR := Lib.hid (src_block w8 #[.int .i64 x1, .int .u8 (x2), .int .i64 x3, .int .i64 x4] 106 (mv [(x1, x2, x3, x4)]) rfl)
        have HSZ := Lib.hid (Nat.le_trans T8.out.r.fr.size FW.out.size)
        go_wp2_with (at_builtin; go_loud (refine wpList_append_src _ rfl _ _ 26 rfl w.heap.size 106 i0 (.agg #[.int .i64 0, .int .u8 0, .int .i64 0, .int .i64 0]) 4 32 Tryd.underlying26 hi0 hz0 hz1 hz2 rfl (by decide) (.slice AV l.length cV) l.length (mv l) rfl OW.out _ 1 _ (mv [(x1, x2, x3, x4)]) rfl rfl (fun _ => SR.out) (mv_one _) (by have := HLL.out; unfold maxLen; omega) (by have := HLL.out; omega) HSZ.out ?_))
        intro v' wA hA
        obtain ⟨A2, c2, hv2, _, _⟩ := own_form4 hA.own
        subst hv2
        have T10 := Lib.hid (T8.out.push FW.out hA)
        have hold := T8.out.old FW.out hA
        have q13 := (cells_of hold 13).1
        have z13 := (cells_of hold 13).2
        simp only [acells, List.setIfInBounds_toArray, List.set_cons_zero, List.set_cons_succ, List.getElem?_toArray, List.getElem?_cons_zero, List.getElem?_cons_succ] at q13
        clear hA hold T8 SR OW FW HSZ u13
        go_wp2
        go_roundw
        case rel => exact ⟨k + 1, _, by omega, by go_num, by first | (rw [HSTEP.out]; done) | (rw [HSTEP.out]; exact congrArg Value.bool (decide_eq_false (by omega))), by rw [HSTEP.out]; exact T10.out⟩
        case measure => simp [intOf]; omega
      all_goals
        go_wp2_with (fail)
        refine (HD3.out _ T6.out.r.a).mono ?_
        rintro e w7 ⟨rfl, a7, f7, -⟩
        have T7 := Lib.hid (T6.out.read a7 f7)
        clear a7 f7 T6 HD3
        go_wp2_with (fail)
        refine (HD4.out _ T7.out.r.a).mono ?_
        rintro e w8 ⟨rfl, a8, f8, -⟩
        have T8 := Lib.hid (T7.out.read a8 f8)
        clear a8 f8 T7 HD4
        have u13 := (cells_of T8.out.r.bx 13).1
        simp only [acells, List.setIfInBounds_toArray, List.set_cons_zero, List.set_cons_succ, List.getElem?_toArray, List.getElem?_cons_zero, List.getElem?_cons_succ] at u13
        have FW := Lib.hid ((Fr.refl NoB w8).alloc (.cells #[.int .i64 x1, .int .u8 (x2 % 256), .int .i64 x3, .int .i64 x4] 106))
        have OW := Lib.hid (own_by T8.out.own FW.out (fun _ _ x => x))
        have SR := Lib.hid (src_block w8 #[.int .i64 x1, .int .u8 (x2 % 256), .int .i64 x3, .int .i64 x4] 106 (mv [(x1, x2 % 256, x3, x4)]) rfl)
        have HSZ := Lib.hid (Nat.le_trans T8.out.r.fr.size FW.out.size)
        go_wp2_with (at_builtin; go_loud (refine wpList_append_src _ rfl _ _ 26 rfl w.heap.size 106 i0 (.agg #[.int .i64 0, .int .u8 0, .int .i64 0, .int .i64 0]) 4 32 Tryd.underlying26 hi0 hz0 hz1 hz2 rfl (by decide) (.slice AV l.length cV) l.length (mv l) rfl OW.out _ 1 _ (mv [(x1, x2 % 256, x3, x4)]) rfl rfl (fun _ => SR.out) (mv_one _) (by have := HLL.out; unfold maxLen; omega) (by have := HLL.out; omega) HSZ.out ?_))
        intro v' wA hA
        obtain ⟨A2, c2, hv2, _, _⟩ := own_form4 hA.own
        subst hv2
        have T10 := Lib.hid (T8.out.push FW.out hA)
        have hold := T8.out.old FW.out hA
        have q13 := (cells_of hold 13).1
        have z13 := (cells_of hold 13).2
        simp only [acells, List.setIfInBounds_toArray, List.set_cons_zero, List.set_cons_succ, List.getElem?_toArray, List.getElem?_cons_zero, List.getElem?_cons_succ] at q13
        clear hA hold T8 SR OW FW HSZ u13
        go_wp2
        go_roundw
        case rel => exact ⟨k + 1, _, by omega, by go_num, by first | (rw [HSTEP.out]; done) | (rw [HSTEP.out]; exact congrArg Value.bool (decide_eq_false (by omega))), by rw [HSTEP.out]; exact T10.out⟩
        case measure => simp [intOf]; omega
    · obtain rfl : k = n := by omega
      have ht := T.out
      rw [HG2.out] at ht
      simp only at ht
      obtain ⟨AV, cV, hVe, -, -⟩ := own_form4 ht.own
      subst hVe
      have TE := Lib.hid ht
      clear ht T
      go_wp2_with (first | ((with_reducible refine (KL _).mono ?_); rintro e w' ⟨rfl, rfl⟩) | fail)
      go_ret
      refine ⟨by rw [HFIN.out, HG2.out]; rfl, ?_⟩
      rw [HFIN.out]
      exact ⟨⟨none, 0, AV, cV, none, 0⟩, by have h := TE.out.r; simpa [acells, pl0] using h, own_nil0 _ _, own_rdm TE.out.own, rfl, rfl⟩
end Go.Proofs.YtlckgkpgllhpbaaDoor

/- Arp -/
namespace Go.Proofs.YtlckgkpgllhpbaaDoor
open Go.RowKit
attribute [local go_sem ↓] Go.wp_at_zero Go.wp_at_succ

/-- The cells of parts, side by side. -/
def av (l : List (Fa × Pl)) : List Value := l.flatMap fun x => (acells x.1 x.2 0).toList
@[simp] theorem av_nil : av [] = [] := rfl
theorem av_cons (x : Fa × Pl) (l : List (Fa × Pl)) : av (x :: l) = (acells x.1 x.2 0).toList ++ av l := rfl
theorem av_append (a b : List (Fa × Pl)) : av (a ++ b) = av a ++ av b := by simp [av]
theorem av_one (x : Fa × Pl) : av [x] = (acells x.1 x.2 0).toList := by simp [av]
theorem acells_one1 (f : Fa) (p : Pl) (n : Nat) : ∀ v ∈ (acells f p n).toList, v.oneCell' = true := by
  intro v hv
  simp only [acells, List.mem_cons, List.not_mem_nil, or_false] at hv
  rcases hv with h | h | h | h | h | h | h | h | h | h | h | h | h | h | h <;> subst h <;> rfl
theorem av_oneCell (l : List (Fa × Pl)) : ∀ v ∈ av l, v.oneCell' = true := by
  intro v hv
  obtain ⟨x, _, hx⟩ := List.mem_flatMap.1 hv
  exact acells_one1 _ _ _ v hx
@[simp] theorem av_length (l : List (Fa × Pl)) : (av l).length = l.length * 15 := by
  induction l with
  | nil => rfl
  | cons x l ih => rw [av_cons, List.length_append, ih]; simp [acells]; omega
theorem av_get {l : List (Fa × Pl)} {i : Nat} {x : Fa × Pl} (h : l[i]? = some x) (j : Nat) (v : Value) (hv : (acells x.1 x.2 0)[j]? = some v) : (av l)[i * 15 + j]? = some v := by
  induction l generalizing i with
  | nil => simp at h
  | cons y l ih =>
    have hj : j < 15 := by
      have := (Array.getElem?_eq_some_iff.1 hv).1
      simpa [acells] using this
    rw [av_cons]
    cases i with
    | zero =>
      simp only [List.getElem?_cons_zero, Option.some.injEq] at h
      subst h
      rw [Nat.zero_mul, Nat.zero_add, List.getElem?_append_left (by simp [acells]; omega)]
      simpa using hv
    | succ i =>
      rw [List.getElem?_cons_succ] at h
      have h15 : (acells y.1 y.2 0).toList.length = 15 := by simp [acells]
      rw [List.getElem?_append_right (by rw [h15]; omega), h15, show (i + 1) * 15 + j - 15 = i * 15 + j by omega]
      exact ih h
/-- A part that was read: where its lists lie, off the row V. -/
structure PartAtA (w0 w : World) (V : Value) (x : Fa × Pl) : Prop where
  e : ∃ lo hi, w0.heap.size ≤ lo ∧ hi ≤ w.heap.size ∧ (∀ g, V.ownBlock = some g → ¬ (lo ≤ g ∧ g < hi)) ∧ w.ownsRow lo 5 1 (.slice x.2.A x.1.data.length x.2.c) x.1.data.length (bv x.1.data) ∧ (∀ g, (Value.slice x.2.A x.1.data.length x.2.c).ownBlock = some g → g < hi) ∧ RdM w lo hi x.2.B x.1.ms ∧ x.2.P = none ∧ x.2.e = 0
theorem PartAtA.keep {w0 w w1 : World} {V V1 : Value} {x : Fa × Pl} {M : Nat → Prop} (h : PartAtA w0 w V x) (f : Fr M w w1) (hm : ∀ k, M k → k < w0.heap.size ∨ w.heap.size ≤ k ∨ V.ownBlock = some k) (hv : ∀ g, V1.ownBlock = some g → V.ownBlock = some g ∨ w.heap.size ≤ g) : PartAtA w0 w1 V1 x := by
  obtain ⟨lo, hi, h1, h2, h3, h4, h5, h6, h7⟩ := h.e
  have hfar : ∀ k, lo ≤ k → k < hi → ¬ M k := fun k a b c => by
    rcases hm k c with h | h | h
    · omega
    · omega
    · exact h3 k h ⟨a, b⟩
  refine ⟨lo, hi, h1, Nat.le_trans h2 f.size, fun g hg => ?_, own_by h4 f fun g hg => hfar g (h4.lt g hg).1 (h5 g hg), h5, h6.fr f h2 hfar, h7⟩
  rcases hv g hg with h | h
  · exact h3 g h
  · omega
/-- Parts under way: the call's box, the row of its parts. -/
structure AP (w0 w : World) (lo pr b : Nat) (st : RSt) (f : Fa) (V : Value) (L : List (Fa × Pl)) : Prop where
  r : AR w0 w lo pr b st ((acells f pl0 0).setIfInBounds 14 V)
  own : w.ownsRow w0.heap.size 29 15 V L.length (av L)
  parts : ∀ x ∈ L, PartAtA w0 w V x
  hb : b < w0.heap.size
theorem AP.read {w0 w w1 : World} {lo pr b : Nat} {st st1 : RSt} {f : Fa} {V : Value} {L : List (Fa × Pl)} (h : AP w0 w lo pr b st f V L) (a : Rdr w1 lo pr st1) (fr : Fr (OneB pr) w w1) : AP w0 w1 lo pr b st1 f V L := by
  have h2 := h.r.lo2
  have hb := h.hb
  exact ⟨h.r.read a fr, own_by h.own fr (fun g hg => by have := (h.own.lt g hg).1; simp only [OneB]; omega), fun x hx => (h.parts x hx).keep fr (fun k hk => by simp only [OneB] at hk; omega) (fun g hg => .inl hg), hb⟩
theorem AP.keep {w0 w w1 : World} {lo pr b : Nat} {st : RSt} {f : Fa} {V : Value} {L : List (Fa × Pl)} (h : AP w0 w lo pr b st f V L) (fr : Fr NoB w w1) : AP w0 w1 lo pr b st f V L :=
  ⟨h.r.keep fr, own_by h.own fr (fun _ _ x => x), fun x hx => (h.parts x hx).keep fr (fun _ hk => hk.elim) (fun _g hg => .inl hg), h.hb⟩
/-- One part more. -/
theorem AP.push {w0 w w' : World} {lo pr b : Nat} {st : RSt} {f : Fa} {V V' : Value} {L : List (Fa × Pl)} {x : Fa × Pl} (h : AP w0 w lo pr b st f V L) (hx : PartAtA w0 w V x) (fa : Fr (fun k => V.ownBlock = some k ∨ k = b) w w') (hV : ∀ g, V'.ownBlock = some g → V.ownBlock = some g ∨ w.heap.size ≤ g) (hbx : w'.heap[b]? = some (.cells ((acells f pl0 0).setIfInBounds 14 V') 29 (0, 0))) (ho : w'.ownsRow w0.heap.size 29 15 V' (L.length + 1) (av L ++ av [x])) : AP w0 w' lo pr b st f V' (L ++ [x]) := by
  have h1 := h.r.lo1
  have h2 := h.r.lo2
  have hb := h.hb
  have hV0 : ∀ k, V.ownBlock = some k → w0.heap.size ≤ k := fun k hk => (h.own.lt k hk).1
  have hM : ∀ k, (V.ownBlock = some k ∨ k = b) → k < w0.heap.size ∨ w.heap.size ≤ k ∨ V.ownBlock = some k := fun k hk => by
    rcases hk with hk | hk
    · exact .inr (.inr hk)
    · omega
  refine ⟨⟨h.r.a.fr fa (fun k _ hk hx => ?_) h1, h.r.fr.trans fa (fun k hk hx => ?_), hbx, h1, h2⟩, by rw [List.length_append, av_append]; exact ho, fun y hy => ?_, hb⟩
  · rcases hx with hx | hx
    · have := hV0 k hx; omega
    · omega
  · rcases hx with hx | hx
    · have := hV0 k hx; omega
    · exact .inr hx
  · rcases List.mem_append.1 hy with hy | hy
    · exact (h.parts y hy).keep fa hM hV
    · simp only [List.mem_singleton] at hy
      subst hy
      exact hx.keep fa hM hV
def setL (xs : List Value) (o : Nat) : List Value → List Value
  | [] => xs
  | v :: r => setL (xs.set o v) (o + 1) r
theorem setL_tail (a z vs : List Value) (h : z.length = vs.length) : setL (a ++ z) a.length vs = a ++ vs := by
  induction vs generalizing a z with
  | nil => simp at h; subst h; rfl
  | cons v r ih =>
    cases z with
    | nil => simp at h
    | cons y z =>
      have e : (a ++ y :: z).set a.length v = (a ++ [v]) ++ z := by simp
      have := ih (a ++ [v]) z (by simpa using h)
      rw [List.length_append, List.length_singleton] at this
      rw [setL, e, this]
      simp
theorem own_setCells {base : Nat} {e : TypeId} {size g n cap : Nat} (vs : List Value) : ∀ {w : World} {xs : List Value} (o : Nat), w.ownsRow base e size (.slice (some ⟨g, 0, none⟩) n cap) n xs → (w.setCells g o vs).ownsRow base e size (.slice (some ⟨g, 0, none⟩) n cap) n (setL xs o vs) := by
  induction vs with
  | nil => intro w xs o h; exact h
  | cons v r ih => intro w xs o h; exact ih (o + 1) (h.stored o v).1
theorem fr_setCells {M : Nat → Prop} {a : World} {g : Nat} (hg : g < a.heap.size → M g) (vs : List Value) : ∀ {w : World} (o : Nat), Fr M a w → Fr M a (w.setCells g o vs) := by
  induction vs with
  | nil => intro w o h; exact h
  | cons v r ih => intro w o h; exact ih (o + 1) (h.setCell (p := ⟨g, o, none⟩) hg v)
theorem size_setCells {g : Nat} (vs : List Value) : ∀ {w : World} (o : Nat), (w.setCells g o vs).heap.size = w.heap.size := by
  induction vs with
  | nil => intro w o; rfl
  | cons v r ih => intro w o; rw [World.setCells, ih]; simp [World.setCell]
theorem set14 (f : Fa) (p : Pl) (V V' : Value) : ((acells f p 0).setIfInBounds 14 V).setIfInBounds 14 V' = (acells f p 0).setIfInBounds 14 V' := by simp [acells]
/-- The element is appended whole, and the new row stored. -/
theorem AP.pushB {w0 w w' : World} {lo pr b : Nat} {st : RSt} {f : Fa} {V : Value} {L : List (Fa × Pl)} {x : Fa × Pl} {o : Obj} {g cap n : Nat} (hn : L.length = n) (h : AP w0 w lo pr b st f V L) (hx : PartAtA w0 w V x) (ho : w'.ownsRow w0.heap.size 29 15 (.slice (some ⟨g, 0, none⟩) (n + 1) cap) (n + 1) (av L ++ av [x])) (hg : (w.alloc o).grownBy w' V.ownBlock) (hat : V.ownBlock = some g ∨ g = w.heap.size + 1) :
    AP w0 (w'.setCell ⟨b, 14, none⟩ (.slice (some ⟨g, 0, none⟩) (n + 1) cap)) lo pr b st f (.slice (some ⟨g, 0, none⟩) (n + 1) cap) (L ++ [x]) := by
  subst hn
  have fa : Fr (fun k => V.ownBlock = some k ∨ k = b) w w' := ((Fr.refl _ w).alloc o).trans (Fr.ofGrown (M := fun k => V.ownBlock = some k) hg (fun k _ h => h)) (fun k _ hk => .inl hk)
  have hb := h.hb
  have hgb : w0.heap.size ≤ g := (ho.lt g rfl).1
  refine h.push hx (fa.setCell (p := ⟨b, 14, none⟩) (fun _ => .inr rfl) _) (fun k hk => ?_) ?_ (own_by ho ((Fr.refl (OneB b) w').setCell (p := ⟨b, 14, none⟩) (fun _ => rfl) _) (fun k hk => ?_))
  · have hk : g = k := by simpa [Value.ownBlock] using hk
    subst hk
    rcases hat with h | h
    · exact .inl h
    · right; omega
  · have hbx := (hg.block b (by have := Lib.lt_of_heap h.r.bx; simp; omega) (fun e => by have := (h.own.lt b e.symm).1; omega)).trans ((Below.heap_alloc w o b (Lib.lt_of_heap h.r.bx)).trans h.r.bx)
    rw [heap_set hbx, set14]
  · have hk : g = k := by simpa [Value.ownBlock] using hk
    simp only [OneB]; omega
/-- A zero is appended, the new row stored, and the element stored into it. -/
theorem AP.pushA {w0 w w' : World} {lo pr b : Nat} {st : RSt} {f : Fa} {V : Value} {L : List (Fa × Pl)} {x : Fa × Pl} {o : Obj} {g cap n : Nat} {zs : List Value} (hz : zs.length = 15) (hn : L.length = n) (h : AP w0 w lo pr b st f V L) (hx : PartAtA w0 w V x) (ho : w'.ownsRow w0.heap.size 29 15 (.slice (some ⟨g, 0, none⟩) (n + 1) cap) (n + 1) (av L ++ zs)) (hg : (w.alloc o).grownBy w' V.ownBlock) (hat : V.ownBlock = some g ∨ g = w.heap.size + 1) :
    AP w0 ((w'.setCell ⟨b, 14, none⟩ (.slice (some ⟨g, 0, none⟩) (n + 1) cap)).setCells g (n * 15) (acells x.1 x.2 0).toList) lo pr b st f (.slice (some ⟨g, 0, none⟩) (n + 1) cap) (L ++ [x]) := by
  subst hn
  have fa : Fr (fun k => V.ownBlock = some k ∨ k = b) w w' := ((Fr.refl _ w).alloc o).trans (Fr.ofGrown (M := fun k => V.ownBlock = some k) hg (fun k _ h => h)) (fun k _ hk => .inl hk)
  have hb := h.hb
  have hgb : w0.heap.size ≤ g := (ho.lt g rfl).1
  have fb := fa.setCell (p := ⟨b, 14, none⟩) (fun _ => .inr rfl) (.slice (some ⟨g, 0, none⟩) (L.length + 1) cap)
  have ho2 := own_by ho ((Fr.refl (OneB b) w').setCell (p := ⟨b, 14, none⟩) (fun _ => rfl) (.slice (some ⟨g, 0, none⟩) (L.length + 1) cap)) (fun k hk => by
    have hk : g = k := by simpa [Value.ownBlock] using hk
    simp only [OneB]; omega)
  have ho3 := own_setCells (acells x.1 x.2 0).toList (L.length * 15) ho2
  have hpl : (av L).length = L.length * 15 := av_length L
  rw [← hpl, setL_tail (av L) zs _ (by rw [hz]; simp [acells]), hpl] at ho3
  refine h.push hx (fr_setCells (fun hlt => ?_) _ _ fb) (fun k hk => ?_) ?_ (by rw [av_one]; exact ho3)
  · rcases hat with h | h
    · exact .inl h
    · omega
  · have hk : g = k := by simpa [Value.ownBlock] using hk
    subst hk
    rcases hat with h | h
    · exact .inl h
    · right; omega
  · have hbx := (hg.block b (by have := Lib.lt_of_heap h.r.bx; simp; omega) (fun e => by have := (h.own.lt b e.symm).1; omega)).trans ((Below.heap_alloc w o b (Lib.lt_of_heap h.r.bx)).trans h.r.bx)
    have hs : (w'.setCell ⟨b, 14, none⟩ (.slice (some ⟨g, 0, none⟩) (L.length + 1) cap)).heap[b]? = some (.cells ((acells f pl0 0).setIfInBounds 14 (.slice (some ⟨g, 0, none⟩) (L.length + 1) cap)) 29 (0, 0)) := by rw [heap_set hbx, set14]
    exact ((fr_setCells (M := OneB g) (fun _ => rfl) (acells x.1 x.2 0).toList (L.length * 15) (Fr.refl (OneB g) (w'.setCell ⟨b, 14, none⟩ (.slice (some ⟨g, 0, none⟩) (L.length + 1) cap)))).block b (Lib.lt_of_heap hs) (by simp only [OneB]; omega)).trans hs

theorem rByte_lim {st : RSt} (h : RLim st) : RLim (rByte st).2 := by
  rcases st with _ | ⟨_ | ⟨c0, l0⟩⟩
  · trivial
  · trivial
  · simp only [rByte, RLim, List.length_cons] at h ⊢; omega
theorem rdMas_lim {n : Nat} {st : RSt} (h : RLim st) : RLim (rdMas n st).2 := by
  induction n with
  | zero => exact h
  | succ n ih => exact rInt_lim (rInt_lim (rInt_lim (rInt_lim ih)))
theorem rdFa_lim {f : Fa} {st : RSt} (h : RLim st) : RLim (rdFa f st).2 := by
  have h1 := rBytes_lim (m := 220) h
  have h2 := rBytes_lim (m := 1000) h1
  unfold rdFa
  split
  · exact rInt_lim (rInt_lim h)
  split
  · exact rInt_lim h2
  split
  · exact rInt_lim h1
  split
  · exact rInt_lim h2
  split
  · exact rByte_lim h1
  split
  · exact rdMas_lim (rCount_lim (rInt_lim h))
  split
  · exact rInt_lim (rByte_lim h1)
  · exact h
/-- Where a walk stands still. -/
def Held (p : Prop) : Prop := p
theorem held_store {P : Program} {ops : Array Oper} {Q : Exit → Act → World → Prop} {rest : List Oper} {a : Act} {w : World} {ty tp : TypeId} {x y : Operand} {dst : Option Tmp} {ps : String} {af : Array Edge} {gd : Option (Nat × Bool)} (h : Held (wpList P ops Q ({ dst := dst, op := .store ty x y, type := tp, pos := ps, after := af, guard := gd } :: rest) a w)) : wpList P ops Q ({ dst := dst, op := .store ty x y, type := tp, pos := ps, after := af, guard := gd } :: rest) a w := h
theorem info_ask : (Tryd.prog.info? 29).map (fun i => (i.zero, i.size, i.bytes)) = some (some (.agg (acells (bareA 0) pl0 0)), 15, 168) := by kernel_rfl
theorem rdFa_out {f : Fa} {st : RSt} (h : ¬ (1 ≤ f.k ∧ f.k ≤ 14)) : rdFa f st = ((f, true), st) := by
  unfold rdFa
  rw [if_neg (by omega), if_neg (by omega), if_neg (by omega), if_neg (by omega), if_neg (by omega), if_neg (by omega), if_neg (by omega)]
set_option maxHeartbeats 1600000 in
set_option maxRecDepth 8000 in
theorem ardx_calls (f : Fa) (deep : Bool) (lo pr b : Nat) (st : RSt) (w : World) (hf : f.Ok) (hz : f = bareAO f) (ha : Rdr w lo pr st) (h1 : lo ≤ pr) (h2 : pr < b) (hbx : w.heap[b]? = some (.cells (acells f pl0 0) 29 (0, 0))) (hk : ¬ (1 ≤ f.k ∧ f.k ≤ 14)) :
    Calls Tryd.prog 50 #[.pointer (some ⟨pr, 0, none⟩), .pointer (some ⟨b, 0, none⟩), .bool deep] w fun e w' => e = .returned (.bool (rdFa f st).1.2) ∧ ∃ pl, GotA w w' lo pr b (rdFa f st).2 (rdFa f st).1.1 pl := by
  rw [rdFa_out hk]
  have T0 := Lib.hid (AR.start ha hbx h1 h2)
  obtain ⟨d1, -⟩ := T0.out.cell 0 _ rfl
  have hk0 := hf.k
  have hdl : f.data = [] := by rw [hz]; rfl
  have hml : f.ms = [] := by rw [hz]; rfl
  have HG : Hid (GotA w w lo pr b st f pl0) := by
    refine ⟨T0.out, ?_, ?_, rfl, rfl⟩
    · rw [hdl]; exact own_nil0 _ _
    · rw [hml]; exact RdM.nil' _ _ _ _
  have KP := fun W => kp_false (k := f.k) W hk0 (by unfold hP; omega)
  have KD := fun W => kd_false (k := f.k) W hk0 (by unfold hD; omega)
  have KV := fun W => kv_false (k := f.k) W hk0 (by unfold hV; omega)
  have KW := fun W => kw_false (k := f.k) W hk0 (by unfold hW; omega)
  have KL := fun W => kl_false (k := f.k) W hk0 (by unfold hL; omega)
  clear hf hz ha hbx hdl hml T0
  obtain ⟨k, x, s, t, path, data, fl, ve, wa, so, la, ti, fr, ms⟩ := f
  simp only [acells] at *
  have e1 : (k == 1) = false := by rw [beq_eq_false_iff_ne]; omega
  have e3 : (k == 3) = false := by rw [beq_eq_false_iff_ne]; omega
  have e11 : (k == 11) = false := by rw [beq_eq_false_iff_ne]; omega
  have e12 : (k == 12) = false := by rw [beq_eq_false_iff_ne]; omega
  have e14 : (k == 14) = false := by rw [beq_eq_false_iff_ne]; omega
  clear hk
  go_enter Tryd.func50, Tryd.ntmps50
  go_wp2_with (first | ((with_reducible refine (KP _).mono ?_); rintro e w' ⟨rfl, rfl⟩) | ((with_reducible refine (KD _).mono ?_); rintro e w' ⟨rfl, rfl⟩) | ((with_reducible refine (KV _).mono ?_); rintro e w' ⟨rfl, rfl⟩) | ((with_reducible refine (KW _).mono ?_); rintro e w' ⟨rfl, rfl⟩) | ((with_reducible refine (KL _).mono ?_); rintro e w' ⟨rfl, rfl⟩) | fail)
  go_ret
  exact ⟨rfl, pl0, HG.out⟩
/-- Read of any kind, where no parts are asked. -/
theorem ardFlat_calls (f : Fa) (deep : Bool) (lo pr b : Nat) (st : RSt) (w : World) (hf : f.Ok) (hz : f = bareAO f) (ha : Rdr w lo pr st) (h1 : lo ≤ pr) (h2 : pr < b) (hbx : w.heap[b]? = some (.cells (acells f pl0 0) 29 (0, 0))) (hlim : RLim st) (hdp : f.k = 11 → deep = false) :
    Calls Tryd.prog 50 #[.pointer (some ⟨pr, 0, none⟩), .pointer (some ⟨b, 0, none⟩), .bool deep] w fun e w' => e = .returned (.bool (rdFa f st).1.2) ∧ ∃ pl, GotA w w' lo pr b (rdFa f st).2 (rdFa f st).1.1 pl := by
  by_cases hk : 1 ≤ f.k ∧ f.k ≤ 14
  · rcases (show f.k = 1 ∨ f.k = 2 ∨ f.k = 3 ∨ f.k = 4 ∨ f.k = 5 ∨ f.k = 6 ∨ f.k = 7 ∨ f.k = 8 ∨ f.k = 9 ∨ f.k = 10 ∨ f.k = 11 ∨ f.k = 12 ∨ f.k = 13 ∨ f.k = 14 by omega) with h | h | h | h | h | h | h | h | h | h | h | h | h | h
    · exact ard1_calls f deep lo pr b st w hz ha h1 h2 hbx hlim h
    · exact ard2_calls f deep lo pr b st w hz ha h1 h2 hbx hlim h
    · exact ard3_calls f deep lo pr b st w hz ha h1 h2 hbx hlim h
    · exact ard4_calls f deep lo pr b st w hz ha h1 h2 hbx hlim h
    · exact ard5_calls f deep lo pr b st w hz ha h1 h2 hbx hlim h
    · exact ard6_calls f deep lo pr b st w hz ha h1 h2 hbx hlim h
    · exact ard7_calls f deep lo pr b st w hz ha h1 h2 hbx hlim h
    · exact ard8_calls f deep lo pr b st w hz ha h1 h2 hbx hlim h
    · exact ard9_calls f deep lo pr b st w hz ha h1 h2 hbx hlim h
    · exact ard10_calls f deep lo pr b st w hz ha h1 h2 hbx hlim h
    · exact ard11_calls f deep lo pr b st w hz ha h1 h2 hbx hlim (hdp h) h
    · exact ard12_calls f deep lo pr b st w hz ha h1 h2 hbx h
    · exact ard13_calls f deep lo pr b st w hz ha h1 h2 hbx hlim h
    · exact ard14_calls f deep lo pr b st w hz ha h1 h2 hbx hlim h
  · exact ardx_calls f deep lo pr b st w hf hz ha h1 h2 hbx hk
end Go.Proofs.YtlckgkpgllhpbaaDoor

/- Arq -/
namespace Go.Proofs.YtlckgkpgllhpbaaDoor
open Go.RowKit
attribute [local go_sem ↓] Go.wp_at_zero Go.wp_at_succ

set_option maxHeartbeats 6400000 in
set_option maxRecDepth 8000 in
theorem ardp_calls (f : Fa) (lo pr b : Nat) (st : RSt) (w : World) (hz : f = bareAO f) (ha : Rdr w lo pr st) (h1 : lo ≤ pr) (h2 : pr < b) (hbx : w.heap[b]? = some (.cells (acells f pl0 0) 29 (0, 0))) (hlim : RLim st) (hk : f.k = 11) :
    Calls Tryd.prog 50 #[.pointer (some ⟨pr, 0, none⟩), .pointer (some ⟨b, 0, none⟩), .bool true] w fun e w' => e = .returned (.bool (rdPas (rCount st 16).1.toNat (rCount st 16).2).1.2) ∧ ∃ V PL, AP w w' lo pr b (rdPas (rCount st 16).1.toNat (rCount st 16).2).2 f V PL ∧ (rdPas (rCount st 16).1.toNat (rCount st 16).2).1.1 = PL.map (fun x => (x.1, 0)) := by
  obtain ⟨k, x, s, t, path, data, fl, ve, wa, so, la, ti, fr, ms⟩ := f
  simp only [bareAO, Fa.mk.injEq, true_and] at hz
  obtain ⟨rfl, rfl, rfl, rfl, rfl, rfl, rfl, rfl, rfl, rfl⟩ := hz
  simp only at hk
  subst hk
  have KP := fun W => kp_false (k := 11) W (by decide) (by decide)
  have KD := fun W => kd_false (k := 11) W (by decide) (by decide)
  have KV := fun W => kv_false (k := 11) W (by decide) (by decide)
  have KW := fun W => kw_false (k := 11) W (by decide) (by decide)
  have KL := fun W => kl_false (k := 11) W (by decide) (by decide)
  have T0 := Lib.hid (AR.start ha hbx h1 h2)
  have hbw := Lib.lt_of_heap hbx
  have d1 := T0.out.cell 0 _ rfl
  obtain ⟨d1, -⟩ := d1
  have hrc := rCount_range st 16 (by omega)
  have hlim2 : RLim (rCount st 16).2 := rCount_lim hlim
  have hc1 := fun W (r : Rdr W lo pr st) => rCount_calls lo pr st 16 W r
  obtain ⟨ni, s2, g1⟩ : ∃ x t, rCount st 16 = (x, t) := ⟨_, _, rfl⟩
  rw [g1] at hrc hlim2 hc1 ⊢
  simp only at hrc hlim2
  obtain ⟨n, rfl⟩ := Int.eq_ofNat_of_zero_le hrc.1
  have hn5 : n ≤ 16 := by omega
  simp only [Int.toNat_natCast]
  have HC1 := Lib.hid hc1
  have HLIM2 := Lib.hid hlim2
  have HB := Lib.hid hbw
  simp only [acells, pl0] at T0 d1
  clear ha hbx hlim g1 hrc hc1 hlim2
  obtain ⟨i0, hi0, hz0, hz1, hz2⟩ := info_parts info_ask
  go_enter Tryd.func50, Tryd.ntmps50
  go_wp2_with (first | ((with_reducible refine (KP _).mono ?_); rintro e w' ⟨rfl, rfl⟩) | ((with_reducible refine (KD _).mono ?_); rintro e w' ⟨rfl, rfl⟩) | ((with_reducible refine (KV _).mono ?_); rintro e w' ⟨rfl, rfl⟩) | ((with_reducible refine (KW _).mono ?_); rintro e w' ⟨rfl, rfl⟩) | ((with_reducible refine (KL _).mono ?_); rintro e w' ⟨rfl, rfl⟩) | fail)
  refine (HC1.out _ T0.out.a).mono ?_
  rintro e v2 ⟨rfl, a2, f2, -⟩
  have T2 := Lib.hid (T0.out.read a2 f2)
  clear a2 f2 T0
  go_wp2
  clear d1 KP KD KV KW KL
  go_loopw [8, 130] (fun ok i W => ∃ (k : Nat) (A : Option Addr) (cA : Nat) (PL : List (Fa × Pl)), k ≤ n ∧ i = .int .i64 (k : Int) ∧ PL.length = k ∧ ok = .bool (rdPas k s2).1.2 ∧ AP w W lo pr b (rdPas k s2).2 ⟨11, x, s, t, [], [], 0, 0, false, 0, 0, 0, 0, []⟩ (.slice A k cA) PL ∧ (rdPas k s2).1.1 = PL.map (fun x => (x.1, 0)) ∧ RLim (rdPas k s2).2) (fun _ i _ => n - (intOf i).toNat)
  case atStart => exact ⟨0, none, 0, [], Nat.zero_le _, rfl, rfl, rfl, ⟨T2.out, World.ownsRow_nil _ _ _ _, fun x hx => absurd hx (by simp), HB.out⟩, rfl, HLIM2.out⟩
  case round =>
    obtain ⟨k, A, cA, PL, hk, rfl, hpl, rfl, ht, hml, hlm⟩ := hrel
    have T := Lib.hid ht
    have HPL := Lib.hid hpl
    clear ht hpl T2
    by_cases hlt : k < n
    · have hki : (k : Int) < (n : Int) := by omega
      have hstep : rdPas (k + 1) s2 = (((rdPas k s2).1.1 ++ [((rdPa (rdPas k s2).2).1.1, 0)], (rdPa (rdPas k s2).2).1.2 && (rdPas k s2).1.2), (rdPa (rdPas k s2).2).2) := rfl
      generalize (rdPas k s2).1.1 = ml at hml hstep
      generalize (rdPas k s2).1.2 = ok at T hstep ⊢
      generalize (rdPas k s2).2 = st1 at T hlm hstep
      have HML := Lib.hid hml
      have hbc := rByte_calls lo pr st1 wr T.out.r.a
      have hlm3 : RLim (rByte st1).2 := rByte_lim hlm
      have hrp : rdPa st1 = rdFa (bareA (rByte st1).1.toNat) (rByte st1).2 := rfl
      obtain ⟨kb, s3, g3⟩ : ∃ x t, rByte st1 = (x, t) := ⟨_, _, rfl⟩
      rw [g3] at hbc hlm3 hrp
      simp only at hlm3 hrp
      have HLM3 := Lib.hid hlm3
      have HBC := Lib.hid hbc
      clear hbc g3 hlm3 hml hlm
      go_wp2_with (fail)
      refine HBC.out.mono ?_
      rintro e w3 ⟨rfl, a3, f3, -⟩
      have T3 := Lib.hid (T.out.read a3 f3)
      clear a3 f3 HBC T
      go_wp2_with (fail)
      have HRD := Lib.hid (ardFlat_calls (bareA kb.toNat) false lo pr w3.heap.size s3 (w3.alloc (.cells (acells (bareA kb.toNat) pl0 0) 29)) (bareA_ok (u8_range kb)).1 rfl (T3.out.r.a.fr ((Fr.refl NoB w3).alloc _) (fun _ _ _ x => x) h1) h1 T3.out.r.a.lt (heap_alloc_new w3 _) HLM3.out (fun _ => rfl))
      have hlm4 : RLim (rdFa (bareA kb.toNat) s3).2 := rdFa_lim HLM3.out
      obtain ⟨⟨f', o2⟩, s4, g4⟩ : ∃ x t, rdFa (bareA kb.toNat) s3 = (x, t) := ⟨_, _, rfl⟩
      rw [g4] at HRD hlm4 hrp
      rw [hrp] at hstep
      simp only at hlm4 hstep
      have HLM4 := Lib.hid hlm4
      clear hlm4 g4 hrp
      refine HRD.out.mono ?_
      rintro e w5 ⟨rfl, pl, hg⟩
      have HG := Lib.hid hg
      have ftot := ((Fr.refl (OneB pr) w3).alloc (.cells (acells (bareA kb.toNat) pl0 0) 29)).trans hg.r.fr (fun j hj hx => by
        rcases hx with hx | hx
        · exact hx
        · omega)
      have T5 := Lib.hid (T3.out.read hg.r.a ftot)
      have hlo : w3.heap.size + 1 ≤ w5.heap.size := by have := hg.r.fr.size; simpa using this
      have HPA : Hid (PartAtA w w5 (.slice A k cA) (f', pl)) := by
        refine ⟨(w3.alloc (.cells (acells (bareA kb.toNat) pl0 0) 29)).heap.size, w5.heap.size, Nat.le_trans T3.out.r.fr.size (by simp), Nat.le_refl _, fun g hg2 h3 => ?_, hg.d, fun g hg2 => (hg.d.lt g hg2).2, hg.m, hg.p.1, hg.p.2⟩
        have h4 := (T3.out.own.lt g hg2).2
        have h5 := h3.1
        simp at h5
        omega
      have HBX := Lib.hid hg.r.bx
      have HBC3 := Lib.hid (Lib.lt_of_heap T3.out.r.bx)
      have HVC := Lib.hid (fun (g : Nat) (hg2 : (Value.slice A k cA).ownBlock = some g) => Nat.ne_of_lt (T3.out.own.lt g hg2).2)
      clear hg ftot HG HRD T3
      obtain ⟨r, hr⟩ : ∃ r, (o2 && ok) = r := ⟨_, rfl⟩
      rw [hr] at hstep
      have HSTEP := Lib.hid hstep
      have hcase : (o2 = false ∧ r = false) ∨ (o2 = true ∧ r = ok) := by
        cases o2
        · exact .inl ⟨rfl, hr.symm⟩
        · exact .inr ⟨rfl, by rw [← hr]; rfl⟩
      clear hstep hr h1 h2 HLM3 HC1 HLIM2
      have HSZ5 := Lib.hid hlo
      clear hlo
      have HCB : Hid (b < w3.heap.size) := HBC3.out
      obtain ⟨C, hC⟩ : ∃ C, w3.heap.size = C := ⟨_, rfl⟩
      rw [hC] at HBX HSZ5 HVC HCB ⊢
      clear hC
      rcases hcase with ⟨rfl, rfl⟩ | ⟨rfl, rfl⟩
      all_goals
        go_wp2
        go_region
        · have F6 := Lib.hid (((Fr.refl NoB w5).alloc (.cells #[.bool false] 4)).drew)
          generalize (w5.alloc (.cells #[.bool false] 4)).drew = w6 at F6 ⊢
          have T6 := Lib.hid (T5.out.keep F6.out)
          have HB6 := Lib.hid (F6.out.at_ HBX.out (fun x => x))
          have HP6 := Lib.hid (HPA.out.keep F6.out (fun _ h => h.elim) (fun g h => .inl h))
          have HLC : Hid (C < w6.heap.size) := Nat.lt_of_lt_of_le HSZ5.out F6.out.size
          have HLCB := HCB
          clear T5 HBX HPA F6 HSZ5
          have y14 := (cells_of T6.out.r.bx 14).1
          have n14 := (cells_of T6.out.r.bx 14).2
          simp only [acells, List.setIfInBounds_toArray, List.set_cons_zero, List.set_cons_succ, List.getElem?_toArray, List.getElem?_cons_zero, List.getElem?_cons_succ] at y14
          have HOWN := Lib.hid (HPL.out ▸ T6.out.own : w6.ownsRow w.heap.size 29 15 (.slice A k cA) k (av PL))
          have HBB : Hid (w.heap.size ≤ w6.heap.size) := T6.out.r.fr.size
          have HNB := Lib.hid (fun (g : Nat) (hg : (Value.slice A k cA).ownBlock = some g) => Nat.ne_of_gt (Nat.lt_of_lt_of_le HB.out (HOWN.out.lt g hg).1))
          have hk5 : k ≤ 16 := by omega
          obtain ⟨kk, x1, s1, t1, path1, data1, fl1, ve1, wa1, so1, la1, ti1, fr1, ms1⟩ := f'
          obtain ⟨A1, ca, B1, cb, P1, cp⟩ := pl
          simp only [acells] at HB6
          go_wp2_with (first
            | (at_builtin; go_loud (refine wpList_append_lies _ rfl _ _ 27 rfl w.heap.size 29 i0 (.agg (acells (bareA 0) pl0 0)) 15 168 Tryd.underlying27 hi0 hz0 hz1 hz2 rfl (by decide) (.slice A k cA) k (av PL) rfl (HOWN.out.alloc _) _ 1 _ (acells (bareA 0) pl0 0).toList rfl rfl (World.news_of_block (heap_alloc_new w6 _)) (acells_one1 _ _ _) (by decide) (by unfold maxLen; omega) (by omega) (Nat.le_trans HBB.out (by simp)) (w6.heap.size + 1) (by simp) ?_))
            | fail)
          have cc0 := (cells_of HB6.out 0).1
          have cc1 := (cells_of HB6.out 1).1
          have cc2 := (cells_of HB6.out 2).1
          have cc3 := (cells_of HB6.out 3).1
          have cc4 := (cells_of HB6.out 4).1
          have cc5 := (cells_of HB6.out 5).1
          have cc6 := (cells_of HB6.out 6).1
          have cc7 := (cells_of HB6.out 7).1
          have cc8 := (cells_of HB6.out 8).1
          have cc9 := (cells_of HB6.out 9).1
          have cc10 := (cells_of HB6.out 10).1
          have cc11 := (cells_of HB6.out 11).1
          have cc12 := (cells_of HB6.out 12).1
          have cc13 := (cells_of HB6.out 13).1
          have cc14 := (cells_of HB6.out 14).1
          simp only [List.getElem?_toArray, List.getElem?_cons_zero, List.getElem?_cons_succ] at cc0 cc1 cc2 cc3 cc4 cc5 cc6 cc7 cc8 cc9 cc10 cc11 cc12 cc13 cc14
          have y14b : ∀ o, (w6.alloc o).cell? ⟨b, 14, none⟩ = some (.slice A k cA) := fun o => (((Fr.refl NoB w6).alloc o).cell (p := ⟨b, 14, none⟩) (World.block_lt_of_cell? _ _ y14) (fun x => x)).trans y14
          go_region_law ((refine step_append_lies _ (by rfl) _ _ 27 (by rfl) w.heap.size 29 i0 (.agg (acells (bareA 0) pl0 0)) 15 168 Tryd.underlying27 hi0 hz0 hz1 hz2 (by rfl) (by decide) (.slice A k cA) k (av PL) (by rfl) ((HOWN.out.alloc _).drew) _ 1 _ (acells ⟨kk, x1, s1, t1, path1, data1, fl1, ve1, wa1, so1, la1, ti1, fr1, ms1⟩ ⟨A1, ca, B1, cb, P1, cp⟩ 0).toList (by rfl) (by rfl) (World.news_of_block (heap_alloc_new w6 _)) (acells_one1 _ _ _) (by decide) (by unfold maxLen; omega) (by omega) (Nat.le_trans HBB.out (by simp)) (w6.heap.size + 1) (by simp) ?_; intro g cap w7 hown hgrow hat hlt; have hb7 := (hgrow.block b (by have := Lib.lt_of_heap T6.out.r.bx; simp; omega) (fun e => HNB.out b e.symm rfl)).trans ((Below.heap_alloc w6 _ b (Lib.lt_of_heap T6.out.r.bx)).trans T6.out.r.bx); have y7 := (cells_of hb7 14).1; have n7 := (cells_of hb7 14).2; clear hb7; simp only [acells, List.setIfInBounds_toArray, List.set_cons_zero, List.set_cons_succ, List.getElem?_toArray, List.getElem?_cons_zero, List.getElem?_cons_succ] at y7))
          all_goals
            have HFIN := Lib.hid (AP.pushB (x := (⟨kk, x1, s1, t1, path1, data1, fl1, ve1, wa1, so1, la1, ti1, fr1, ms1⟩, ⟨A1, ca, B1, cb, P1, cp⟩)) HPL.out (T6.out.keep ((Fr.refl NoB w6).drew)) (HP6.out.keep ((Fr.refl NoB w6).drew) (fun _ h => h.elim) (fun g h => .inl h)) (by rw [av_one]; exact hown) hgrow hat)
            clear hown hgrow hat hlt y14 y14b n14 y7 n7 T6 HP6 HB6 hz0 hz1 hz2 hi0 cc0 cc1 cc2 cc3 cc4 cc5 cc6 cc7 cc8 cc9 cc10 cc11 cc12 cc13 cc14
            go_wp2
            go_roundw
            case rel => exact ⟨k + 1, some ⟨g, 0, none⟩, cap, PL ++ [(⟨kk, x1, s1, t1, path1, data1, fl1, ve1, wa1, so1, la1, ti1, fr1, ms1⟩, ⟨A1, ca, B1, cb, P1, cp⟩)], by omega, by go_num, by rw [List.length_append, HPL.out]; rfl, by rw [HSTEP.out], by rw [HSTEP.out]; exact HFIN.out, by rw [HSTEP.out, HML.out, List.map_append]; rfl, by rw [HSTEP.out]; exact HLM4.out⟩
            case measure => simp [intOf]; omega
        · have F6 := Lib.hid (((Fr.refl NoB w5).alloc (.cells #[.bool true] 4)).drew)
          generalize (w5.alloc (.cells #[.bool true] 4)).drew = w6 at F6 ⊢
          have T6 := Lib.hid (T5.out.keep F6.out)
          have HB6 := Lib.hid (F6.out.at_ HBX.out (fun x => x))
          have HP6 := Lib.hid (HPA.out.keep F6.out (fun _ h => h.elim) (fun g h => .inl h))
          have HLC : Hid (C < w6.heap.size) := Nat.lt_of_lt_of_le HSZ5.out F6.out.size
          have HLCB := HCB
          clear T5 HBX HPA F6 HSZ5
          have y14 := (cells_of T6.out.r.bx 14).1
          have n14 := (cells_of T6.out.r.bx 14).2
          simp only [acells, List.setIfInBounds_toArray, List.set_cons_zero, List.set_cons_succ, List.getElem?_toArray, List.getElem?_cons_zero, List.getElem?_cons_succ] at y14
          have HOWN := Lib.hid (HPL.out ▸ T6.out.own : w6.ownsRow w.heap.size 29 15 (.slice A k cA) k (av PL))
          have HBB : Hid (w.heap.size ≤ w6.heap.size) := T6.out.r.fr.size
          have HNB := Lib.hid (fun (g : Nat) (hg : (Value.slice A k cA).ownBlock = some g) => Nat.ne_of_gt (Nat.lt_of_lt_of_le HB.out (HOWN.out.lt g hg).1))
          have hk5 : k ≤ 16 := by omega
          obtain ⟨kk, x1, s1, t1, path1, data1, fl1, ve1, wa1, so1, la1, ti1, fr1, ms1⟩ := f'
          obtain ⟨A1, ca, B1, cb, P1, cp⟩ := pl
          simp only [acells] at HB6
          go_wp2_with (first
            | (at_builtin; go_loud (refine wpList_append_lies _ rfl _ _ 27 rfl w.heap.size 29 i0 (.agg (acells (bareA 0) pl0 0)) 15 168 Tryd.underlying27 hi0 hz0 hz1 hz2 rfl (by decide) (.slice A k cA) k (av PL) rfl (HOWN.out.alloc _) _ 1 _ (acells (bareA 0) pl0 0).toList rfl rfl (World.news_of_block (heap_alloc_new w6 _)) (acells_one1 _ _ _) (by decide) (by unfold maxLen; omega) (by omega) (Nat.le_trans HBB.out (by simp)) (w6.heap.size + 1) (by simp) ?_))
            | fail)
          intro g cap w7 hown hgrow hat hlt
          have HB7 := Lib.hid ((hgrow.block b (by have := Lib.lt_of_heap T6.out.r.bx; simp; omega) (fun e => HNB.out b e.symm rfl)).trans ((Below.heap_alloc w6 _ b (Lib.lt_of_heap T6.out.r.bx)).trans T6.out.r.bx))
          have HC7 := Lib.hid ((hgrow.block C (by have := HLC.out; simp; omega) (fun e => HVC.out C e.symm rfl)).trans ((Below.heap_alloc w6 _ C HLC.out).trans HB6.out))
          have y7 := (cells_of HB7.out 14).1
          have n7 := (cells_of HB7.out 14).2
          simp only [acells, List.setIfInBounds_toArray, List.set_cons_zero, List.set_cons_succ, List.getElem?_toArray, List.getElem?_cons_zero, List.getElem?_cons_succ] at y7
          have HGB : Hid (g ≠ b) := by
            have h8 := hown.lt g rfl
            have h9 := HB.out
            show _ ≠ _
            omega
          have HO8 := Lib.hid (own_by hown ((Fr.refl (OneB b) w7).setCell (p := ⟨b, 14, none⟩) (fun _ => rfl) (.slice (some ⟨g, 0, none⟩) (k + 1) cap)) (fun g2 hg2 => by
            have h8 : g = g2 := by simpa [Value.ownBlock] using hg2
            subst h8
            exact HGB.out))
          have HC8 := Lib.hid ((Below.heap_setCell w7 ⟨b, 14, none⟩ (.slice (some ⟨g, 0, none⟩) (k + 1) cap) C (by have := HLCB.out; simp only; omega)).trans HC7.out)
          have HTH : Hid ((w7.setCell ⟨b, 14, none⟩ (.slice (some ⟨g, 0, none⟩) (k + 1) cap)).there g (k * 15) 15) := fun j hj => by
            refine ⟨?_, HO8.out.frozenAt _⟩
            rw [HO8.out.cellAt _ (by omega), List.getElem?_eq_getElem (by rw [List.length_append, av_length, HPL.out]; simp [acells, bareA, pl0]; omega)]
            rfl
          have HFIN := Lib.hid (AP.pushA (x := (⟨kk, x1, s1, t1, path1, data1, fl1, ve1, wa1, so1, la1, ti1, fr1, ms1⟩, ⟨A1, ca, B1, cb, P1, cp⟩)) rfl HPL.out T6.out HP6.out hown hgrow hat)
          have HCAP := Lib.hid (hown.lt g rfl)
          clear hown hgrow hat hlt HB7 HO8 y14 n14 T6 HP6 HB6 hz0 hz1 hz2 hi0
          have c0 := (cells_of HC7.out 0).1
          have c1 := (cells_of HC7.out 1).1
          have c2 := (cells_of HC7.out 2).1
          have c3 := (cells_of HC7.out 3).1
          have c4 := (cells_of HC7.out 4).1
          have c5 := (cells_of HC7.out 5).1
          have c6 := (cells_of HC7.out 6).1
          have c7 := (cells_of HC7.out 7).1
          have c8 := (cells_of HC7.out 8).1
          have c9 := (cells_of HC7.out 9).1
          have c10 := (cells_of HC7.out 10).1
          have c11 := (cells_of HC7.out 11).1
          have c12 := (cells_of HC7.out 12).1
          have c13 := (cells_of HC7.out 13).1
          have c14 := (cells_of HC7.out 14).1
          simp only [List.getElem?_toArray, List.getElem?_cons_zero, List.getElem?_cons_succ] at c0 c1 c2 c3 c4 c5 c6 c7 c8 c9 c10 c11 c12 c13 c14
          have hne1 : ¬ C = b := by have := HLCB.out; omega
          have hne2 : ¬ b = C := by have := HLCB.out; omega
          clear HC7 HC8
          go_wp2_with (first | (with_reducible refine held_store (ty := 29) ?_) | fail)
          unfold Held
          refine wpList_store_mid rfl 29 (.tmp 152) (.tmp 151) rfl g (k * 15) #[.int .u8 kk, .int .i64 x1, .int .i64 s1, .int .i64 t1, .string ⟨path1.toArray⟩, .slice A1 data1.length ca, .int .i64 fl1, .int .i64 ve1, .bool wa1, .int .u8 so1, .int .i64 la1, .int .i64 ti1, .int .i64 fr1, .slice B1 ms1.length cb, .slice P1 0 cp] ?_ ?_ ?_ asize15 ?_ ?_
          · rfl
          · rfl
          · exact HTH.out
          · simp [Value.oneCell']
          simp only [acells] at HFIN
          generalize ((w7.setCell ⟨b, 14, none⟩ (.slice (some ⟨g, 0, none⟩) (k + 1) cap)).setCells g (k * 15) _) = w9 at HFIN ⊢
          go_wp2
          go_roundw
          case rel => exact ⟨k + 1, some ⟨g, 0, none⟩, cap, PL ++ [(⟨kk, x1, s1, t1, path1, data1, fl1, ve1, wa1, so1, la1, ti1, fr1, ms1⟩, ⟨A1, ca, B1, cb, P1, cp⟩)], by omega, by go_num, by rw [List.length_append, HPL.out]; rfl, by rw [HSTEP.out], by rw [HSTEP.out]; exact HFIN.out, by rw [HSTEP.out, HML.out, List.map_append]; rfl, by rw [HSTEP.out]; exact HLM4.out⟩
          case measure => simp [intOf]; omega
    · obtain rfl : k = n := by omega
      go_wp2
      go_ret
      exact ⟨rfl, .slice A k cA, PL, T.out, hml⟩
end Go.Proofs.YtlckgkpgllhpbaaDoor
