/-
  Enn: EnsembleBytes's walk.
-/
import Derived.Test.YtbgpgaekckfjlaaDoorEnk
import Derived.Test.YtbgpgaekckfjlaaDoorEnm
import Derived.Test.YtbgpgaekckfjlaaDoorRgp
import Derived.Test.YtbgpgaekckfjlaaDoorRgt
import Derived.Test.YtbgpgaekckfjlaaDoorLnb
namespace Go.Proofs.YtbgpgaekckfjlaaDoor
open Go.RowKit

/-- What Put answers: bytes and an error. -/
def putE (v : Int) (ms : List Mem) : List UInt8 × Int := if chk v ms = 0 then (ensB v ms, 0) else ([], chk v ms)
theorem putE_len (v : Int) (ms : List Mem) : (putE v ms).1.length ≤ 400 := by
  unfold putE
  split
  · rename_i h
    have h7 := (chk_len h).1
    have h1 := memsB_len ms
    have h2 := intB_len v
    have h3 := intB_len (ms.length : Int)
    simp only [ensB, List.length_append]
    omega
  · simp
theorem putE_ok {v : Int} {ms : List Mem} (h : (putE v ms).2 = 0) : getE (putE v ms).1 = some (v, ms) := by
  unfold putE at h ⊢
  by_cases hc : chk v ms = 0
  · rw [if_pos hc]; exact get_front hc
  · rw [if_neg hc] at h; exact absurd h hc
theorem put_calls (v : Int) (A : Option Addr) (ms : List Mem) (c lo hi : Nat) (w : World) (h : RdM w lo hi A ms) (hh : hi ≤ w.heap.size) (hl : ms.length ≤ 140737488355328) :
    Calls Tryd.prog 18 #[.agg #[.int .i64 v, .slice A ms.length c]] w fun e w' => ∃ A' c', e = .returned (.tuple #[.slice A' (putE v ms).1.length c', .int .i64 (putE v ms).2]) ∧ Rd w' w.heap.size w'.heap.size A' (putE v ms).1 ∧ Fr NoB w w' := by
  unfold putE
  by_cases hc : chk v ms = 0
  · rw [if_pos hc]
    refine (put_config v A ms c lo hi w h hh hl hc).mono ?_
    rintro e w' ⟨A', c', rfl, -, -, h1, h2⟩
    exact ⟨A', c', rfl, h1, h2⟩
  · rw [if_neg hc]
    refine (put_bad v A ms c lo hi w h hh hl hc).mono ?_
    rintro e w' ⟨rfl, h2⟩
    exact ⟨none, 0, rfl, Rd.nil _ _ _ _, h2⟩
theorem rput_calls (v : Int) (A : Option Addr) (ms : List Mem) (c lo hi : Nat) (w : World) (h : RdM w lo hi A ms) (hh : hi ≤ w.heap.size) (hl : ms.length ≤ 140737488355328) :
    Calls Tryd.prog 19 #[.agg #[.int .i64 v, .slice A ms.length c]] w fun e w' => ∃ A' c', e = .returned (.tuple #[.slice A' (putE v ms).1.length c', .int .i64 (putE v ms).2]) ∧ Rd w' w.heap.size w'.heap.size A' (putE v ms).1 ∧ Fr NoB w w' := by
  unfold putE
  by_cases hc : chk v ms = 0
  · rw [if_pos hc]
    refine (rput_config v A ms c lo hi w h hh hl hc).mono ?_
    rintro e w' ⟨A', c', rfl, -, -, h1, h2⟩
    exact ⟨A', c', rfl, h1, h2⟩
  · rw [if_neg hc]
    refine (rput_bad v A ms c lo hi w h hh hl hc).mono ?_
    rintro e w' ⟨rfl, h2⟩
    exact ⟨none, 0, rfl, Rd.nil _ _ _ _, h2⟩
/-- What Get answers: a version, members and an error. -/
def getV (b : List UInt8) : Int × List Mem × Int := match getE b with
  | some (v, ms) => (v, ms, 0)
  | none => (0, [], 4)
theorem getV_len (b : List UInt8) : (getV b).2.1.length ≤ 7 := by
  unfold getV
  cases hg : getE b with
  | none => simp
  | some x =>
    obtain ⟨v, ms⟩ := x
    exact (chk_len (get_back hg).2).1
theorem getV_of {b : List UInt8} {v : Int} {ms : List Mem} {z : Int} (h : (getE b = some (v, ms) ∧ z = 0) ∨ (getE b = none ∧ v = 0 ∧ ms = [] ∧ z = 4)) : v = (getV b).1 ∧ ms = (getV b).2.1 ∧ z = (getV b).2.2 := by
  unfold getV
  rcases h with ⟨h, rfl⟩ | ⟨h, rfl, rfl, rfl⟩
  · rw [h]; exact ⟨rfl, rfl, rfl⟩
  · rw [h]; exact ⟨rfl, rfl, rfl⟩
theorem getV_some {b : List UInt8} {v : Int} {ms : List Mem} (h : getE b = some (v, ms)) : getV b = (v, ms, 0) := by
  unfold getV
  rw [h]
theorem get_any2 (A : Option Addr) (b : List UInt8) (c lo hi : Nat) (w : World) (h : Rd w lo hi A b) (hh : hi ≤ w.heap.size) (hl : b.length ≤ 140737488355328) :
    Calls Tryd.prog 21 #[.slice A b.length c] w fun e w' => ∃ A' c', e = .returned (.tuple #[.agg #[.int .i64 (getV b).1, .slice A' (getV b).2.1.length c'], .int .i64 (getV b).2.2]) ∧ RdM w' w.heap.size w'.heap.size A' (getV b).2.1 ∧ Fr NoB w w' := by
  refine (get_calls A b c lo hi w h hh hl).mono ?_
  rintro e w' ⟨v, A', ms, c', z, rfl, h1, h2, h3⟩
  obtain ⟨rfl, rfl, rfl⟩ := getV_of h3
  exact ⟨A', c', rfl, h1, h2⟩
theorem rget_any2 (A : Option Addr) (b : List UInt8) (c lo hi : Nat) (w : World) (h : Rd w lo hi A b) (hh : hi ≤ w.heap.size) (hl : b.length ≤ 140737488355328) :
    Calls Tryd.prog 22 #[.slice A b.length c] w fun e w' => ∃ A' c', e = .returned (.tuple #[.agg #[.int .i64 (getV b).1, .slice A' (getV b).2.1.length c'], .int .i64 (getV b).2.2]) ∧ RdM w' w.heap.size w'.heap.size A' (getV b).2.1 ∧ Fr NoB w w' := by
  refine (rget_calls A b c lo hi w h hh hl).mono ?_
  rintro e w' ⟨v, A', ms, c', z, rfl, h1, h2, h3⟩
  obtain ⟨rfl, rfl, rfl⟩ := getV_of h3
  exact ⟨A', c', rfl, h1, h2⟩
theorem Rd.pre {w : World} {lo hi : Nat} {A : Option Addr} {a b : List UInt8} (h : Rd w lo hi A (a ++ b)) : Rd w lo hi A a := by
  have := h.take (n := a.length)
  rwa [List.take_left' rfl] at this

theorem Rd.step {w w' : World} {A : Option Addr} {l : List UInt8} (h : Rd w 0 w.heap.size A l) (f : Fr NoB w w') : Rd w' 0 w'.heap.size A l := (h.fr f (Nat.le_refl _) (fun _ _ _ x => x)).wide (Nat.le_refl _) f.size
theorem RdM.step {w w' : World} {A : Option Addr} {l : List Mem} (h : RdM w 0 w.heap.size A l) (f : Fr NoB w w') : RdM w' 0 w'.heap.size A l := (h.fr f (Nat.le_refl _) (fun _ _ _ x => x)).wide (Nat.le_refl _) f.size

set_option maxRecDepth 8000 in
set_option maxHeartbeats 6400000 in
theorem bytes_walk (v : Int) (A D : Option Addr) (ms : List Mem) (b : List UInt8) (c d : Nat) (w : World) (h : RdM w 0 w.heap.size A ms) (hl : ms.length ≤ 140737488355328) (hb : Rd w 0 w.heap.size D b) (hlb : b.length ≤ 140737488351232) :
    Calls Tryd.prog 4 #[.agg #[.int .i64 v, .slice A ms.length c], .slice D b.length d] w fun e w' => e = .returned (.bool true) ∧ Fr NoB w w' := by
  have hP := fun W (f : Fr NoB w W) => put_calls v A ms c 0 w.heap.size W (h.fr f (Nat.le_refl _) (fun _ _ _ x => x)) f.size hl
  have hQ := fun W (f : Fr NoB w W) => rput_calls v A ms c 0 w.heap.size W (h.fr f (Nat.le_refl _) (fun _ _ _ x => x)) f.size hl
  have hok : (putE v ms).2 = 0 → getV (putE v ms).1 = (v, ms, 0) := fun hx => getV_some (putE_ok hx)
  have hzl := putE_len v ms
  generalize (putE v ms).1 = Z at hP hQ hok hzl
  generalize (putE v ms).2 = z at hP hQ hok
  have hG := fun W A' c' (r : Rd W 0 W.heap.size A' b) => get_any2 A' b c' 0 W.heap.size W r (Nat.le_refl _) (by omega)
  have hR := fun W A' c' (r : Rd W 0 W.heap.size A' b) => rget_any2 A' b c' 0 W.heap.size W r (Nat.le_refl _) (by omega)
  have hZ := fun W A' c' (r : Rd W 0 W.heap.size A' Z) => get_any2 A' Z c' 0 W.heap.size W r (Nat.le_refl _) (by omega)
  have hvl := getV_len b
  generalize getV b = V at hG hR hvl
  generalize getV Z = V3 at hZ hok
  obtain ⟨v1, m1, z1⟩ := V
  obtain ⟨v3, m3, z3⟩ := V3
  simp only at hG hR hvl hZ
  have HP := Lib.hid hP
  have HQ := Lib.hid hQ
  have HOK := Lib.hid hok
  have HZL := Lib.hid hzl
  have HM := Lib.hid h
  have HB := Lib.hid hb
  have HLB := Lib.hid (fun W (f : Fr NoB w W) => lentb_calls D b d 0 w.heap.size W (hb.fr f (Nat.le_refl _) (fun _ _ _ x => x)) f.size hlb)
  have HG := Lib.hid hG
  have HR := Lib.hid hR
  have HZ := Lib.hid hZ
  have HVL := Lib.hid hvl
  clear hP hQ hok hzl h hb hvl hG hR hZ
  go_enter Tryd.func4, Tryd.ntmps4
  go_wp2_with (fail)
  have F0 := Lib.hid ((Fr.refl NoB w).alloc (.cells #[.int .i64 v, .slice A ms.length c] 25))
  have HBX := Lib.hid (heap_alloc_new w (.cells #[.int .i64 v, .slice A ms.length c] 25))
  generalize w.alloc (.cells #[.int .i64 v, .slice A ms.length c] 25) = wb at F0 HBX ⊢
  refine (awake_calls _).mono ?_
  rintro e w1 ⟨rfl, f1⟩
  have F1 := Lib.hid (F0.out.then f1)
  have HB1 := Lib.hid (f1.at_ HBX.out (fun x => x))
  clear f1 F0 HBX
  have hq0 := (cfg_cells HB1.out).1
  have hq1 := (cfg_cells HB1.out).2
  go_wp2_with (fail)
  clear hq0 hq1
  refine (HP.out _ F1.out).mono ?_
  rintro e w2 ⟨P, pc, rfl, r2, f2⟩
  have P2 := Lib.hid (r2.wide (Nat.zero_le _) (Nat.le_refl _))
  have F2 := Lib.hid (F1.out.then f2)
  have HB2 := Lib.hid (f2.at_ HB1.out (fun x => x))
  clear r2 f2 HB1 HP F1
  have hq0 := (cfg_cells HB2.out).1
  have hq1 := (cfg_cells HB2.out).2
  go_wp2_with (fail)
  clear hq0 hq1
  refine (HQ.out _ F2.out).mono ?_
  rintro e w3 ⟨Q, qc, rfl, r3, f3⟩
  have Q3 := Lib.hid (r3.wide (Nat.zero_le _) (Nat.le_refl _))
  have P3 := Lib.hid (P2.out.step f3)
  have F3 := Lib.hid (F2.out.then f3)
  have HB3 := Lib.hid (f3.at_ HB2.out (fun x => x))
  clear r3 f3 HQ P2 F2 HB2
  go_wp2_with (fail)
  refine (HLB.out _ F3.out).mono ?_
  rintro e w4 ⟨I, ic, rfl, hic, -, r4, f4⟩
  have I4 := Lib.hid (r4.wide (Nat.zero_le _) (Nat.le_refl _))
  have P4 := Lib.hid (P3.out.step f4)
  have Q4 := Lib.hid (Q3.out.step f4)
  have F4 := Lib.hid (F3.out.then f4)
  have HB4 := Lib.hid (f4.at_ HB3.out (fun x => x))
  clear r4 f4 HLB P3 Q3 F3 HB3
  go_wp2_with (fail)
  refine (HG.out _ I ic I4.out.pre).mono ?_
  rintro e w5 ⟨X, xc, rfl, r5, f5⟩
  have f5a := f5.alloc (.cells #[.int .i64 v1, .slice X m1.length xc] 25)
  have X5 := Lib.hid ((r5.wide (Nat.zero_le _) (Nat.le_refl _)).step ((Fr.refl NoB w5).alloc (.cells #[.int .i64 v1, .slice X m1.length xc] 25)))
  have BX5 := Lib.hid (heap_alloc_new w5 (.cells #[.int .i64 v1, .slice X m1.length xc] 25))
  have I5 := Lib.hid (I4.out.step f5a)
  have P5 := Lib.hid (P4.out.step f5a)
  have Q5 := Lib.hid (Q4.out.step f5a)
  have F5 := Lib.hid (F4.out.then f5a)
  have HB5 := Lib.hid (f5a.at_ HB4.out (fun x => x))
  clear r5 f5 f5a HG P4 Q4 F4 HB4 I4
  go_wp2_with (fail)
  generalize w5.alloc (.cells #[.int .i64 v1, .slice X m1.length xc] 25) = w6 at X5 BX5 I5 P5 Q5 F5 HB5 ⊢
  generalize w5.heap.size = NX at BX5 ⊢
  refine (HR.out _ D d (HB.out.step F5.out)).mono ?_
  rintro e w7 ⟨Y, yc, rfl, r7, f7⟩
  have f7a := f7.alloc (.cells #[.int .i64 v1, .slice Y m1.length yc] 25)
  have Y7 := Lib.hid ((r7.wide (Nat.zero_le _) (Nat.le_refl _)).step ((Fr.refl NoB w7).alloc (.cells #[.int .i64 v1, .slice Y m1.length yc] 25)))
  have BY7 := Lib.hid (heap_alloc_new w7 (.cells #[.int .i64 v1, .slice Y m1.length yc] 25))
  have X7 := Lib.hid (X5.out.step f7a)
  have BX7 := Lib.hid (f7a.at_ BX5.out (fun x => x))
  have I7 := Lib.hid (I5.out.step f7a)
  have P7 := Lib.hid (P5.out.step f7a)
  have Q7 := Lib.hid (Q5.out.step f7a)
  have F7 := Lib.hid (F5.out.then f7a)
  have HB7 := Lib.hid (f7a.at_ HB5.out (fun x => x))
  clear r7 f7 f7a HR P5 Q5 F5 HB5 I5 X5 BX5
  go_wp2_with (fail)
  generalize w7.alloc (.cells #[.int .i64 v1, .slice Y m1.length yc] 25) = w8 at Y7 BY7 X7 BX7 I7 P7 Q7 F7 HB7 ⊢
  generalize w7.heap.size = NY at BY7 ⊢
  refine (HZ.out _ P pc P7.out).mono ?_
  rintro e w9 ⟨T, tc, rfl, r9, f9⟩
  have f9a := f9.alloc (.cells #[.int .i64 v3, .slice T m3.length tc] 25)
  have T9 := Lib.hid ((r9.wide (Nat.zero_le _) (Nat.le_refl _)).step ((Fr.refl NoB w9).alloc (.cells #[.int .i64 v3, .slice T m3.length tc] 25)))
  have BT9 := Lib.hid (heap_alloc_new w9 (.cells #[.int .i64 v3, .slice T m3.length tc] 25))
  have Y9 := Lib.hid (Y7.out.step f9a)
  have BY9 := Lib.hid (f9a.at_ BY7.out (fun x => x))
  have X9 := Lib.hid (X7.out.step f9a)
  have BX9 := Lib.hid (f9a.at_ BX7.out (fun x => x))
  have I9 := Lib.hid (I7.out.step f9a)
  have P9 := Lib.hid (P7.out.step f9a)
  have Q9 := Lib.hid (Q7.out.step f9a)
  have F9 := Lib.hid (F7.out.then f9a)
  have HB9 := Lib.hid (f9a.at_ HB7.out (fun x => x))
  clear r9 f9 f9a HZ P7 Q7 F7 HB7 I7 X7 BX7 Y7 BY7
  have hz1 : (z == z) = true := by simp
  go_wp2_with (fail)
  generalize w9.alloc (.cells #[.int .i64 v3, .slice T m3.length tc] 25) = wa at T9 BT9 Y9 BY9 X9 BX9 I9 P9 Q9 F9 HB9 ⊢
  generalize w9.heap.size = NT at BT9 ⊢
  have hsm := same_calls P Q Z Z pc qc 0 wa.heap.size 0 wa.heap.size wa P9.out Q9.out (by have := HZL.out; omega) (by have := HZL.out; omega)
  rw [show (Z == Z) = true by simp] at hsm
  refine hsm.mono ?_
  rintro e wc ⟨rfl, nc, rfl⟩
  have K1 := Lib.hid ((Fr.refl NoB wa).drewN nc)
  have x0 := (cfg_cells (K1.out.at_ BX9.out (fun x => x))).1
  have x1 := (cfg_cells (K1.out.at_ BX9.out (fun x => x))).2
  have y0 := (cfg_cells (K1.out.at_ BY9.out (fun x => x))).1
  have y1 := (cfg_cells (K1.out.at_ BY9.out (fun x => x))).2
  clear hsm
  have hz2 : (z1 == z1) = true := by simp
  generalize wa.drewN nc = wc at K1 x0 x1 y0 y1 ⊢
  go_wp2_with (fail)
  clear x0 x1 y0 y1
  refine (sameE_calls v1 X Y m1 xc yc 0 wc.heap.size 0 wc.heap.size wc (X9.out.step K1.out) (Nat.le_refl _) (Y9.out.step K1.out) (Nat.le_refl _) (by have := HVL.out; omega)).mono ?_
  rintro e wd ⟨rfl, fd⟩
  have K2 := Lib.hid (K1.out.then fd)
  clear fd K1
  go_wp2_with (fail)
  refine (keptb_calls D I b d ic 0 wd.heap.size 0 wd.heap.size wd (I9.out.step K2.out) (Nat.le_refl _) ((HB.out.step F9.out).step K2.out) (Nat.le_refl _) hlb hic).mono ?_
  rintro e we ⟨rfl, fe⟩
  have K3 := Lib.hid (K2.out.then fe)
  clear fe K2
  by_cases hz : z = 0
  · have h3 := HOK.out hz
    simp only [Prod.mk.injEq] at h3
    obtain ⟨rfl, rfl, rfl⟩ := h3
    subst hz
    have t0 := (cfg_cells (K3.out.at_ BT9.out (fun x => x))).1
    have t1 := (cfg_cells (K3.out.at_ BT9.out (fun x => x))).2
    have b0 := (cfg_cells (K3.out.at_ HB9.out (fun x => x))).1
    have b1 := (cfg_cells (K3.out.at_ HB9.out (fun x => x))).2
    clear hz1 hz2
    go_wp2_with (fail)
    refine (sameE_calls v3 T A m3 tc c 0 we.heap.size 0 we.heap.size we (T9.out.step K3.out) (Nat.le_refl _) ((HM.out.step F9.out).step K3.out) (Nat.le_refl _) hl).mono ?_
    rintro e wf ⟨rfl, ff⟩
    have K4 := Lib.hid (K3.out.then ff)
    clear ff t0 t1 b0 b1
    go_wp2
    go_ret
    exact ⟨rfl, F9.out.then K4.out⟩
  · have hzb : (z != 0) = true := by simp [hz]
    clear hz
    go_wp2
    go_ret
    exact ⟨rfl, F9.out.then K3.out⟩

end Go.Proofs.YtbgpgaekckfjlaaDoor
