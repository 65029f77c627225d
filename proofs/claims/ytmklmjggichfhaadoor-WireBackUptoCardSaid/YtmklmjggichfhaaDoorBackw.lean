/-
  Backw: WireBack's walk.
-/
import Derived.Test.YtmklmjggichfhaaDoorBackr
namespace Go.Proofs.YtmklmjggichfhaaDoor
open Go.RowKit

theorem Dth.fr {w W : World} {D : Option Addr} {ts : List Thing} (h : Dth w D ts) (f : Fr NoB w W) : Dth W D ts := fun h0 => by
  obtain ⟨b, o, hD, hb, hp⟩ := h h0
  refine ⟨b, o, hD, Nat.lt_of_lt_of_le hb f.size, fun i x hx => ?_⟩
  obtain ⟨B, c, z1, z2, z3, z4, z5, k0, k1, k2⟩ := hp i x hx
  exact ⟨B, c, z1, z2, z3, z4, (z5.fr f (Nat.le_refl _) (fun _ _ _ x => x)).wide (Nat.le_refl _) f.size, (f.cell (p := ⟨b, o + i * 3, none⟩) hb (fun x => x)).trans k0, (f.cell (p := ⟨b, o + i * 3 + 1, none⟩) hb (fun x => x)).trans k1, (f.cell (p := ⟨b, o + i * 3 + 2, none⟩) hb (fun x => x)).trans k2⟩
theorem RA.start {w2 w3 w4 : World} {p : Nat} {l : List UInt8} (f : Fr NoB w2 w3) (hp : w3.heap.size ≤ p) (a : Rdr w4 w3.heap.size p (some l)) (f2 : Fr NoB w3 w4) (hl : l.length ≤ 140737488355328) : RA w2 w4 w3.heap.size p (some l) :=
  ⟨a, f.then f2, hl, f.size, hp⟩
theorem whole_len (l : List UInt8) : rWhole (some l) = ((l.length : Int) == 0) := by
  cases l with
  | nil => rfl
  | cons x l =>
    have : (((x :: l).length : Int) == 0) = false := by rw [beq_eq_false_iff_ne]; simp; omega
    rw [this]; rfl

set_option maxRecDepth 8000 in
set_option maxHeartbeats 6400000 in
theorem back_small (D A : Option Addr) (ts : List Thing) (l : List UInt8) (d c : Nat) (x : Int) (w : World) (hd : Dth w D ts) (hn : ts.length ≤ 60) (hr : Rd w 0 w.heap.size A l) (hl : l.length ≤ 1048576) :
    Calls Tryd.prog 9 #[.slice D ts.length d, .int .i64 x, .slice A l.length c] w fun e w' => e = .returned (.bool true) ∧ Below w.heap.size w w' := by
  have hnn : ((ts.length : Int) ≤ 60) := by omega
  have hd1 := hd
  have hzl : (catB ts).length ≤ 62915160 := by
    have h := catB_len hd1 60
    rw [List.take_of_length_le (by omega)] at h
    omega
  have hfit := hd1.fits
  have h1 := fun W (f : Fr NoB w W) => written_calls D ts d W (hd1.fr f) (by omega)
  have h2 := fun w2 (f : Fr NoB w w2) W lo p (ra : RA w2 W lo p (some (catB ts))) => read_calls D ts d w2 W lo p _ (hd1.fr f) (by omega) ra
  have h3 := fun w2 (f : Fr NoB w w2) W lo p (ra : RA w2 W lo p (some (catB ts ++ l))) => read_calls D ts d w2 W lo p _ (hd1.fr f) (by omega) ra
  have h4 := fun q (hq : q < (catB ts).length) w2 (f : Fr NoB w w2) W lo p (ra : RA w2 W lo p (some ((catB ts).take q))) => read_calls D ts d w2 W lo p _ (hd1.fr f) (by omega) ra
  have e1 : rdAll ts (some (catB ts)) = (true, some []) := by
    have h := rdAll_front ts hfit []
    rwa [List.append_nil] at h
  have e2 : rdAll ts (some (catB ts ++ l)) = (true, some l) := rdAll_front ts hfit l
  have e3 : ∀ q, q < (catB ts).length → rdAll ts (some ((catB ts).take q)) = (false, none) := fun q hq => rdAll_cut ts hfit q hq
  rw [e1] at h2
  rw [e2] at h3
  have h4b := fun q (hq : q < (catB ts).length) w2 (f : Fr NoB w w2) W lo p (ra : RA w2 W lo p (some ((catB ts).take q))) => (h4 q hq w2 f W lo p ra).mono fun e w' (z : _ ∧ _) => show e = .returned (.bool false) ∧ RA w2 w' lo p none by
    rw [e3 q hq] at z; exact z

  clear h4 e1 e2 e3 hfit
  generalize catB ts = Z at h1 h2 h3 h4b hzl
  have hzl1 : (Z.length : Int) ≤ 62915160 := by omega
  have HZ := Lib.hid hzl
  obtain ⟨J, hJ⟩ : ∃ J, Z ++ l = J := ⟨_, rfl⟩
  rw [hJ] at h3
  have hJl : J.length ≤ 140737488355328 := by rw [← hJ, List.length_append]; omega
  have HJL := Lib.hid hJl
  have HJ := Lib.hid hJ
  have H1 := Lib.hid h1
  have H2 := Lib.hid h2
  have H3 := Lib.hid h3
  have H4 := Lib.hid h4b
  have HR := Lib.hid hr
  have HL := Lib.hid hl
  obtain ⟨i0, hi0, hz0, hz1, hz2⟩ := info_parts info_byte
  clear hd hd1 h1 h2 h3 h4b hzl hJ hJl hr hl
  go_enter Tryd.func9, Tryd.ntmps9
  go_wp2_with (go_at_call 11; refine (awake_calls _).mono ?_; rintro e w1 ⟨rfl, f1⟩; have F1 := Lib.hid f1; clear f1)
  refine (H1.out _ F1.out).mono ?_
  rintro e w2 ⟨A2, c2, rfl, m1, m2, r2, f2⟩
  have R2 := Lib.hid r2
  have F2 := Lib.hid (F1.out.then f2)
  have M1 := Lib.hid m1
  have M2 := Lib.hid m2
  clear r2 f2 m1 m2
  go_wp2_with (go_at_call 12; refine (rNew_calls A2 Z c2 _ _ _ R2.out (by have := HZ.out; omega)).mono ?_; rintro e w3 ⟨p3, rfl, q1, q2, q3, -⟩)
  have T3 := Lib.hid (RA.start (Fr.refl NoB w2) q1 q2 q3 (by have := HZ.out; omega))
  clear q1 q2 q3
  refine (H2.out _ F2.out _ _ _ T3.out).mono ?_
  rintro e w4 ⟨rfl, t4⟩
  have T4 := Lib.hid t4
  have hwh := rWhole_calls _ p3 _ w4 t4.a
  rw [show rWhole (some []) = true from rfl] at hwh
  have HWH := Lib.hid hwh
  clear t4 hwh T3
  go_wp2_with (go_at_call 31; refine HWH.out.mono ?_; rintro e w5 ⟨rfl, rfl⟩)
  refine (copy_calls A2 Z c2 _ _ _ (R2.out.fr T4.out.fr (Nat.le_refl _) (fun _ _ _ x => x)) (by have := HZ.out; omega)).mono ?_
  rintro e w5 ⟨v5, rfl, o5, b5⟩
  have G5 := Lib.hid (T4.out.fr.then (Fr.ofBelow b5))
  have HO := Lib.hid o5
  have HB := Lib.hid b5
  clear o5 b5 HWH
  go_wp2_with (at_builtin; refine wpList_append_src _ rfl _ _ 22 rfl w4.heap.size 5 i0 (.int .u8 0) 1 1 Tryd.underlying22 hi0 hz0 hz1 hz2 rfl (by decide) v5 Z.length (bv Z) rfl HO.out A l.length c (bv l) rfl (by simp) (HR.out.fr (F2.out.then G5.out) (Nat.le_refl _) (fun _ _ _ x => x)).srcs (bv_one l) (by have := HZ.out; have := HL.out; unfold maxLen; omega) (by have := HZ.out; have := HL.out; omega) HB.out.size ?_)
  intro v6 w6 hA
  have G6 := Lib.hid (G5.out.up hA.fr fun k hk => Nat.le_trans T4.out.fr.size (HO.out.lt k hk).1)
  rw [← bv_append, HJ.out] at hA
  obtain ⟨A6, c6, rfl, -, -, r6⟩ := hA.rd
  have R6 := Lib.hid r6
  clear hA r6 HO HB hz0 hz1 hz2 hi0 G5 T4 HJ
  go_wp2_with (go_at_call 12; refine (rNew_calls A6 J c6 _ _ _ R6.out HJL.out).mono ?_; rintro e w7 ⟨p7, rfl, q1, q2, q3, -⟩)
  have T7 := Lib.hid (RA.start G6.out q1 q2 q3 HJL.out)
  clear q1 q2 q3
  refine (H3.out _ F2.out _ _ _ T7.out).mono ?_
  rintro e w8 ⟨rfl, t8⟩
  have T8 := Lib.hid t8
  have hwh := rWhole_calls _ p7 _ w8 t8.a
  rw [whole_len] at hwh
  have HWH := Lib.hid hwh
  clear t8 hwh T7 H3
  by_cases hz : Z.length = 0
  · have hzb : ((Z.length : Int) == 0) = true := by rw [hz]; rfl
    clear hz
    go_wp2_with (go_at_call 31; refine HWH.out.mono ?_; rintro e w9 ⟨rfl, rfl⟩)
    go_ret
    exact ⟨rfl, (F2.out.then T8.out.fr).toBelow'⟩
  · have hzb : ((Z.length : Int) == 0) = false := by rw [beq_eq_false_iff_ne]; omega
    have z1 := Int.emod_nonneg x (show (Z.length : Int) ≠ 0 by omega)
    have z2 := Int.emod_lt_of_pos x (show 0 < (Z.length : Int) by omega)
    obtain ⟨q, hq, hqz⟩ : ∃ q : Nat, x % (Z.length : Int) = (q : Int) ∧ q < Z.length := ⟨(x % (Z.length : Int)).toNat, by omega, by omega⟩
    have hP := fun W => pick_calls x (Z.length : Int) W (by omega) (by omega)
    rw [hq] at hP
    have HP := Lib.hid hP
    have hqc : (q : Int) ≤ (c2 : Int) := by have := M1.out; omega
    have htl : (Z.take q).length = q := by rw [List.length_take]; omega
    have hN := rNew_calls A2 (Z.take q) c2 w1.heap.size w2.heap.size w8 ((R2.out.fr T8.out.fr (Nat.le_refl _) (fun _ _ _ x => x)).take) (by omega)
    rw [htl] at hN
    have HN := Lib.hid hN
    have HTL := Lib.hid htl
    have HQ := Lib.hid hqz
    clear hz z1 z2 hq hP hN htl hqz
    go_wp2_with (first
      | (go_at_call 31; refine HWH.out.mono ?_; rintro e w9 ⟨rfl, rfl⟩)
      | (go_at_call 20; refine (HP.out _).mono ?_; rintro e w10 ⟨rfl, rfl⟩)
      | (go_at_call 12; refine HN.out.mono ?_; rintro e w11 ⟨p11, rfl, q1, q2, q3, -⟩))
    have T11 := Lib.hid (RA.start T8.out.fr q1 q2 q3 (by have := HTL.out; have := HQ.out; have := HZ.out; omega))
    clear q1 q2 q3
    refine (H4.out q HQ.out _ F2.out _ _ _ T11.out).mono ?_
    rintro e w12 ⟨rfl, t12⟩
    have T12 := Lib.hid t12
    have hg := rGood_calls _ p11 _ w12 t12.a
    rw [show rGood none = false from rfl] at hg
    have HG := Lib.hid hg
    clear t12 hg
    go_wp2_with (go_at_call 14; refine HG.out.mono ?_; rintro e w13 ⟨rfl, rfl⟩)
    go_ret
    exact ⟨rfl, (F2.out.then T12.out.fr).toBelow'⟩

set_option maxRecDepth 8000 in
set_option maxHeartbeats 6400000 in
theorem back_big (D A : Option Addr) (ts : List Thing) (l : List UInt8) (d c : Nat) (x : Int) (w : World) (hd : Dth w D ts) (hn : 60 < ts.length) (hnd : ts.length ≤ d) (hr : Rd w 0 w.heap.size A l) (hl : l.length ≤ 1048576) :
    Calls Tryd.prog 9 #[.slice D ts.length d, .int .i64 x, .slice A l.length c] w fun e w' => e = .returned (.bool true) ∧ Below w.heap.size w w' := by
  have hnn : (60 < (ts.length : Int)) := by omega
  have hnd1 : ((60 : Int) ≤ (ts.length : Int)) := by omega
  have hnd2 : ((60 : Int) ≤ (d : Int)) := by omega
  have hnd3 : ((ts.length : Int) ≤ (d : Int)) := by omega
  have hnd4 : 60 ≤ d := by omega
  have hlen : (ts.take 60).length = 60 := by rw [List.length_take]; omega
  have hd1 := hd.take 60
  have hzl : (catB (ts.take 60)).length ≤ 62915160 := by
    have h := catB_len hd1 60
    rw [List.take_of_length_le (by omega)] at h
    omega
  have hfit := hd1.fits
  have h1 := fun W (f : Fr NoB w W) => written_calls D (ts.take 60) d W (hd1.fr f) (by omega)
  have h2 := fun w2 (f : Fr NoB w w2) W lo p (ra : RA w2 W lo p (some (catB (ts.take 60)))) => read_calls D (ts.take 60) d w2 W lo p _ (hd1.fr f) (by omega) ra
  have h3 := fun w2 (f : Fr NoB w w2) W lo p (ra : RA w2 W lo p (some (catB (ts.take 60) ++ l))) => read_calls D (ts.take 60) d w2 W lo p _ (hd1.fr f) (by omega) ra
  have h4 := fun q (hq : q < (catB (ts.take 60)).length) w2 (f : Fr NoB w w2) W lo p (ra : RA w2 W lo p (some ((catB (ts.take 60)).take q))) => read_calls D (ts.take 60) d w2 W lo p _ (hd1.fr f) (by omega) ra
  have e1 : rdAll (ts.take 60) (some (catB (ts.take 60))) = (true, some []) := by
    have h := rdAll_front (ts.take 60) hfit []
    rwa [List.append_nil] at h
  have e2 : rdAll (ts.take 60) (some (catB (ts.take 60) ++ l)) = (true, some l) := rdAll_front (ts.take 60) hfit l
  have e3 : ∀ q, q < (catB (ts.take 60)).length → rdAll (ts.take 60) (some ((catB (ts.take 60)).take q)) = (false, none) := fun q hq => rdAll_cut (ts.take 60) hfit q hq
  rw [e1] at h2
  rw [e2] at h3
  have h4b := fun q (hq : q < (catB (ts.take 60)).length) w2 (f : Fr NoB w w2) W lo p (ra : RA w2 W lo p (some ((catB (ts.take 60)).take q))) => (h4 q hq w2 f W lo p ra).mono fun e w' (z : _ ∧ _) => show e = .returned (.bool false) ∧ RA w2 w' lo p none by
    rw [e3 q hq] at z; exact z
  rw [hlen] at h1 h2 h3
  simp only [hlen] at h4b
  clear hlen hnd
  clear h4 e1 e2 e3 hfit
  generalize catB (ts.take 60) = Z at h1 h2 h3 h4b hzl
  have hzl1 : (Z.length : Int) ≤ 62915160 := by omega
  have HZ := Lib.hid hzl
  obtain ⟨J, hJ⟩ : ∃ J, Z ++ l = J := ⟨_, rfl⟩
  rw [hJ] at h3
  have hJl : J.length ≤ 140737488355328 := by rw [← hJ, List.length_append]; omega
  have HJL := Lib.hid hJl
  have HJ := Lib.hid hJ
  have H1 := Lib.hid h1
  have H2 := Lib.hid h2
  have H3 := Lib.hid h3
  have H4 := Lib.hid h4b
  have HR := Lib.hid hr
  have HL := Lib.hid hl
  obtain ⟨i0, hi0, hz0, hz1, hz2⟩ := info_parts info_byte
  clear hd hd1 h1 h2 h3 h4b hzl hJ hJl hr hl
  go_enter Tryd.func9, Tryd.ntmps9
  go_wp2_with (go_at_call 11; refine (awake_calls _).mono ?_; rintro e w1 ⟨rfl, f1⟩; have F1 := Lib.hid f1; clear f1)
  refine (H1.out _ F1.out).mono ?_
  rintro e w2 ⟨A2, c2, rfl, m1, m2, r2, f2⟩
  have R2 := Lib.hid r2
  have F2 := Lib.hid (F1.out.then f2)
  have M1 := Lib.hid m1
  have M2 := Lib.hid m2
  clear r2 f2 m1 m2
  go_wp2_with (go_at_call 12; refine (rNew_calls A2 Z c2 _ _ _ R2.out (by have := HZ.out; omega)).mono ?_; rintro e w3 ⟨p3, rfl, q1, q2, q3, -⟩)
  have T3 := Lib.hid (RA.start (Fr.refl NoB w2) q1 q2 q3 (by have := HZ.out; omega))
  clear q1 q2 q3
  refine (H2.out _ F2.out _ _ _ T3.out).mono ?_
  rintro e w4 ⟨rfl, t4⟩
  have T4 := Lib.hid t4
  have hwh := rWhole_calls _ p3 _ w4 t4.a
  rw [show rWhole (some []) = true from rfl] at hwh
  have HWH := Lib.hid hwh
  clear t4 hwh T3
  go_wp2_with (go_at_call 31; refine HWH.out.mono ?_; rintro e w5 ⟨rfl, rfl⟩)
  refine (copy_calls A2 Z c2 _ _ _ (R2.out.fr T4.out.fr (Nat.le_refl _) (fun _ _ _ x => x)) (by have := HZ.out; omega)).mono ?_
  rintro e w5 ⟨v5, rfl, o5, b5⟩
  have G5 := Lib.hid (T4.out.fr.then (Fr.ofBelow b5))
  have HO := Lib.hid o5
  have HB := Lib.hid b5
  clear o5 b5 HWH
  go_wp2_with (at_builtin; refine wpList_append_src _ rfl _ _ 22 rfl w4.heap.size 5 i0 (.int .u8 0) 1 1 Tryd.underlying22 hi0 hz0 hz1 hz2 rfl (by decide) v5 Z.length (bv Z) rfl HO.out A l.length c (bv l) rfl (by simp) (HR.out.fr (F2.out.then G5.out) (Nat.le_refl _) (fun _ _ _ x => x)).srcs (bv_one l) (by have := HZ.out; have := HL.out; unfold maxLen; omega) (by have := HZ.out; have := HL.out; omega) HB.out.size ?_)
  intro v6 w6 hA
  have G6 := Lib.hid (G5.out.up hA.fr fun k hk => Nat.le_trans T4.out.fr.size (HO.out.lt k hk).1)
  rw [← bv_append, HJ.out] at hA
  obtain ⟨A6, c6, rfl, -, -, r6⟩ := hA.rd
  have R6 := Lib.hid r6
  clear hA r6 HO HB hz0 hz1 hz2 hi0 G5 T4 HJ
  go_wp2_with (go_at_call 12; refine (rNew_calls A6 J c6 _ _ _ R6.out HJL.out).mono ?_; rintro e w7 ⟨p7, rfl, q1, q2, q3, -⟩)
  have T7 := Lib.hid (RA.start G6.out q1 q2 q3 HJL.out)
  clear q1 q2 q3
  refine (H3.out _ F2.out _ _ _ T7.out).mono ?_
  rintro e w8 ⟨rfl, t8⟩
  have T8 := Lib.hid t8
  have hwh := rWhole_calls _ p7 _ w8 t8.a
  rw [whole_len] at hwh
  have HWH := Lib.hid hwh
  clear t8 hwh T7 H3
  by_cases hz : Z.length = 0
  · have hzb : ((Z.length : Int) == 0) = true := by rw [hz]; rfl
    clear hz
    go_wp2_with (go_at_call 31; refine HWH.out.mono ?_; rintro e w9 ⟨rfl, rfl⟩)
    go_ret
    exact ⟨rfl, (F2.out.then T8.out.fr).toBelow'⟩
  · have hzb : ((Z.length : Int) == 0) = false := by rw [beq_eq_false_iff_ne]; omega
    have z1 := Int.emod_nonneg x (show (Z.length : Int) ≠ 0 by omega)
    have z2 := Int.emod_lt_of_pos x (show 0 < (Z.length : Int) by omega)
    obtain ⟨q, hq, hqz⟩ : ∃ q : Nat, x % (Z.length : Int) = (q : Int) ∧ q < Z.length := ⟨(x % (Z.length : Int)).toNat, by omega, by omega⟩
    have hP := fun W => pick_calls x (Z.length : Int) W (by omega) (by omega)
    rw [hq] at hP
    have HP := Lib.hid hP
    have hqc : (q : Int) ≤ (c2 : Int) := by have := M1.out; omega
    have htl : (Z.take q).length = q := by rw [List.length_take]; omega
    have hN := rNew_calls A2 (Z.take q) c2 w1.heap.size w2.heap.size w8 ((R2.out.fr T8.out.fr (Nat.le_refl _) (fun _ _ _ x => x)).take) (by omega)
    rw [htl] at hN
    have HN := Lib.hid hN
    have HTL := Lib.hid htl
    have HQ := Lib.hid hqz
    clear hz z1 z2 hq hP hN htl hqz
    go_wp2_with (first
      | (go_at_call 31; refine HWH.out.mono ?_; rintro e w9 ⟨rfl, rfl⟩)
      | (go_at_call 20; refine (HP.out _).mono ?_; rintro e w10 ⟨rfl, rfl⟩)
      | (go_at_call 12; refine HN.out.mono ?_; rintro e w11 ⟨p11, rfl, q1, q2, q3, -⟩))
    have T11 := Lib.hid (RA.start T8.out.fr q1 q2 q3 (by have := HTL.out; have := HQ.out; have := HZ.out; omega))
    clear q1 q2 q3
    refine (H4.out q HQ.out _ F2.out _ _ _ T11.out).mono ?_
    rintro e w12 ⟨rfl, t12⟩
    have T12 := Lib.hid t12
    have hg := rGood_calls _ p11 _ w12 t12.a
    rw [show rGood none = false from rfl] at hg
    have HG := Lib.hid hg
    clear t12 hg
    go_wp2_with (go_at_call 14; refine HG.out.mono ?_; rintro e w13 ⟨rfl, rfl⟩)
    go_ret
    exact ⟨rfl, (F2.out.then T12.out.fr).toBelow'⟩

theorem back_walk (D A : Option Addr) (ts : List Thing) (l : List UInt8) (d c : Nat) (x : Int) (w : World) (hd : Dth w D ts) (hnd : ts.length ≤ d) (_ : d ≤ maxLen) (hr : Rd w 0 w.heap.size A l) (hl : l.length ≤ 1048576) :
    Calls Tryd.prog 9 #[.slice D ts.length d, .int .i64 x, .slice A l.length c] w fun e w' => e = .returned (.bool true) ∧ Below w.heap.size w w' := by
  by_cases h : 60 < ts.length
  · exact back_big D A ts l d c x w hd h hnd hr hl
  · exact back_small D A ts l d c x w hd (by omega) hr hl

end Go.Proofs.YtmklmjggichfhaaDoor
