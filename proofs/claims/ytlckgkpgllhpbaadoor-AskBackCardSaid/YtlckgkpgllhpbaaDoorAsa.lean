/-
  Asa: calls that are the same.
-/
import Derived.Test.YtlckgkpgllhpbaaDoorAkm
import Derived.Test.YtlckgkpgllhpbaaDoorEng
import Derived.Deep.RegionHeld3
namespace Go.Proofs.YtlckgkpgllhpbaaDoor
open Go.RowKit

set_option maxRecDepth 8000 in
set_option maxHeartbeats 6400000 in
theorem sameA_of (f : Fa) (pl pl' : Pl) (np lo hi lo' hi' : Nat) (w : World) (hf : f.Ok) (hD : Rd w lo hi pl.A f.data) (hM : RdM w lo hi pl.B f.ms) (hh : hi ≤ w.heap.size) (hD' : Rd w lo' hi' pl'.A f.data) (hM' : RdM w lo' hi' pl'.B f.ms) (hh' : hi' ≤ w.heap.size)
    (hS : ∀ W, Fr NoB w W → Calls Tryd.prog 53 #[.slice pl.P np pl.e, .slice pl'.P np pl'.e] W fun e w' => e = .returned (.bool true) ∧ Fr NoB W w') :
    Calls Tryd.prog 22 #[aval f pl np, aval f pl' np] w fun e w' => e = .returned (.bool true) ∧ Fr NoB w w' := by
  have hsb := fun W (F : Fr NoB w W) => same_calls pl.A pl'.A f.data f.data pl.c pl'.c lo hi lo' hi' W (hD.fr F hh (fun _ _ _ x => x)) (hD'.fr F hh' (fun _ _ _ x => x)) hf.data hf.data
  rw [show (f.data == f.data) = true by simp] at hsb
  have hse := fun W (F : Fr NoB w W) => samem_calls pl.B pl'.B f.ms f.ms pl.d pl'.d lo hi lo' hi' W (hM.fr F hh (fun _ _ _ x => x)) (hM'.fr F hh' (fun _ _ _ x => x)) (by have := hf.ms; omega) (by have := hf.ms; omega)
  rw [show (f.ms == f.ms) = true by simp] at hse
  have HSB := Lib.hid hsb
  have HSE := Lib.hid hse
  have HS := Lib.hid hS
  clear hsb hse hS hD hM hD' hM' hf
  obtain ⟨k, x, s, t, path, data, fl, ve, wa, so, la, ti, fr, ms⟩ := f
  obtain ⟨A, c, B, d, P, e1⟩ := pl
  obtain ⟨A', c', B', d', P', e1'⟩ := pl'
  simp only [aval, acells] at *
  have F2 := Lib.hid (((Fr.refl NoB w).alloc (.cells #[.int .u8 k, .int .i64 x, .int .i64 s, .int .i64 t, .string ⟨path.toArray⟩, .slice A data.length c, .int .i64 fl, .int .i64 ve, .bool wa, .int .u8 so, .int .i64 la, .int .i64 ti, .int .i64 fr, .slice B ms.length d, .slice P np e1] 29)).alloc (.cells #[.int .u8 k, .int .i64 x, .int .i64 s, .int .i64 t, .string ⟨path.toArray⟩, .slice A' data.length c', .int .i64 fl, .int .i64 ve, .bool wa, .int .u8 so, .int .i64 la, .int .i64 ti, .int .i64 fr, .slice B' ms.length d', .slice P' np e1'] 29))
  have HB1 := Lib.hid (heap_alloc2_old w (.cells #[.int .u8 k, .int .i64 x, .int .i64 s, .int .i64 t, .string ⟨path.toArray⟩, .slice A data.length c, .int .i64 fl, .int .i64 ve, .bool wa, .int .u8 so, .int .i64 la, .int .i64 ti, .int .i64 fr, .slice B ms.length d, .slice P np e1] 29) (.cells #[.int .u8 k, .int .i64 x, .int .i64 s, .int .i64 t, .string ⟨path.toArray⟩, .slice A' data.length c', .int .i64 fl, .int .i64 ve, .bool wa, .int .u8 so, .int .i64 la, .int .i64 ti, .int .i64 fr, .slice B' ms.length d', .slice P' np e1'] 29))
  have HB2 := Lib.hid (heap_alloc2_new w (.cells #[.int .u8 k, .int .i64 x, .int .i64 s, .int .i64 t, .string ⟨path.toArray⟩, .slice A data.length c, .int .i64 fl, .int .i64 ve, .bool wa, .int .u8 so, .int .i64 la, .int .i64 ti, .int .i64 fr, .slice B ms.length d, .slice P np e1] 29) (.cells #[.int .u8 k, .int .i64 x, .int .i64 s, .int .i64 t, .string ⟨path.toArray⟩, .slice A' data.length c', .int .i64 fl, .int .i64 ve, .bool wa, .int .u8 so, .int .i64 la, .int .i64 ti, .int .i64 fr, .slice B' ms.length d', .slice P' np e1'] 29))
  go_enter Tryd.func22, Tryd.ntmps22
  go_wp2_with (fail)
  refine (HSB.out _ F2.out).mono ?_
  rintro e w1 ⟨rfl, n, hw1⟩
  have F1 : Hid (Fr NoB w w1) := by rw [hw1]; exact F2.out.drewN n
  have HC1 : Hid (w1.heap[w.heap.size]? = some (.cells #[.int .u8 k, .int .i64 x, .int .i64 s, .int .i64 t, .string ⟨path.toArray⟩, .slice A data.length c, .int .i64 fl, .int .i64 ve, .bool wa, .int .u8 so, .int .i64 la, .int .i64 ti, .int .i64 fr, .slice B ms.length d, .slice P np e1] 29 (0, 0))) := by rw [hw1]; exact HB1.out
  have HC2 : Hid (w1.heap[w.heap.size + 1]? = some (.cells #[.int .u8 k, .int .i64 x, .int .i64 s, .int .i64 t, .string ⟨path.toArray⟩, .slice A' data.length c', .int .i64 fl, .int .i64 ve, .bool wa, .int .u8 so, .int .i64 la, .int .i64 ti, .int .i64 fr, .slice B' ms.length d', .slice P' np e1'] 29 (0, 0))) := by rw [hw1]; exact HB2.out
  clear hw1 F2 HB1 HB2 HSB
  generalize w.heap.size = NB at *
  have a6 := (cells_of HC1.out 6).1
  have a7 := (cells_of HC1.out 7).1
  have a8 := (cells_of HC1.out 8).1
  have a9 := (cells_of HC1.out 9).1
  have a10 := (cells_of HC1.out 10).1
  have a11 := (cells_of HC1.out 11).1
  have a12 := (cells_of HC1.out 12).1
  have a13 := (cells_of HC1.out 13).1
  have b6 := (cells_of HC2.out 6).1
  have b7 := (cells_of HC2.out 7).1
  have b8 := (cells_of HC2.out 8).1
  have b9 := (cells_of HC2.out 9).1
  have b10 := (cells_of HC2.out 10).1
  have b11 := (cells_of HC2.out 11).1
  have b12 := (cells_of HC2.out 12).1
  have b13 := (cells_of HC2.out 13).1
  simp only [List.getElem?_toArray, List.getElem?_cons_zero, List.getElem?_cons_succ] at a6 a7 a8 a9 a10 a11 a12 a13 b6 b7 b8 b9 b10 b11 b12 b13
  go_wp2_with (fail)
  refine (HSE.out _ F1.out).mono ?_
  rintro e w2 ⟨rfl, n2, hw2⟩
  have f2 : Fr NoB w1 w2 := by rw [hw2]; exact (Fr.refl NoB w1).drewN n2
  have c14 := (cells_of (f2.at_ HC1.out (fun x => x)) 14).1
  have d14 := (cells_of (f2.at_ HC2.out (fun x => x)) 14).1
  simp only [List.getElem?_toArray, List.getElem?_cons_zero, List.getElem?_cons_succ] at c14 d14
  have G2 := Lib.hid (F1.out.then f2)
  clear a6 b6 a7 b7 a8 b8 a9 b9 a10 b10 a11 b11 a12 b12 a13 b13 f2 HSE hw2
  go_wp2_with (fail)
  refine (HS.out _ G2.out).mono ?_
  rintro e w3 ⟨rfl, f3⟩
  go_wp2
  go_ret
  exact ⟨rfl, G2.out.then f3⟩

theorem samesA0_calls (A A' : Option Addr) (c c' : Nat) (w : World) :
    Calls Tryd.prog 53 #[.slice A 0 c, .slice A' 0 c'] w fun e w' => e = .returned (.bool true) ∧ Fr NoB w w' := by
  go_enter Tryd.func53, Tryd.ntmps53
  go_wp2
  go_loopw [5] (fun i W => i = .int .i64 0 ∧ W = w) (fun _ _ => 0)
  case atStart => exact ⟨rfl, rfl⟩
  case round =>
    obtain ⟨rfl, rfl⟩ := hrel
    go_wp2
    go_ret
    exact ⟨rfl, Fr.refl _ _⟩
set_option maxRecDepth 8000 in
set_option maxHeartbeats 6400000 in
theorem samesA_calls (A A' : Option Addr) (l : List (Fa × Nat)) (c c' lo hi lo' hi' : Nat) (w : World) (h : RdPa w lo hi A l) (hh : hi ≤ w.heap.size) (h' : RdPa w lo' hi' A' l) (hh' : hi' ≤ w.heap.size) (hl : l.length ≤ 140737488355328) (hok : ∀ q ∈ l, q.1.Ok ∧ q.2 = 0) :
    Calls Tryd.prog 53 #[.slice A l.length c, .slice A' l.length c'] w fun e w' => e = .returned (.bool true) ∧ Fr NoB w w' := by
  have HR := Lib.hid h
  have HR2 := Lib.hid h'
  have HOK := Lib.hid hok
  clear h h' hok
  go_enter Tryd.func53, Tryd.ntmps53
  go_wp2
  go_loopw [5] (fun i W => ∃ k : Nat, k ≤ l.length ∧ i = .int .i64 (k : Int) ∧ Fr NoB w W) (fun i _ => l.length - (intOf i).toNat)
  case atStart => exact ⟨0, Nat.zero_le _, rfl, Fr.refl _ _⟩
  case round =>
    obtain ⟨k, hk, rfl, hf⟩ := hrel
    have F := Lib.hid hf
    clear hf
    by_cases hlt : k < l.length
    · have hki : (k : Int) < (l.length : Int) := by omega
      have hk0 : (0 : Int) ≤ (k : Int) := by omega
      obtain ⟨b, o, rfl, hb1, hb2, h4⟩ := HR.out (by omega)
      obtain ⟨b2, o2, rfl, hb3, hb4, h5⟩ := HR2.out (by omega)
      obtain ⟨pl, hcs, hrd, hrm⟩ := h4 k l[k] (List.getElem?_eq_getElem hlt)
      obtain ⟨pl2, hcs2, hrd2, hrm2⟩ := h5 k l[k] (List.getElem?_eq_getElem hlt)
      have hq := HOK.out l[k] (List.getElem_mem hlt)
      clear h4 h5
      generalize l[k] = q at hcs hrd hrm hcs2 hrd2 hrm2 hq
      obtain ⟨f, np⟩ := q
      simp only at hcs hrd hrm hcs2 hrd2 hrm2 hq
      obtain ⟨hfok, rfl⟩ := hq
      have hsd := fun W (G : Fr NoB wr W) => sameA_of f pl pl2 0 lo hi lo' hi' W hfok ((hrd.fr F.out hh (fun _ _ _ x => x)).fr G (Nat.le_trans hh F.out.size) (fun _ _ _ x => x)) ((hrm.fr F.out hh (fun _ _ _ x => x)).fr G (Nat.le_trans hh F.out.size) (fun _ _ _ x => x)) (Nat.le_trans (Nat.le_trans hh F.out.size) G.size) ((hrd2.fr F.out hh' (fun _ _ _ x => x)).fr G (Nat.le_trans hh' F.out.size) (fun _ _ _ x => x)) ((hrm2.fr F.out hh' (fun _ _ _ x => x)).fr G (Nat.le_trans hh' F.out.size) (fun _ _ _ x => x)) (Nat.le_trans (Nat.le_trans hh' F.out.size) G.size) (fun W2 _ => samesA0_calls _ _ _ _ W2)
      have HC : ∀ W, Fr NoB wr W → ∀ j v, (acells f pl 0)[j]? = some v → W.cell? ⟨b, o + k * 15 + j, none⟩ = some v := fun W G j v hv => ((F.out.then G).cell (p := ⟨b, o + k * 15 + j, none⟩) (by simp only; omega) (fun x => x)).trans (hcs j v hv)
      have HC2 : ∀ W, Fr NoB wr W → ∀ j v, (acells f pl2 0)[j]? = some v → W.cell? ⟨b2, o2 + k * 15 + j, none⟩ = some v := fun W G j v hv => ((F.out.then G).cell (p := ⟨b2, o2 + k * 15 + j, none⟩) (by simp only; omega) (fun x => x)).trans (hcs2 j v hv)
      obtain ⟨kk, x, s, t, path, data, fl, ve, wa, so, la, ti, fr, ms⟩ := f
      obtain ⟨A1, c1, B1, d1, P1, e11⟩ := pl
      obtain ⟨A2, c2, B2, d2, P2, e12⟩ := pl2
      simp only [aval, acells] at hsd
      have HRG : ∀ W, Fr NoB wr W → W.cell? ⟨b, o + k * 15, none⟩ = some (.int .u8 kk) ∧ W.cell? ⟨b, o + k * 15 + 1, none⟩ = some (.int .i64 x) ∧ W.cell? ⟨b, o + k * 15 + 2, none⟩ = some (.int .i64 s) ∧ W.cell? ⟨b, o + k * 15 + 3, none⟩ = some (.int .i64 t) ∧ W.cell? ⟨b, o + k * 15 + 4, none⟩ = some (.string ⟨path.toArray⟩) ∧ W.cell? ⟨b, o + k * 15 + 5, none⟩ = some (.slice A1 data.length c1) ∧ W.cell? ⟨b, o + k * 15 + 6, none⟩ = some (.int .i64 fl) ∧ W.cell? ⟨b, o + k * 15 + 7, none⟩ = some (.int .i64 ve) ∧ W.cell? ⟨b, o + k * 15 + 8, none⟩ = some (.bool wa) ∧ W.cell? ⟨b, o + k * 15 + 9, none⟩ = some (.int .u8 so) ∧ W.cell? ⟨b, o + k * 15 + 10, none⟩ = some (.int .i64 la) ∧ W.cell? ⟨b, o + k * 15 + 11, none⟩ = some (.int .i64 ti) ∧ W.cell? ⟨b, o + k * 15 + 12, none⟩ = some (.int .i64 fr) ∧ W.cell? ⟨b, o + k * 15 + 13, none⟩ = some (.slice B1 ms.length d1) ∧ W.cell? ⟨b, o + k * 15 + 14, none⟩ = some (.slice P1 0 e11) ∧ W.cell? ⟨b2, o2 + k * 15, none⟩ = some (.int .u8 kk) ∧ W.cell? ⟨b2, o2 + k * 15 + 1, none⟩ = some (.int .i64 x) ∧ W.cell? ⟨b2, o2 + k * 15 + 2, none⟩ = some (.int .i64 s) ∧ W.cell? ⟨b2, o2 + k * 15 + 3, none⟩ = some (.int .i64 t) ∧ W.cell? ⟨b2, o2 + k * 15 + 4, none⟩ = some (.string ⟨path.toArray⟩) ∧ W.cell? ⟨b2, o2 + k * 15 + 5, none⟩ = some (.slice A2 data.length c2) ∧ W.cell? ⟨b2, o2 + k * 15 + 6, none⟩ = some (.int .i64 fl) ∧ W.cell? ⟨b2, o2 + k * 15 + 7, none⟩ = some (.int .i64 ve) ∧ W.cell? ⟨b2, o2 + k * 15 + 8, none⟩ = some (.bool wa) ∧ W.cell? ⟨b2, o2 + k * 15 + 9, none⟩ = some (.int .u8 so) ∧ W.cell? ⟨b2, o2 + k * 15 + 10, none⟩ = some (.int .i64 la) ∧ W.cell? ⟨b2, o2 + k * 15 + 11, none⟩ = some (.int .i64 ti) ∧ W.cell? ⟨b2, o2 + k * 15 + 12, none⟩ = some (.int .i64 fr) ∧ W.cell? ⟨b2, o2 + k * 15 + 13, none⟩ = some (.slice B2 ms.length d2) ∧ W.cell? ⟨b2, o2 + k * 15 + 14, none⟩ = some (.slice P2 0 e12) := fun W G =>
        ⟨HC W G 0 _ rfl, HC W G 1 _ rfl, HC W G 2 _ rfl, HC W G 3 _ rfl, HC W G 4 _ rfl, HC W G 5 _ rfl, HC W G 6 _ rfl, HC W G 7 _ rfl, HC W G 8 _ rfl, HC W G 9 _ rfl, HC W G 10 _ rfl, HC W G 11 _ rfl, HC W G 12 _ rfl, HC W G 13 _ rfl, HC W G 14 _ rfl, HC2 W G 0 _ rfl, HC2 W G 1 _ rfl, HC2 W G 2 _ rfl, HC2 W G 3 _ rfl, HC2 W G 4 _ rfl, HC2 W G 5 _ rfl, HC2 W G 6 _ rfl, HC2 W G 7 _ rfl, HC2 W G 8 _ rfl, HC2 W G 9 _ rfl, HC2 W G 10 _ rfl, HC2 W G 11 _ rfl, HC2 W G 12 _ rfl, HC2 W G 13 _ rfl, HC2 W G 14 _ rfl⟩
      have HRGH := Lib.hid HRG
      have HSD := Lib.hid hsd
      clear HRG hsd HC HC2 hcs hcs2 hrd hrm hrd2 hrm2 hfok HR HR2 HOK
      go_wp2
      go_region_held3 (fun W => W.cell? ⟨b, o + k * 15, none⟩ = some (.int .u8 kk) ∧ W.cell? ⟨b, o + k * 15 + 1, none⟩ = some (.int .i64 x) ∧ W.cell? ⟨b, o + k * 15 + 2, none⟩ = some (.int .i64 s) ∧ W.cell? ⟨b, o + k * 15 + 3, none⟩ = some (.int .i64 t) ∧ W.cell? ⟨b, o + k * 15 + 4, none⟩ = some (.string ⟨path.toArray⟩) ∧ W.cell? ⟨b, o + k * 15 + 5, none⟩ = some (.slice A1 data.length c1) ∧ W.cell? ⟨b, o + k * 15 + 6, none⟩ = some (.int .i64 fl) ∧ W.cell? ⟨b, o + k * 15 + 7, none⟩ = some (.int .i64 ve) ∧ W.cell? ⟨b, o + k * 15 + 8, none⟩ = some (.bool wa) ∧ W.cell? ⟨b, o + k * 15 + 9, none⟩ = some (.int .u8 so) ∧ W.cell? ⟨b, o + k * 15 + 10, none⟩ = some (.int .i64 la) ∧ W.cell? ⟨b, o + k * 15 + 11, none⟩ = some (.int .i64 ti) ∧ W.cell? ⟨b, o + k * 15 + 12, none⟩ = some (.int .i64 fr) ∧ W.cell? ⟨b, o + k * 15 + 13, none⟩ = some (.slice B1 ms.length d1) ∧ W.cell? ⟨b, o + k * 15 + 14, none⟩ = some (.slice P1 0 e11) ∧ W.cell? ⟨b2, o2 + k * 15, none⟩ = some (.int .u8 kk) ∧ W.cell? ⟨b2, o2 + k * 15 + 1, none⟩ = some (.int .i64 x) ∧ W.cell? ⟨b2, o2 + k * 15 + 2, none⟩ = some (.int .i64 s) ∧ W.cell? ⟨b2, o2 + k * 15 + 3, none⟩ = some (.int .i64 t) ∧ W.cell? ⟨b2, o2 + k * 15 + 4, none⟩ = some (.string ⟨path.toArray⟩) ∧ W.cell? ⟨b2, o2 + k * 15 + 5, none⟩ = some (.slice A2 data.length c2) ∧ W.cell? ⟨b2, o2 + k * 15 + 6, none⟩ = some (.int .i64 fl) ∧ W.cell? ⟨b2, o2 + k * 15 + 7, none⟩ = some (.int .i64 ve) ∧ W.cell? ⟨b2, o2 + k * 15 + 8, none⟩ = some (.bool wa) ∧ W.cell? ⟨b2, o2 + k * 15 + 9, none⟩ = some (.int .u8 so) ∧ W.cell? ⟨b2, o2 + k * 15 + 10, none⟩ = some (.int .i64 la) ∧ W.cell? ⟨b2, o2 + k * 15 + 11, none⟩ = some (.int .i64 ti) ∧ W.cell? ⟨b2, o2 + k * 15 + 12, none⟩ = some (.int .i64 fr) ∧ W.cell? ⟨b2, o2 + k * 15 + 13, none⟩ = some (.slice B2 ms.length d2) ∧ W.cell? ⟨b2, o2 + k * 15 + 14, none⟩ = some (.slice P2 0 e12)) (first
          | with_reducible exact HRGH.out _ ((Fr.refl NoB wr).drew)
          | with_reducible exact HRGH.out _ (((Fr.refl NoB wr).drew).then f2)) (first
          | ((with_reducible refine (HSD.out _ ((Fr.refl NoB wr).drew)).mono ?_); rintro e w2 ⟨rfl, f2⟩))
      all_goals
        go_wp2
        go_roundw
        case rel => exact ⟨k + 1, by omega, by go_num, (F.out.drew).then f2⟩
        case measure => simp [intOf]; omega
    · obtain rfl : k = l.length := by omega
      go_wp2
      go_ret
      exact ⟨rfl, F.out⟩
theorem sameA_calls (f : Fa) (pl pl' : Pl) (l : List (Fa × Nat)) (lo hi lo' hi' : Nat) (w : World) (hf : f.Ok) (hok : ∀ q ∈ l, q.1.Ok ∧ q.2 = 0) (hl : l.length ≤ 140737488355328) (hD : RdA w lo hi f pl l) (hh : hi ≤ w.heap.size) (hD' : RdA w lo' hi' f pl' l) (hh' : hi' ≤ w.heap.size) :
    Calls Tryd.prog 22 #[aval f pl l.length, aval f pl' l.length] w fun e w' => e = .returned (.bool true) ∧ Fr NoB w w' :=
  sameA_of f pl pl' l.length lo hi lo' hi' w hf hD.data hD.ms hh hD'.data hD'.ms hh' fun W F => samesA_calls pl.P pl'.P l pl.e pl'.e lo hi lo' hi' W (hD.parts.fr F hh (fun _ _ _ x => x)) (Nat.le_trans hh F.size) (hD'.parts.fr F hh' (fun _ _ _ x => x)) (Nat.le_trans hh' F.size) hl hok
end Go.Proofs.YtlckgkpgllhpbaaDoor
