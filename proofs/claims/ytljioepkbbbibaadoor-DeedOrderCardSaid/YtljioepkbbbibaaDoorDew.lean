/-
  Dew: deeds that are the same.
-/
import Derived.Test.YtljioepkbbbibaaDoorDev
import Derived.Test.YtljioepkbbbibaaDoorEng
import Derived.Test.YtljioepkbbbibaaDoorDez
namespace Go.Proofs.YtljioepkbbbibaaDoor
open Go.RowKit

set_option maxRecDepth 8000 in
set_option maxHeartbeats 6400000 in
theorem sameD_of (f : Fd) (pl pl' : Pl) (np lo hi lo' hi' : Nat) (w : World) (hf : f.Ok) (hD : Rd w lo hi pl.A f.data) (hM : RdM w lo hi pl.B f.c.2) (hh : hi ≤ w.heap.size) (hD' : Rd w lo' hi' pl'.A f.data) (hM' : RdM w lo' hi' pl'.B f.c.2) (hh' : hi' ≤ w.heap.size)
    (hS : ∀ W, Fr NoB w W → Calls Tryd.prog 42 #[.slice pl.P np pl.e, .slice pl'.P np pl'.e] W fun e w' => e = .returned (.bool true) ∧ Fr NoB W w') :
    Calls Tryd.prog 15 #[dval f pl np, dval f pl' np] w fun e w' => e = .returned (.bool true) ∧ Fr NoB w w' := by
  have hsb := fun W (F : Fr NoB w W) => same_calls pl.A pl'.A f.data f.data pl.c pl'.c lo hi lo' hi' W (hD.fr F hh (fun _ _ _ x => x)) (hD'.fr F hh' (fun _ _ _ x => x)) hf.data hf.data
  rw [show (f.data == f.data) = true by simp] at hsb
  have hse := fun W (F : Fr NoB w W) => sameE_calls f.c.1 pl.B pl'.B f.c.2 pl.d pl'.d lo hi lo' hi' W (hM.fr F hh (fun _ _ _ x => x)) (Nat.le_trans hh F.size) (hM'.fr F hh' (fun _ _ _ x => x)) (Nat.le_trans hh' F.size) (by have := hf.ms; omega)
  have HSB := Lib.hid hsb
  have HSE := Lib.hid hse
  have HS := Lib.hid hS
  clear hsb hse hS hD hM hD' hM' hf
  obtain ⟨z, k, s, t, x, m, path, data, ow, ve, cv, ti, er, cver, ms⟩ := f
  obtain ⟨A, c, B, d, P, e1⟩ := pl
  obtain ⟨A', c', B', d', P', e1'⟩ := pl'
  simp only [dval, dcells] at *
  have F2 := Lib.hid (((Fr.refl NoB w).alloc (.cells #[.int .i64 z, .int .u8 k, .int .i64 s, .int .i64 t, .int .i64 x, .int .i64 m, .string ⟨path.toArray⟩, .slice A data.length c, .int .i64 ow, .int .i64 ve, .int .i64 cv, .int .i64 ti, .int .i64 er, .int .i64 cver, .slice B ms.length d, .slice P np e1] 31)).alloc (.cells #[.int .i64 z, .int .u8 k, .int .i64 s, .int .i64 t, .int .i64 x, .int .i64 m, .string ⟨path.toArray⟩, .slice A' data.length c', .int .i64 ow, .int .i64 ve, .int .i64 cv, .int .i64 ti, .int .i64 er, .int .i64 cver, .slice B' ms.length d', .slice P' np e1'] 31))
  have HB1 := Lib.hid (heap_alloc2_old w (.cells #[.int .i64 z, .int .u8 k, .int .i64 s, .int .i64 t, .int .i64 x, .int .i64 m, .string ⟨path.toArray⟩, .slice A data.length c, .int .i64 ow, .int .i64 ve, .int .i64 cv, .int .i64 ti, .int .i64 er, .int .i64 cver, .slice B ms.length d, .slice P np e1] 31) (.cells #[.int .i64 z, .int .u8 k, .int .i64 s, .int .i64 t, .int .i64 x, .int .i64 m, .string ⟨path.toArray⟩, .slice A' data.length c', .int .i64 ow, .int .i64 ve, .int .i64 cv, .int .i64 ti, .int .i64 er, .int .i64 cver, .slice B' ms.length d', .slice P' np e1'] 31))
  have HB2 := Lib.hid (heap_alloc2_new w (.cells #[.int .i64 z, .int .u8 k, .int .i64 s, .int .i64 t, .int .i64 x, .int .i64 m, .string ⟨path.toArray⟩, .slice A data.length c, .int .i64 ow, .int .i64 ve, .int .i64 cv, .int .i64 ti, .int .i64 er, .int .i64 cver, .slice B ms.length d, .slice P np e1] 31) (.cells #[.int .i64 z, .int .u8 k, .int .i64 s, .int .i64 t, .int .i64 x, .int .i64 m, .string ⟨path.toArray⟩, .slice A' data.length c', .int .i64 ow, .int .i64 ve, .int .i64 cv, .int .i64 ti, .int .i64 er, .int .i64 cver, .slice B' ms.length d', .slice P' np e1'] 31))
  go_enter Tryd.func15, Tryd.ntmps15
  go_wp2_with (fail)
  refine (HSB.out _ F2.out).mono ?_
  rintro e w1 ⟨rfl, n, hw1⟩
  have F1 : Hid (Fr NoB w w1) := by rw [hw1]; exact F2.out.drewN n
  have HC1 : Hid (w1.heap[w.heap.size]? = some (.cells #[.int .i64 z, .int .u8 k, .int .i64 s, .int .i64 t, .int .i64 x, .int .i64 m, .string ⟨path.toArray⟩, .slice A data.length c, .int .i64 ow, .int .i64 ve, .int .i64 cv, .int .i64 ti, .int .i64 er, .int .i64 cver, .slice B ms.length d, .slice P np e1] 31 (0, 0))) := by rw [hw1]; exact HB1.out
  have HC2 : Hid (w1.heap[w.heap.size + 1]? = some (.cells #[.int .i64 z, .int .u8 k, .int .i64 s, .int .i64 t, .int .i64 x, .int .i64 m, .string ⟨path.toArray⟩, .slice A' data.length c', .int .i64 ow, .int .i64 ve, .int .i64 cv, .int .i64 ti, .int .i64 er, .int .i64 cver, .slice B' ms.length d', .slice P' np e1'] 31 (0, 0))) := by rw [hw1]; exact HB2.out
  clear hw1 F2 HB1 HB2 HSB
  generalize w.heap.size = NB at *
  have a8 := (cells_of HC1.out 8).1
  have a9 := (cells_of HC1.out 9).1
  have a10 := (cells_of HC1.out 10).1
  have a11 := (cells_of HC1.out 11).1
  have a12 := (cells_of HC1.out 12).1
  have a13 := (cells_of HC1.out 13).1
  have a14 := (cells_of HC1.out 14).1
  have b8 := (cells_of HC2.out 8).1
  have b9 := (cells_of HC2.out 9).1
  have b10 := (cells_of HC2.out 10).1
  have b11 := (cells_of HC2.out 11).1
  have b12 := (cells_of HC2.out 12).1
  have b13 := (cells_of HC2.out 13).1
  have b14 := (cells_of HC2.out 14).1
  simp only [List.getElem?_toArray, List.getElem?_cons_zero, List.getElem?_cons_succ] at a8 a9 a10 a11 a12 a13 a14 b8 b9 b10 b11 b12 b13 b14
  go_wp2_with (fail)
  refine (HSE.out _ F1.out).mono ?_
  rintro e w2 ⟨rfl, f2⟩
  have c15 := (cells_of (f2.at_ HC1.out (fun x => x)) 15).1
  have d15 := (cells_of (f2.at_ HC2.out (fun x => x)) 15).1
  simp only [List.getElem?_toArray, List.getElem?_cons_zero, List.getElem?_cons_succ] at c15 d15
  have G2 := Lib.hid (F1.out.then f2)
  clear a8 a9 a10 a11 a12 a13 a14 b8 b9 b10 b11 b12 b13 b14 f2 HSE
  go_wp2_with (fail)
  refine (HS.out _ G2.out).mono ?_
  rintro e w3 ⟨rfl, f3⟩
  go_wp2
  go_ret
  exact ⟨rfl, G2.out.then f3⟩

theorem sames0_calls (A A' : Option Addr) (c c' : Nat) (w : World) :
    Calls Tryd.prog 42 #[.slice A 0 c, .slice A' 0 c'] w fun e w' => e = .returned (.bool true) ∧ Fr NoB w w' := by
  go_enter Tryd.func42, Tryd.ntmps42
  go_wp2
  go_loopw [5] (fun i W => i = .int .i64 0 ∧ W = w) (fun _ _ => 0)
  case atStart => exact ⟨rfl, rfl⟩
  case round =>
    obtain ⟨rfl, rfl⟩ := hrel
    go_wp2
    go_ret
    exact ⟨rfl, Fr.refl _ _⟩
end Go.Proofs.YtljioepkbbbibaaDoor
