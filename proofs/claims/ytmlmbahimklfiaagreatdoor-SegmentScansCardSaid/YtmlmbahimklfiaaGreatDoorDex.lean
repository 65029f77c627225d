/-
  Dex: Eng, Dex.
-/
import Derived.Test.YtmlmbahimklfiaaGreatDoorEnn
import Derived.Deep.RegionHeld3
import Derived.StillTailTactics
import Derived.Test.YtmlmbahimklfiaaGreatDoorDev
import Derived.Test.YtmlmbahimklfiaaGreatDoorDez
/- Eng -/
namespace Go.Proofs.YtmlmbahimklfiaaGreatDoor
open Go.RowKit

def arrI (f : Nat → Int) : Array Value := #[.int .i64 (f 0), .int .i64 (f 1), .int .i64 (f 2), .int .i64 (f 3), .int .i64 (f 4), .int .i64 (f 5), .int .i64 (f 6)]
theorem arrI_get (f : Nat → Int) (g : Nat) (h : g < 7) : (arrI f)[g]? = some (.int .i64 (f g)) := by
  match g, h with
  | 0, _ => rfl
  | 1, _ => rfl
  | 2, _ => rfl
  | 3, _ => rfl
  | 4, _ => rfl
  | 5, _ => rfl
  | 6, _ => rfl
  | g + 7, h => omega
theorem arrI_set (f f' : Nat → Int) (g : Nat) (h : g < 7) (x : Int) (hx : f' g = x) (hf : ∀ j, j ≠ g → f' j = f j) : (arrI f).setIfInBounds g (.int .i64 x) = arrI f' := by
  subst hx
  match g, h with
  | 0, _ => simp [arrI, hf]
  | 1, _ => simp [arrI, hf]
  | 2, _ => simp [arrI, hf]
  | 3, _ => simp [arrI, hf]
  | 4, _ => simp [arrI, hf]
  | 5, _ => simp [arrI, hf]
  | 6, _ => simp [arrI, hf]
  | g + 7, h => omega
theorem wSum_snoc (p : Mem → Bool) (l : List Mem) (m : Mem) : wSum p (l ++ [m]) = wSum p l + (if p m then m.2.2.1 else 0) := by
  induction l with
  | nil => simp [wSum]
  | cons x l ih => simp only [List.cons_append, wSum, ih]; omega
theorem wSum_bound {ms : List Mem} (h : ∀ m ∈ ms, GoodM m) (p : Mem → Bool) : wSum p ms ≤ 1000 * (ms.length : Int) := by
  induction ms with
  | nil => simp [wSum]
  | cons m l ih =>
    have := ih fun x hx => h x (by simp [hx])
    have hm := h m (by simp)
    unfold GoodM at hm
    unfold wSum
    rw [List.length_cons]
    split <;> omega
theorem take_snoc {ms : List Mem} {k : Nat} {m : Mem} (h : ms[k]? = some m) : ms.take (k + 1) = ms.take k ++ [m] := by
  rw [List.take_add_one, h]; rfl
theorem cnt_bound (p : Nat → Bool) (n : Nat) : 0 ≤ cnt p n ∧ cnt p n ≤ n := by
  induction n with
  | zero => simp [cnt]
  | succ n ih => unfold cnt; split <;> omega

theorem allG_snoc (l : List Mem) (m0 m1 m2 : Int) (h g : Nat) : allG (l ++ [(m0, m1, m2, (h : Int))]) g = allG l g + (if h = g then m2 else 0) := by
  have e := wSum_snoc (fun m => m.2.2.2 == (g : Int)) l (m0, m1, m2, (h : Int))
  have e2 : ((h : Int) == (g : Int)) = decide (h = g) := by rw [Bool.eq_iff_iff]; simp; omega
  simp only [e2, decide_eq_true_eq] at e
  exact e
theorem someG_snoc (ids : List Int) (l : List Mem) (m0 m1 m2 : Int) (h g : Nat) : someG ids (l ++ [(m0, m1, m2, (h : Int))]) g = someG ids l g + (if h = g ∧ ids.contains m0 = true then m2 else 0) := by
  have e := wSum_snoc (fun m => m.2.2.2 == (g : Int) && ids.contains m.1) l (m0, m1, m2, (h : Int))
  have e2 : ((h : Int) == (g : Int)) = decide (h = g) := by rw [Bool.eq_iff_iff]; simp; omega
  simp only [e2, Bool.and_eq_true, decide_eq_true_eq] at e
  exact e
theorem set_far {w : World} {B g p i : Nat} {u v : Value} (h : w.cell? ⟨p, i, none⟩ = some v) (hne : p ≠ B) : (w.setCell ⟨B, g, none⟩ u).cell? ⟨p, i, none⟩ = some v :=
  (World.cell?_of_block (a := ⟨p, i, none⟩) (Below.heap_setCell w ⟨B, g, none⟩ u p hne)).trans h

end Go.Proofs.YtmlmbahimklfiaaGreatDoor

/- Eng -/
namespace Go.Proofs.YtmlmbahimklfiaaGreatDoor
open Go.RowKit

set_option maxHeartbeats 1600000 in
theorem sameE_calls (v : Int) (A A' : Option Addr) (l : List Mem) (c c' lo hi lo' hi' : Nat) (w : World) (h : RdM w lo hi A l) (hh : hi ≤ w.heap.size) (h' : RdM w lo' hi' A' l) (hh' : hi' ≤ w.heap.size) (hl : l.length ≤ 140737488355328) :
    Calls Tryz.prog 75 #[.agg #[.int .i64 v, .slice A l.length c], .agg #[.int .i64 v, .slice A' l.length c']] w fun e w' => e = .returned (.bool true) ∧ Fr NoB w w' := by
  have hs := fun W (f : Fr NoB w W) => samem_calls A A' l l c c' lo hi lo' hi' W (h.fr f hh (fun _ _ _ x => x)) (h'.fr f hh' (fun _ _ _ x => x)) hl hl
  rw [show (l == l) = true by simp] at hs
  have HS := Lib.hid hs
  clear hs h h'
  go_enter Tryz.func75, Tryz.ntmps75
  go_wp2_with (go_at_call 134; refine (HS.out _ (((Fr.refl NoB w).alloc _).alloc _)).mono ?_; rintro e w1 ⟨rfl, n, rfl⟩)
  go_ret
  exact ⟨rfl, (((Fr.refl NoB w).alloc _).alloc _).drewN n⟩

end Go.Proofs.YtmlmbahimklfiaaGreatDoor

/- Dex -/
namespace Go.Proofs.YtmlmbahimklfiaaGreatDoor
open Go.RowKit

set_option maxRecDepth 8000 in
set_option maxHeartbeats 6400000 in
theorem sameD_of (f : Fd) (pl pl' : Pl) (np lo hi lo' hi' : Nat) (w : World) (hf : f.Ok) (hD : Rd w lo hi pl.A f.data) (hM : RdM w lo hi pl.B f.c.2) (hh : hi ≤ w.heap.size) (hD' : Rd w lo' hi' pl'.A f.data) (hM' : RdM w lo' hi' pl'.B f.c.2) (hh' : hi' ≤ w.heap.size)
    (hS : ∀ W, Fr NoB w W → Calls Tryz.prog 12 #[.slice pl.P np pl.e, .slice pl'.P np pl'.e] W fun e w' => e = .returned (.bool true) ∧ Fr NoB W w') :
    Calls Tryz.prog 33 #[dval f pl np, dval f pl' np] w fun e w' => e = .returned (.bool true) ∧ Fr NoB w w' := by
  have hsb := fun W (F : Fr NoB w W) => same_calls pl.A pl'.A f.data f.data pl.c pl'.c lo hi lo' hi' W (hD.fr F hh (fun _ _ _ x => x)) (hD'.fr F hh' (fun _ _ _ x => x)) hf.data hf.data
  rw [show (f.data == f.data) = true by simp] at hsb
  have hse := fun W (F : Fr NoB w W) => sameE_calls f.c.1 pl.B pl'.B f.c.2 pl.d pl'.d lo hi lo' hi' W (hM.fr F hh (fun _ _ _ x => x)) (Nat.le_trans hh F.size) (hM'.fr F hh' (fun _ _ _ x => x)) (Nat.le_trans hh' F.size) (by have := hf.ms; omega)
  have HSB := Lib.hid hsb
  have HSE := Lib.hid hse
  have HS := Lib.hid hS
  clear hsb hse hS hD hM hD' hM' hf
  obtain ⟨z, k, s, t, x, m, path, data, ow, ve, cv, ti, er, cver, ms⟩ := f
  obtain ⟨A, c, B, d, P, e1⟩ := pl
  obtain ⟨A', c', B', d', P', e1'⟩ := pl'
  simp only [dval, dcells] at *
  have F2 := Lib.hid (((Fr.refl NoB w).alloc (.cells #[.int .i64 z, .int .u8 k, .int .i64 s, .int .i64 t, .int .i64 x, .int .i64 m, .string ⟨path.toArray⟩, .slice A data.length c, .int .i64 ow, .int .i64 ve, .int .i64 cv, .int .i64 ti, .int .i64 er, .int .i64 cver, .slice B ms.length d, .slice P np e1] 31)).alloc (.cells #[.int .i64 z, .int .u8 k, .int .i64 s, .int .i64 t, .int .i64 x, .int .i64 m, .string ⟨path.toArray⟩, .slice A' data.length c', .int .i64 ow, .int .i64 ve, .int .i64 cv, .int .i64 ti, .int .i64 er, .int .i64 cver, .slice B' ms.length d', .slice P' np e1'] 31))
  have HB1 := Lib.hid (heap_alloc2_old w (.cells #[.int .i64 z, .int .u8 k, .int .i64 s, .int .i64 t, .int .i64 x, .int .i64 m, .string ⟨path.toArray⟩, .slice A data.length c, .int .i64 ow, .int .i64 ve, .int .i64 cv, .int .i64 ti, .int .i64 er, .int .i64 cver, .slice B ms.length d, .slice P np e1] 31) (.cells #[.int .i64 z, .int .u8 k, .int .i64 s, .int .i64 t, .int .i64 x, .int .i64 m, .string ⟨path.toArray⟩, .slice A' data.length c', .int .i64 ow, .int .i64 ve, .int .i64 cv, .int .i64 ti, .int .i64 er, .int .i64 cver, .slice B' ms.length d', .slice P' np e1'] 31))
  have HB2 := Lib.hid (heap_alloc2_new w (.cells #[.int .i64 z, .int .u8 k, .int .i64 s, .int .i64 t, .int .i64 x, .int .i64 m, .string ⟨path.toArray⟩, .slice A data.length c, .int .i64 ow, .int .i64 ve, .int .i64 cv, .int .i64 ti, .int .i64 er, .int .i64 cver, .slice B ms.length d, .slice P np e1] 31) (.cells #[.int .i64 z, .int .u8 k, .int .i64 s, .int .i64 t, .int .i64 x, .int .i64 m, .string ⟨path.toArray⟩, .slice A' data.length c', .int .i64 ow, .int .i64 ve, .int .i64 cv, .int .i64 ti, .int .i64 er, .int .i64 cver, .slice B' ms.length d', .slice P' np e1'] 31))
  go_enter Tryz.func33, Tryz.ntmps33
  go_wp2_with (fail)
  refine (HSB.out _ F2.out).mono ?_
  rintro e w1 ⟨rfl, n, hw1⟩
  have F1 : Hid (Fr NoB w w1) := by rw [hw1]; exact F2.out.drewN n
  have HC1 : Hid (w1.heap[w.heap.size]? = some (.cells #[.int .i64 z, .int .u8 k, .int .i64 s, .int .i64 t, .int .i64 x, .int .i64 m, .string ⟨path.toArray⟩, .slice A data.length c, .int .i64 ow, .int .i64 ve, .int .i64 cv, .int .i64 ti, .int .i64 er, .int .i64 cver, .slice B ms.length d, .slice P np e1] 31 (0, 0))) := by rw [hw1]; exact HB1.out
  have HC2 : Hid (w1.heap[w.heap.size + 1]? = some (.cells #[.int .i64 z, .int .u8 k, .int .i64 s, .int .i64 t, .int .i64 x, .int .i64 m, .string ⟨path.toArray⟩, .slice A' data.length c', .int .i64 ow, .int .i64 ve, .int .i64 cv, .int .i64 ti, .int .i64 er, .int .i64 cver, .slice B' ms.length d', .slice P' np e1'] 31 (0, 0))) := by rw [hw1]; exact HB2.out
  clear hw1 F2 HB1 HB2 HSB
  generalize w.heap.size = NB at *
  have a8 := (cells_of HC1.out 8).1
  have a9 := (cells_of HC1.out 9).1
  have a10 := (cells_of HC1.out 10).1
  have a11 := (cells_of HC1.out 11).1
  have a12 := (cells_of HC1.out 12).1
  have a13 := (cells_of HC1.out 13).1
  have a14 := (cells_of HC1.out 14).1
  have b8 := (cells_of HC2.out 8).1
  have b9 := (cells_of HC2.out 9).1
  have b10 := (cells_of HC2.out 10).1
  have b11 := (cells_of HC2.out 11).1
  have b12 := (cells_of HC2.out 12).1
  have b13 := (cells_of HC2.out 13).1
  have b14 := (cells_of HC2.out 14).1
  simp only [List.getElem?_toArray, List.getElem?_cons_zero, List.getElem?_cons_succ] at a8 a9 a10 a11 a12 a13 a14 b8 b9 b10 b11 b12 b13 b14
  go_wp2_with (fail)
  refine (HSE.out _ F1.out).mono ?_
  rintro e w2 ⟨rfl, f2⟩
  have c15 := (cells_of (f2.at_ HC1.out (fun x => x)) 15).1
  have d15 := (cells_of (f2.at_ HC2.out (fun x => x)) 15).1
  simp only [List.getElem?_toArray, List.getElem?_cons_zero, List.getElem?_cons_succ] at c15 d15
  have G2 := Lib.hid (F1.out.then f2)
  clear a8 a9 a10 a11 a12 a13 a14 b8 b9 b10 b11 b12 b13 b14 f2 HSE
  go_wp2_with (fail)
  refine (HS.out _ G2.out).mono ?_
  rintro e w3 ⟨rfl, f3⟩
  go_wp2
  go_ret
  exact ⟨rfl, G2.out.then f3⟩

theorem sames0_calls (A A' : Option Addr) (c c' : Nat) (w : World) :
    Calls Tryz.prog 12 #[.slice A 0 c, .slice A' 0 c'] w fun e w' => e = .returned (.bool true) ∧ Fr NoB w w' := by
  go_enter Tryz.func12, Tryz.ntmps12
  go_wp2
  go_loopw [5] (fun i W => i = .int .i64 0 ∧ W = w) (fun _ _ => 0)
  case atStart => exact ⟨rfl, rfl⟩
  case round =>
    obtain ⟨rfl, rfl⟩ := hrel
    go_wp2
    go_ret
    exact ⟨rfl, Fr.refl _ _⟩
end Go.Proofs.YtmlmbahimklfiaaGreatDoor

/- Dex -/
namespace Go.Proofs.YtmlmbahimklfiaaGreatDoor
open Go.RowKit

set_option maxRecDepth 8000 in
set_option maxHeartbeats 6400000 in
theorem sames_calls (A A' : Option Addr) (l : List (Fd × Nat)) (c c' lo hi lo' hi' : Nat) (w : World) (h : RdP w lo hi A l) (hh : hi ≤ w.heap.size) (h' : RdP w lo' hi' A' l) (hh' : hi' ≤ w.heap.size) (hl : l.length ≤ 140737488355328) (hok : ∀ q ∈ l, q.1.Ok ∧ q.2 = 0) :
    Calls Tryz.prog 12 #[.slice A l.length c, .slice A' l.length c'] w fun e w' => e = .returned (.bool true) ∧ Fr NoB w w' := by
  have HR := Lib.hid h
  have HR2 := Lib.hid h'
  have HOK := Lib.hid hok
  clear h h' hok
  go_enter Tryz.func12, Tryz.ntmps12
  go_wp2
  go_loopw [5] (fun i W => ∃ k : Nat, k ≤ l.length ∧ i = .int .i64 (k : Int) ∧ Fr NoB w W) (fun i _ => l.length - (intOf i).toNat)
  case atStart => exact ⟨0, Nat.zero_le _, rfl, Fr.refl _ _⟩
  case round =>
    obtain ⟨k, hk, rfl, hf⟩ := hrel
    have F := Lib.hid hf
    clear hf
    by_cases hlt : k < l.length
    · have hki : (k : Int) < (l.length : Int) := by omega
      have hk0 : (0 : Int) ≤ (k : Int) := by omega
      obtain ⟨b, o, rfl, hb1, hb2, h4⟩ := HR.out (by omega)
      obtain ⟨b2, o2, rfl, hb3, hb4, h5⟩ := HR2.out (by omega)
      obtain ⟨pl, hcs, hrd, hrm⟩ := h4 k l[k] (List.getElem?_eq_getElem hlt)
      obtain ⟨pl2, hcs2, hrd2, hrm2⟩ := h5 k l[k] (List.getElem?_eq_getElem hlt)
      have hq := HOK.out l[k] (List.getElem_mem hlt)
      clear h4 h5
      generalize l[k] = q at hcs hrd hrm hcs2 hrd2 hrm2 hq
      obtain ⟨f, np⟩ := q
      simp only at hcs hrd hrm hcs2 hrd2 hrm2 hq
      obtain ⟨hfok, rfl⟩ := hq
      have hsd := fun W (G : Fr NoB wr W) => sameD_of f pl pl2 0 lo hi lo' hi' W hfok ((hrd.fr F.out hh (fun _ _ _ x => x)).fr G (Nat.le_trans hh F.out.size) (fun _ _ _ x => x)) ((hrm.fr F.out hh (fun _ _ _ x => x)).fr G (Nat.le_trans hh F.out.size) (fun _ _ _ x => x)) (Nat.le_trans (Nat.le_trans hh F.out.size) G.size) ((hrd2.fr F.out hh' (fun _ _ _ x => x)).fr G (Nat.le_trans hh' F.out.size) (fun _ _ _ x => x)) ((hrm2.fr F.out hh' (fun _ _ _ x => x)).fr G (Nat.le_trans hh' F.out.size) (fun _ _ _ x => x)) (Nat.le_trans (Nat.le_trans hh' F.out.size) G.size) (fun W2 _ => sames0_calls _ _ _ _ W2)
      have HC : ∀ W, Fr NoB wr W → ∀ j v, (dcells f pl 0)[j]? = some v → W.cell? ⟨b, o + k * 16 + j, none⟩ = some v := fun W G j v hv => ((F.out.then G).cell (p := ⟨b, o + k * 16 + j, none⟩) (by simp only; omega) (fun x => x)).trans (hcs j v hv)
      have HC2 : ∀ W, Fr NoB wr W → ∀ j v, (dcells f pl2 0)[j]? = some v → W.cell? ⟨b2, o2 + k * 16 + j, none⟩ = some v := fun W G j v hv => ((F.out.then G).cell (p := ⟨b2, o2 + k * 16 + j, none⟩) (by simp only; omega) (fun x => x)).trans (hcs2 j v hv)
      obtain ⟨z, kk, s, t, x, m, path, data, ow, ve, cv, ti, er, cver, ms⟩ := f
      obtain ⟨A1, c1, B1, d1, P1, e1⟩ := pl
      obtain ⟨A2, c2, B2, d2, P2, e2⟩ := pl2
      simp only [dval, dcells] at hsd
      have HRG : ∀ W, Fr NoB wr W → W.cell? ⟨b, o + k * 16, none⟩ = some (.int .i64 z) ∧ W.cell? ⟨b, o + k * 16 + 1, none⟩ = some (.int .u8 kk) ∧ W.cell? ⟨b, o + k * 16 + 2, none⟩ = some (.int .i64 s) ∧ W.cell? ⟨b, o + k * 16 + 3, none⟩ = some (.int .i64 t) ∧ W.cell? ⟨b, o + k * 16 + 4, none⟩ = some (.int .i64 x) ∧ W.cell? ⟨b, o + k * 16 + 5, none⟩ = some (.int .i64 m) ∧ W.cell? ⟨b, o + k * 16 + 6, none⟩ = some (.string ⟨path.toArray⟩) ∧ W.cell? ⟨b, o + k * 16 + 7, none⟩ = some (.slice A1 data.length c1) ∧ W.cell? ⟨b, o + k * 16 + 8, none⟩ = some (.int .i64 ow) ∧ W.cell? ⟨b, o + k * 16 + 9, none⟩ = some (.int .i64 ve) ∧ W.cell? ⟨b, o + k * 16 + 10, none⟩ = some (.int .i64 cv) ∧ W.cell? ⟨b, o + k * 16 + 11, none⟩ = some (.int .i64 ti) ∧ W.cell? ⟨b, o + k * 16 + 12, none⟩ = some (.int .i64 er) ∧ W.cell? ⟨b, o + k * 16 + 13, none⟩ = some (.int .i64 cver) ∧ W.cell? ⟨b, o + k * 16 + 14, none⟩ = some (.slice B1 ms.length d1) ∧ W.cell? ⟨b, o + k * 16 + 15, none⟩ = some (.slice P1 0 e1) ∧ W.cell? ⟨b2, o2 + k * 16, none⟩ = some (.int .i64 z) ∧ W.cell? ⟨b2, o2 + k * 16 + 1, none⟩ = some (.int .u8 kk) ∧ W.cell? ⟨b2, o2 + k * 16 + 2, none⟩ = some (.int .i64 s) ∧ W.cell? ⟨b2, o2 + k * 16 + 3, none⟩ = some (.int .i64 t) ∧ W.cell? ⟨b2, o2 + k * 16 + 4, none⟩ = some (.int .i64 x) ∧ W.cell? ⟨b2, o2 + k * 16 + 5, none⟩ = some (.int .i64 m) ∧ W.cell? ⟨b2, o2 + k * 16 + 6, none⟩ = some (.string ⟨path.toArray⟩) ∧ W.cell? ⟨b2, o2 + k * 16 + 7, none⟩ = some (.slice A2 data.length c2) ∧ W.cell? ⟨b2, o2 + k * 16 + 8, none⟩ = some (.int .i64 ow) ∧ W.cell? ⟨b2, o2 + k * 16 + 9, none⟩ = some (.int .i64 ve) ∧ W.cell? ⟨b2, o2 + k * 16 + 10, none⟩ = some (.int .i64 cv) ∧ W.cell? ⟨b2, o2 + k * 16 + 11, none⟩ = some (.int .i64 ti) ∧ W.cell? ⟨b2, o2 + k * 16 + 12, none⟩ = some (.int .i64 er) ∧ W.cell? ⟨b2, o2 + k * 16 + 13, none⟩ = some (.int .i64 cver) ∧ W.cell? ⟨b2, o2 + k * 16 + 14, none⟩ = some (.slice B2 ms.length d2) ∧ W.cell? ⟨b2, o2 + k * 16 + 15, none⟩ = some (.slice P2 0 e2) := fun W G =>
        ⟨HC W G 0 _ rfl, HC W G 1 _ rfl, HC W G 2 _ rfl, HC W G 3 _ rfl, HC W G 4 _ rfl, HC W G 5 _ rfl, HC W G 6 _ rfl, HC W G 7 _ rfl, HC W G 8 _ rfl, HC W G 9 _ rfl, HC W G 10 _ rfl, HC W G 11 _ rfl, HC W G 12 _ rfl, HC W G 13 _ rfl, HC W G 14 _ rfl, HC W G 15 _ rfl, HC2 W G 0 _ rfl, HC2 W G 1 _ rfl, HC2 W G 2 _ rfl, HC2 W G 3 _ rfl, HC2 W G 4 _ rfl, HC2 W G 5 _ rfl, HC2 W G 6 _ rfl, HC2 W G 7 _ rfl, HC2 W G 8 _ rfl, HC2 W G 9 _ rfl, HC2 W G 10 _ rfl, HC2 W G 11 _ rfl, HC2 W G 12 _ rfl, HC2 W G 13 _ rfl, HC2 W G 14 _ rfl, HC2 W G 15 _ rfl⟩
      have HRGH := Lib.hid HRG
      have HSD := Lib.hid hsd
      clear HRG hsd HC HC2 hcs hcs2 hrd hrd2 hrm hrm2 hfok HR HR2 HOK
      go_wp2
      go_region_held3 (fun W => W.cell? ⟨b, o + k * 16, none⟩ = some (.int .i64 z) ∧ W.cell? ⟨b, o + k * 16 + 1, none⟩ = some (.int .u8 kk) ∧ W.cell? ⟨b, o + k * 16 + 2, none⟩ = some (.int .i64 s) ∧ W.cell? ⟨b, o + k * 16 + 3, none⟩ = some (.int .i64 t) ∧ W.cell? ⟨b, o + k * 16 + 4, none⟩ = some (.int .i64 x) ∧ W.cell? ⟨b, o + k * 16 + 5, none⟩ = some (.int .i64 m) ∧ W.cell? ⟨b, o + k * 16 + 6, none⟩ = some (.string ⟨path.toArray⟩) ∧ W.cell? ⟨b, o + k * 16 + 7, none⟩ = some (.slice A1 data.length c1) ∧ W.cell? ⟨b, o + k * 16 + 8, none⟩ = some (.int .i64 ow) ∧ W.cell? ⟨b, o + k * 16 + 9, none⟩ = some (.int .i64 ve) ∧ W.cell? ⟨b, o + k * 16 + 10, none⟩ = some (.int .i64 cv) ∧ W.cell? ⟨b, o + k * 16 + 11, none⟩ = some (.int .i64 ti) ∧ W.cell? ⟨b, o + k * 16 + 12, none⟩ = some (.int .i64 er) ∧ W.cell? ⟨b, o + k * 16 + 13, none⟩ = some (.int .i64 cver) ∧ W.cell? ⟨b, o + k * 16 + 14, none⟩ = some (.slice B1 ms.length d1) ∧ W.cell? ⟨b, o + k * 16 + 15, none⟩ = some (.slice P1 0 e1) ∧ W.cell? ⟨b2, o2 + k * 16, none⟩ = some (.int .i64 z) ∧ W.cell? ⟨b2, o2 + k * 16 + 1, none⟩ = some (.int .u8 kk) ∧ W.cell? ⟨b2, o2 + k * 16 + 2, none⟩ = some (.int .i64 s) ∧ W.cell? ⟨b2, o2 + k * 16 + 3, none⟩ = some (.int .i64 t) ∧ W.cell? ⟨b2, o2 + k * 16 + 4, none⟩ = some (.int .i64 x) ∧ W.cell? ⟨b2, o2 + k * 16 + 5, none⟩ = some (.int .i64 m) ∧ W.cell? ⟨b2, o2 + k * 16 + 6, none⟩ = some (.string ⟨path.toArray⟩) ∧ W.cell? ⟨b2, o2 + k * 16 + 7, none⟩ = some (.slice A2 data.length c2) ∧ W.cell? ⟨b2, o2 + k * 16 + 8, none⟩ = some (.int .i64 ow) ∧ W.cell? ⟨b2, o2 + k * 16 + 9, none⟩ = some (.int .i64 ve) ∧ W.cell? ⟨b2, o2 + k * 16 + 10, none⟩ = some (.int .i64 cv) ∧ W.cell? ⟨b2, o2 + k * 16 + 11, none⟩ = some (.int .i64 ti) ∧ W.cell? ⟨b2, o2 + k * 16 + 12, none⟩ = some (.int .i64 er) ∧ W.cell? ⟨b2, o2 + k * 16 + 13, none⟩ = some (.int .i64 cver) ∧ W.cell? ⟨b2, o2 + k * 16 + 14, none⟩ = some (.slice B2 ms.length d2) ∧ W.cell? ⟨b2, o2 + k * 16 + 15, none⟩ = some (.slice P2 0 e2)) (first
          | with_reducible exact HRGH.out _ ((Fr.refl NoB wr).drew)
          | with_reducible exact HRGH.out _ (((Fr.refl NoB wr).drew).then f2)) (first
          | ((with_reducible refine (HSD.out _ ((Fr.refl NoB wr).drew)).mono ?_); rintro e w2 ⟨rfl, f2⟩))
      all_goals
        go_wp2
        go_roundw
        case rel => exact ⟨k + 1, by omega, by go_num, (F.out.drew).then f2⟩
        case measure => simp [intOf]; omega
    · obtain rfl : k = l.length := by omega
      go_wp2
      go_ret
      exact ⟨rfl, F.out⟩
theorem sameD_calls (f : Fd) (pl pl' : Pl) (l : List (Fd × Nat)) (lo hi lo' hi' : Nat) (w : World) (hf : f.Ok) (hok : ∀ q ∈ l, q.1.Ok ∧ q.2 = 0) (hl : l.length ≤ 140737488355328) (hD : RdD w lo hi f pl l) (hh : hi ≤ w.heap.size) (hD' : RdD w lo' hi' f pl' l) (hh' : hi' ≤ w.heap.size) :
    Calls Tryz.prog 33 #[dval f pl l.length, dval f pl' l.length] w fun e w' => e = .returned (.bool true) ∧ Fr NoB w w' :=
  sameD_of f pl pl' l.length lo hi lo' hi' w hf hD.data hD.ms hh hD'.data hD'.ms hh' fun W F => sames_calls pl.P pl'.P l pl.e pl'.e lo hi lo' hi' W (hD.parts.fr F hh (fun _ _ _ x => x)) (Nat.le_trans hh F.size) (hD'.parts.fr F hh' (fun _ _ _ x => x)) (Nat.le_trans hh' F.size) hl hok
end Go.Proofs.YtmlmbahimklfiaaGreatDoor
