/-
  Deh: Deg, Deh.
-/
import Derived.Test.YtmlmbahimklfiaaGreatDoorDee
import Derived.Test.YtmlmbahimklfiaaGreatDoorDpa
import Derived.Laws.Rows
/- Deg -/
namespace Go.Proofs.YtmlmbahimklfiaaGreatDoor
open Go.RowKit

/-- A writer that was handed in, a deed's box beside it. -/
structure BW (w0 w : World) (pw : Nat) (G0 G : Option Nat) (L : List UInt8) (b : Nat) (cs : Array Value) : Prop where
  a : Wtr w pw G L
  fr : Fr (WF pw G0) w0 w
  g : ∀ k, WF pw G k → WF pw G0 k ∨ w0.heap.size ≤ k
  bx : w.heap[b]? = some (.cells cs 31 (0, 0))
  nb : ¬ WF pw G b
theorem BW.next {w0 w w1 : World} {pw b : Nat} {G0 G G1 : Option Nat} {L L' : List UInt8} {cs : Array Value} (h : BW w0 w pw G0 G L b cs) (a : Wtr w1 pw G1 L') (f : Fr (WF pw G) w w1) (g : ∀ k, WF pw G1 k → WF pw G k ∨ w.heap.size ≤ k) : BW w0 w1 pw G0 G1 L' b cs :=
  ⟨a, h.fr.trans f fun k hk hx => (h.g k hx).elim id (fun hx => absurd hx (by omega)), fun k hk => (g k hk).elim (h.g k) (fun hx => .inr (Nat.le_trans h.fr.size hx)), f.at_ h.bx h.nb, fun hx => (g b hx).elim h.nb (fun hx => by have := Lib.lt_of_heap h.bx; omega)⟩
theorem BW.put {w0 w : World} {pw b : Nat} {G0 G : Option Nat} {L : List UInt8} {cs : Array Value} (h : BW w0 w pw G0 G L b cs) : Put pw G0 L w0 w := ⟨G, h.a, h.fr, h.g⟩
theorem BW.start {w : World} {pw : Nat} {G : Option Nat} {L : List UInt8} (h : Wtr w pw G L) (hp : ∀ k, WF pw G k → k < w.heap.size) (cs : Array Value) : BW w (w.alloc (.cells cs 31)) pw G G L w.heap.size cs :=
  ⟨h.fr ((Fr.refl NoB w).alloc _) (fun _ _ x => x), (Fr.refl _ w).alloc _, fun k hk => .inl hk, heap_alloc_new w _, fun hx => by have := hp _ hx; omega⟩
theorem BW.cell {w0 w : World} {pw b : Nat} {G0 G : Option Nat} {L : List UInt8} {cs : Array Value} (h : BW w0 w pw G0 G L b cs) (i : Nat) (v : Value) (hv : cs[i]? = some v) : w.cell? ⟨b, i, none⟩ = some v := (cells_of h.bx i).1.trans hv

set_option maxHeartbeats 3200000 in
set_option maxRecDepth 8000 in
theorem body1_calls (f : Fd) (p : Pl) (np pw : Nat) (G : Option Nat) (L : List UInt8) (lo hi : Nat) (w : World) (hf : f.Ok) (hH : Has w) (hw : Wtr w pw G L) (hp : ∀ k, WF pw G k → k < w.heap.size) (hpl : f.path.length ≤ 1000 ∧ f.data.length ≤ 1000) (hlim : L.length ≤ 1000000) (hD : Rd w lo hi p.A f.data) (hh : hi ≤ w.heap.size) (hpn : ∀ k, lo ≤ k → k < hi → ¬ WF pw G k) (hk : f.k = 1) :
    Calls Tryz.prog 50 #[.pointer (some ⟨pw, 0, none⟩), dval f p np] w fun e w' => e = .returned (.tuple #[]) ∧ Put pw G (L ++ bodyB f) w w' := by
  have HF := Lib.hid hf
  have HP := Lib.hid hpl
  have HL := Lib.hid hlim
  have HD := Lib.hid hD
  have HPN := Lib.hid hpn
  obtain ⟨z, k, s, t, x, m, path, data, ow, ve, cv, ti, er, cver, ms⟩ := f
  obtain ⟨A, c, B, d, P, e'⟩ := p
  simp only at hk
  subst hk
  simp only at HP HD
  have hcell : (w.alloc (.cells (dcells ⟨z, 1, s, t, x, m, path, data, ow, ve, cv, ti, er, (cver, ms)⟩ ⟨A, c, B, d, P, e'⟩ np) 31)).cell? ⟨0, 1, none⟩ = some (.int .i64 23) := hH.box _ _ _ 1 (by decide)
  have b1 : bits .and .i64 23 1 = 1 := by decide
  have b2 : bits .and .i64 23 2 = 2 := by decide
  have b4 : bits .and .i64 23 4 = 4 := by decide
  have b8 : bits .and .i64 23 8 = 0 := by decide
  have b16 : bits .and .i64 23 16 = 16 := by decide
  have b32 : bits .and .i64 23 32 = 0 := by decide
  have b64 : bits .and .i64 23 64 = 0 := by decide
  have b128 : bits .and .i64 23 128 = 0 := by decide
  have b256 : bits .and .i64 23 256 = 0 := by decide
  have T0 := Lib.hid (BW.start hw hp (dcells ⟨z, 1, s, t, x, m, path, data, ow, ve, cv, ti, er, (cver, ms)⟩ ⟨A, c, B, d, P, e'⟩ np))
  simp only [dval, dcells] at *
  clear hH hf hpl hlim hD hpn hp hw
  go_enter Tryz.func50, Tryz.ntmps50
  go_wp2_with (fail)
  refine (wText pw G (L) ⟨path.toArray⟩ _ T0.out.a (by have := HL.out; have := HP.out; (try simp only [mk_size]); omega)).mono ?_
  rintro e w1 ⟨rfl, G1, a1, f1, g1⟩
  rw [show (⟨path.toArray⟩ : ByteArray).data.toList = path by simp] at a1
  have T1 := Lib.hid (T0.out.next a1 f1 g1)
  clear a1 f1 g1 T0
  have d1 := T1.out.cell 7 _ rfl
  go_wp2_with (fail)
  refine (wBytes pw G1 (L ++ textB path) data A c lo hi _ T1.out.a (by have := HL.out; have := HP.out; have l0 := textB_len path; (try simp only [List.length_append]); omega) (HD.out.fr T1.out.fr hh HPN.out) (Nat.le_trans hh T1.out.fr.size) (fun k h1 h2 h3 => (T1.out.g k h3).elim (HPN.out k h1 h2) (fun h => by omega))).mono ?_
  rintro e w2 ⟨rfl, G2, a2, f2, g2⟩
  have T2 := Lib.hid (T1.out.next a2 f2 g2)
  clear a2 f2 g2 T1
  have d2 := T2.out.cell 8 _ rfl
  go_wp2_with (fail)
  refine (wInt pw G2 (L ++ textB path ++ textB data) ow _ HF.out.ow.1 HF.out.ow.2 T2.out.a (by have := HL.out; have := HP.out; have l0 := textB_len path; have l1 := textB_len data; (try simp only [List.length_append]); omega)).mono ?_
  rintro e w3 ⟨rfl, G3, a3, f3, g3⟩
  have T3 := Lib.hid (T2.out.next a3 f3 g3)
  clear a3 f3 g3 T2
  have d3 := T3.out.cell 10 _ rfl
  go_wp2_with (fail)
  refine (wInt pw G3 (L ++ textB path ++ textB data ++ intB ow) cv _ HF.out.cv.1 HF.out.cv.2 T3.out.a (by have := HL.out; have := HP.out; have l0 := textB_len path; have l1 := textB_len data; have l2 := intB_len ow; (try simp only [List.length_append]); omega)).mono ?_
  rintro e w4 ⟨rfl, G4, a4, f4, g4⟩
  have T4 := Lib.hid (T3.out.next a4 f4 g4)
  clear a4 f4 g4 T3
  go_wp2
  go_end0
  exact ⟨rfl, T4.out.put.cast (by simp [bodyB, List.append_assoc])⟩
set_option maxHeartbeats 3200000 in
set_option maxRecDepth 8000 in
theorem body2_calls (f : Fd) (p : Pl) (np pw : Nat) (G : Option Nat) (L : List UInt8) (lo hi : Nat) (w : World) (hf : f.Ok) (hH : Has w) (hw : Wtr w pw G L) (hp : ∀ k, WF pw G k → k < w.heap.size) (hpl : f.path.length ≤ 1000 ∧ f.data.length ≤ 1000) (hlim : L.length ≤ 1000000) (hD : Rd w lo hi p.A f.data) (_hh : hi ≤ w.heap.size) (hpn : ∀ k, lo ≤ k → k < hi → ¬ WF pw G k) (hk : f.k = 2) :
    Calls Tryz.prog 50 #[.pointer (some ⟨pw, 0, none⟩), dval f p np] w fun e w' => e = .returned (.tuple #[]) ∧ Put pw G (L ++ bodyB f) w w' := by
  have HF := Lib.hid hf
  have HP := Lib.hid hpl
  have HL := Lib.hid hlim
  have HD := Lib.hid hD
  have HPN := Lib.hid hpn
  obtain ⟨z, k, s, t, x, m, path, data, ow, ve, cv, ti, er, cver, ms⟩ := f
  obtain ⟨A, c, B, d, P, e'⟩ := p
  simp only at hk
  subst hk
  simp only at HP HD
  have hcell : (w.alloc (.cells (dcells ⟨z, 2, s, t, x, m, path, data, ow, ve, cv, ti, er, (cver, ms)⟩ ⟨A, c, B, d, P, e'⟩ np) 31)).cell? ⟨0, 2, none⟩ = some (.int .i64 17) := hH.box _ _ _ 2 (by decide)
  have b1 : bits .and .i64 17 1 = 1 := by decide
  have b2 : bits .and .i64 17 2 = 0 := by decide
  have b4 : bits .and .i64 17 4 = 0 := by decide
  have b8 : bits .and .i64 17 8 = 0 := by decide
  have b16 : bits .and .i64 17 16 = 16 := by decide
  have b32 : bits .and .i64 17 32 = 0 := by decide
  have b64 : bits .and .i64 17 64 = 0 := by decide
  have b128 : bits .and .i64 17 128 = 0 := by decide
  have b256 : bits .and .i64 17 256 = 0 := by decide
  have T0 := Lib.hid (BW.start hw hp (dcells ⟨z, 2, s, t, x, m, path, data, ow, ve, cv, ti, er, (cver, ms)⟩ ⟨A, c, B, d, P, e'⟩ np))
  simp only [dval, dcells] at *
  clear hH hf hpl hlim hD hpn hp hw
  go_enter Tryz.func50, Tryz.ntmps50
  go_wp2_with (fail)
  refine (wText pw G (L) ⟨path.toArray⟩ _ T0.out.a (by have := HL.out; have := HP.out; (try simp only [mk_size]); omega)).mono ?_
  rintro e w1 ⟨rfl, G1, a1, f1, g1⟩
  rw [show (⟨path.toArray⟩ : ByteArray).data.toList = path by simp] at a1
  have T1 := Lib.hid (T0.out.next a1 f1 g1)
  clear a1 f1 g1 T0
  have d1 := T1.out.cell 10 _ rfl
  go_wp2_with (fail)
  refine (wInt pw G1 (L ++ textB path) cv _ HF.out.cv.1 HF.out.cv.2 T1.out.a (by have := HL.out; have := HP.out; have l0 := textB_len path; (try simp only [List.length_append]); omega)).mono ?_
  rintro e w2 ⟨rfl, G2, a2, f2, g2⟩
  have T2 := Lib.hid (T1.out.next a2 f2 g2)
  clear a2 f2 g2 T1
  go_wp2
  go_end0
  exact ⟨rfl, T2.out.put.cast (by simp [bodyB, List.append_assoc])⟩
set_option maxHeartbeats 3200000 in
set_option maxRecDepth 8000 in
theorem body3_calls (f : Fd) (p : Pl) (np pw : Nat) (G : Option Nat) (L : List UInt8) (lo hi : Nat) (w : World) (hf : f.Ok) (hH : Has w) (hw : Wtr w pw G L) (hp : ∀ k, WF pw G k → k < w.heap.size) (hpl : f.path.length ≤ 1000 ∧ f.data.length ≤ 1000) (hlim : L.length ≤ 1000000) (hD : Rd w lo hi p.A f.data) (hh : hi ≤ w.heap.size) (hpn : ∀ k, lo ≤ k → k < hi → ¬ WF pw G k) (hk : f.k = 3) :
    Calls Tryz.prog 50 #[.pointer (some ⟨pw, 0, none⟩), dval f p np] w fun e w' => e = .returned (.tuple #[]) ∧ Put pw G (L ++ bodyB f) w w' := by
  have HF := Lib.hid hf
  have HP := Lib.hid hpl
  have HL := Lib.hid hlim
  have HD := Lib.hid hD
  have HPN := Lib.hid hpn
  obtain ⟨z, k, s, t, x, m, path, data, ow, ve, cv, ti, er, cver, ms⟩ := f
  obtain ⟨A, c, B, d, P, e'⟩ := p
  simp only at hk
  subst hk
  simp only at HP HD
  have hcell : (w.alloc (.cells (dcells ⟨z, 3, s, t, x, m, path, data, ow, ve, cv, ti, er, (cver, ms)⟩ ⟨A, c, B, d, P, e'⟩ np) 31)).cell? ⟨0, 3, none⟩ = some (.int .i64 11) := hH.box _ _ _ 3 (by decide)
  have b1 : bits .and .i64 11 1 = 1 := by decide
  have b2 : bits .and .i64 11 2 = 2 := by decide
  have b4 : bits .and .i64 11 4 = 0 := by decide
  have b8 : bits .and .i64 11 8 = 8 := by decide
  have b16 : bits .and .i64 11 16 = 0 := by decide
  have b32 : bits .and .i64 11 32 = 0 := by decide
  have b64 : bits .and .i64 11 64 = 0 := by decide
  have b128 : bits .and .i64 11 128 = 0 := by decide
  have b256 : bits .and .i64 11 256 = 0 := by decide
  have T0 := Lib.hid (BW.start hw hp (dcells ⟨z, 3, s, t, x, m, path, data, ow, ve, cv, ti, er, (cver, ms)⟩ ⟨A, c, B, d, P, e'⟩ np))
  simp only [dval, dcells] at *
  clear hH hf hpl hlim hD hpn hp hw
  go_enter Tryz.func50, Tryz.ntmps50
  go_wp2_with (fail)
  refine (wText pw G (L) ⟨path.toArray⟩ _ T0.out.a (by have := HL.out; have := HP.out; (try simp only [mk_size]); omega)).mono ?_
  rintro e w1 ⟨rfl, G1, a1, f1, g1⟩
  rw [show (⟨path.toArray⟩ : ByteArray).data.toList = path by simp] at a1
  have T1 := Lib.hid (T0.out.next a1 f1 g1)
  clear a1 f1 g1 T0
  have d1 := T1.out.cell 7 _ rfl
  go_wp2_with (fail)
  refine (wBytes pw G1 (L ++ textB path) data A c lo hi _ T1.out.a (by have := HL.out; have := HP.out; have l0 := textB_len path; (try simp only [List.length_append]); omega) (HD.out.fr T1.out.fr hh HPN.out) (Nat.le_trans hh T1.out.fr.size) (fun k h1 h2 h3 => (T1.out.g k h3).elim (HPN.out k h1 h2) (fun h => by omega))).mono ?_
  rintro e w2 ⟨rfl, G2, a2, f2, g2⟩
  have T2 := Lib.hid (T1.out.next a2 f2 g2)
  clear a2 f2 g2 T1
  have d2 := T2.out.cell 9 _ rfl
  go_wp2_with (fail)
  refine (wInt pw G2 (L ++ textB path ++ textB data) ve _ HF.out.ve.1 HF.out.ve.2 T2.out.a (by have := HL.out; have := HP.out; have l0 := textB_len path; have l1 := textB_len data; (try simp only [List.length_append]); omega)).mono ?_
  rintro e w3 ⟨rfl, G3, a3, f3, g3⟩
  have T3 := Lib.hid (T2.out.next a3 f3 g3)
  clear a3 f3 g3 T2
  go_wp2
  go_end0
  exact ⟨rfl, T3.out.put.cast (by simp [bodyB, List.append_assoc])⟩
set_option maxHeartbeats 3200000 in
set_option maxRecDepth 8000 in
theorem body4_calls (f : Fd) (p : Pl) (np pw : Nat) (G : Option Nat) (L : List UInt8) (lo hi : Nat) (w : World) (hf : f.Ok) (hH : Has w) (hw : Wtr w pw G L) (hp : ∀ k, WF pw G k → k < w.heap.size) (hpl : f.path.length ≤ 1000 ∧ f.data.length ≤ 1000) (hlim : L.length ≤ 1000000) (hD : Rd w lo hi p.A f.data) (_hh : hi ≤ w.heap.size) (hpn : ∀ k, lo ≤ k → k < hi → ¬ WF pw G k) (hk : f.k = 4) :
    Calls Tryz.prog 50 #[.pointer (some ⟨pw, 0, none⟩), dval f p np] w fun e w' => e = .returned (.tuple #[]) ∧ Put pw G (L ++ bodyB f) w w' := by
  have HF := Lib.hid hf
  have HP := Lib.hid hpl
  have HL := Lib.hid hlim
  have HD := Lib.hid hD
  have HPN := Lib.hid hpn
  obtain ⟨z, k, s, t, x, m, path, data, ow, ve, cv, ti, er, cver, ms⟩ := f
  obtain ⟨A, c, B, d, P, e'⟩ := p
  simp only at hk
  subst hk
  simp only at HP HD
  have hcell : (w.alloc (.cells (dcells ⟨z, 4, s, t, x, m, path, data, ow, ve, cv, ti, er, (cver, ms)⟩ ⟨A, c, B, d, P, e'⟩ np) 31)).cell? ⟨0, 4, none⟩ = some (.int .i64 32) := hH.box _ _ _ 4 (by decide)
  have b1 : bits .and .i64 32 1 = 0 := by decide
  have b2 : bits .and .i64 32 2 = 0 := by decide
  have b4 : bits .and .i64 32 4 = 0 := by decide
  have b8 : bits .and .i64 32 8 = 0 := by decide
  have b16 : bits .and .i64 32 16 = 0 := by decide
  have b32 : bits .and .i64 32 32 = 32 := by decide
  have b64 : bits .and .i64 32 64 = 0 := by decide
  have b128 : bits .and .i64 32 128 = 0 := by decide
  have b256 : bits .and .i64 32 256 = 0 := by decide
  have T0 := Lib.hid (BW.start hw hp (dcells ⟨z, 4, s, t, x, m, path, data, ow, ve, cv, ti, er, (cver, ms)⟩ ⟨A, c, B, d, P, e'⟩ np))
  simp only [dval, dcells] at *
  clear hH hf hpl hlim hD hpn hp hw
  go_enter Tryz.func50, Tryz.ntmps50
  go_wp2_with (fail)
  refine (wInt pw G (L) ti _ HF.out.ti.1 HF.out.ti.2 T0.out.a (by have := HL.out; have := HP.out; (try simp only [List.length_append, mk_size]); omega)).mono ?_
  rintro e w1 ⟨rfl, G1, a1, f1, g1⟩
  have T1 := Lib.hid (T0.out.next a1 f1 g1)
  clear a1 f1 g1 T0
  go_wp2
  go_end0
  exact ⟨rfl, T1.out.put.cast (by simp [bodyB])⟩
set_option maxHeartbeats 3200000 in
set_option maxRecDepth 8000 in
theorem body6_calls (f : Fd) (p : Pl) (np pw : Nat) (G : Option Nat) (L : List UInt8) (lo hi : Nat) (w : World) (hf : f.Ok) (hH : Has w) (hw : Wtr w pw G L) (hp : ∀ k, WF pw G k → k < w.heap.size) (hpl : f.path.length ≤ 1000 ∧ f.data.length ≤ 1000) (hlim : L.length ≤ 1000000) (hD : Rd w lo hi p.A f.data) (_hh : hi ≤ w.heap.size) (hpn : ∀ k, lo ≤ k → k < hi → ¬ WF pw G k) (hk : f.k = 6) :
    Calls Tryz.prog 50 #[.pointer (some ⟨pw, 0, none⟩), dval f p np] w fun e w' => e = .returned (.tuple #[]) ∧ Put pw G (L ++ bodyB f) w w' := by
  have HF := Lib.hid hf
  have HP := Lib.hid hpl
  have HL := Lib.hid hlim
  have HD := Lib.hid hD
  have HPN := Lib.hid hpn
  obtain ⟨z, k, s, t, x, m, path, data, ow, ve, cv, ti, er, cver, ms⟩ := f
  obtain ⟨A, c, B, d, P, e'⟩ := p
  simp only at hk
  subst hk
  simp only at HP HD
  have hcell : (w.alloc (.cells (dcells ⟨z, 6, s, t, x, m, path, data, ow, ve, cv, ti, er, (cver, ms)⟩ ⟨A, c, B, d, P, e'⟩ np) 31)).cell? ⟨0, 6, none⟩ = some (.int .i64 0) := hH.box _ _ _ 6 (by decide)
  have b1 : bits .and .i64 0 1 = 0 := by decide
  have b2 : bits .and .i64 0 2 = 0 := by decide
  have b4 : bits .and .i64 0 4 = 0 := by decide
  have b8 : bits .and .i64 0 8 = 0 := by decide
  have b16 : bits .and .i64 0 16 = 0 := by decide
  have b32 : bits .and .i64 0 32 = 0 := by decide
  have b64 : bits .and .i64 0 64 = 0 := by decide
  have b128 : bits .and .i64 0 128 = 0 := by decide
  have b256 : bits .and .i64 0 256 = 0 := by decide
  have T0 := Lib.hid (BW.start hw hp (dcells ⟨z, 6, s, t, x, m, path, data, ow, ve, cv, ti, er, (cver, ms)⟩ ⟨A, c, B, d, P, e'⟩ np))
  simp only [dval, dcells] at *
  clear hH hf hpl hlim hD hpn hp hw
  go_enter Tryz.func50, Tryz.ntmps50
  go_wp2_with (fail)
  go_end0
  exact ⟨rfl, by have h := T0.out.put; rw [show bodyB _ = [] from rfl, List.append_nil]; exact h⟩
set_option maxHeartbeats 3200000 in
set_option maxRecDepth 8000 in
theorem body9_calls (f : Fd) (p : Pl) (np pw : Nat) (G : Option Nat) (L : List UInt8) (lo hi : Nat) (w : World) (hf : f.Ok) (hH : Has w) (hw : Wtr w pw G L) (hp : ∀ k, WF pw G k → k < w.heap.size) (hpl : f.path.length ≤ 1000 ∧ f.data.length ≤ 1000) (hlim : L.length ≤ 1000000) (hD : Rd w lo hi p.A f.data) (_hh : hi ≤ w.heap.size) (hpn : ∀ k, lo ≤ k → k < hi → ¬ WF pw G k) (hk : f.k = 9) :
    Calls Tryz.prog 50 #[.pointer (some ⟨pw, 0, none⟩), dval f p np] w fun e w' => e = .returned (.tuple #[]) ∧ Put pw G (L ++ bodyB f) w w' := by
  have HF := Lib.hid hf
  have HP := Lib.hid hpl
  have HL := Lib.hid hlim
  have HD := Lib.hid hD
  have HPN := Lib.hid hpn
  obtain ⟨z, k, s, t, x, m, path, data, ow, ve, cv, ti, er, cver, ms⟩ := f
  obtain ⟨A, c, B, d, P, e'⟩ := p
  simp only at hk
  subst hk
  simp only at HP HD
  have hcell : (w.alloc (.cells (dcells ⟨z, 9, s, t, x, m, path, data, ow, ve, cv, ti, er, (cver, ms)⟩ ⟨A, c, B, d, P, e'⟩ np) 31)).cell? ⟨0, 9, none⟩ = some (.int .i64 64) := hH.box _ _ _ 9 (by decide)
  have b1 : bits .and .i64 64 1 = 0 := by decide
  have b2 : bits .and .i64 64 2 = 0 := by decide
  have b4 : bits .and .i64 64 4 = 0 := by decide
  have b8 : bits .and .i64 64 8 = 0 := by decide
  have b16 : bits .and .i64 64 16 = 0 := by decide
  have b32 : bits .and .i64 64 32 = 0 := by decide
  have b64 : bits .and .i64 64 64 = 64 := by decide
  have b128 : bits .and .i64 64 128 = 0 := by decide
  have b256 : bits .and .i64 64 256 = 0 := by decide
  have T0 := Lib.hid (BW.start hw hp (dcells ⟨z, 9, s, t, x, m, path, data, ow, ve, cv, ti, er, (cver, ms)⟩ ⟨A, c, B, d, P, e'⟩ np))
  simp only [dval, dcells] at *
  clear hH hf hpl hlim hD hpn hp hw
  go_enter Tryz.func50, Tryz.ntmps50
  go_wp2_with (fail)
  refine (wInt pw G (L) er _ HF.out.er.1 HF.out.er.2 T0.out.a (by have := HL.out; have := HP.out; (try simp only [List.length_append, mk_size]); omega)).mono ?_
  rintro e w1 ⟨rfl, G1, a1, f1, g1⟩
  have T1 := Lib.hid (T0.out.next a1 f1 g1)
  clear a1 f1 g1 T0
  go_wp2
  go_end0
  exact ⟨rfl, T1.out.put.cast (by simp [bodyB])⟩
end Go.Proofs.YtmlmbahimklfiaaGreatDoor

/- Deh -/
namespace Go.Proofs.YtmlmbahimklfiaaGreatDoor
open Go.RowKit

theorem BW.keep {w0 w w1 : World} {pw b : Nat} {G0 G : Option Nat} {L : List UInt8} {cs : Array Value} (h : BW w0 w pw G0 G L b cs) (f : Fr NoB w w1) : BW w0 w1 pw G0 G L b cs :=
  ⟨h.a.fr f (fun _ _ x => x), h.fr.trans f fun _ _ x => x.elim, h.g, f.at_ h.bx (fun x => x), h.nb⟩
theorem BW.cast {w0 w : World} {pw b : Nat} {G0 G : Option Nat} {L L' : List UInt8} {cs : Array Value} (h : BW w0 w pw G0 G L b cs) (e : L = L') : BW w0 w pw G0 G L' b cs := e ▸ h
theorem wByteI (p : Nat) (G : Option Nat) (l : List UInt8) (k : Int) (w : World) (h0 : 0 ≤ k ∧ k ≤ 255) (h : Wtr w p G l) (hlim : l.length + 1 ≤ 140737488355328) :
    Calls Tryz.prog 48 #[.pointer (some ⟨p, 0, none⟩), .int .u8 k] w fun e w' => e = .returned (.tuple #[]) ∧ Put p G (l ++ [kindB k]) w w' := by
  have h2 := wByte p G l (kindB k) w h hlim
  rw [kindB_nat h0.1 h0.2] at h2
  exact h2
theorem Has.frw {M : Nat → Prop} {w w' : World} (h : Has w) (f : Fr M w w') (hm : ¬ M 0) : Has w' := ⟨Nat.lt_of_lt_of_le h.1 f.size, fun i hi => (f.cell (p := ⟨0, i, none⟩) h.1 hm).trans (h.2 i hi)⟩
theorem bodyp_calls {last : Int} (q : Fd × Nat) (hq : IsPart last q) (hl : last ≤ 3) (p : Pl) (pw : Nat) (G : Option Nat) (L : List UInt8) (lo hi : Nat) (w : World) (hf : q.1.Ok) (hH : Has w) (hw : Wtr w pw G L) (hp : ∀ k, WF pw G k → k < w.heap.size) (hlim : L.length ≤ 1000000) (hD : Rd w lo hi p.A q.1.data) (hh : hi ≤ w.heap.size) (hpn : ∀ k, lo ≤ k → k < hi → ¬ WF pw G k) :
    Calls Tryz.prog 50 #[.pointer (some ⟨pw, 0, none⟩), dval q.1 p q.2] w fun e w' => e = .returned (.tuple #[]) ∧ Put pw G (L ++ bodyB q.1) w w' := by
  obtain ⟨f, np⟩ := q
  obtain ⟨h1, h2, -, -⟩ := hq.low hl
  have hfit := hq.2.2.2.2.2.1
  simp only at *
  rcases (show f.k = 1 ∨ f.k = 2 ∨ f.k = 3 by omega) with h | h | h
  · have hx := hfit.of1 h
    exact body1_calls f p np pw G L lo hi w hf hH hw hp ⟨by have := pchk_len hx.2.2.2.2.2.2.1; omega, by have := hx.2.2.2.2.2.2.2.1; omega⟩ hlim hD hh hpn h
  · have hx := hfit.of2 h
    exact body2_calls f p np pw G L lo hi w hf hH hw hp ⟨by have := pchk_len hx.2.2.2.2.2.2.2.2.1; omega, by rw [hx.2.1]; simp⟩ hlim hD hh hpn h
  · have hx := hfit.of3 h
    exact body3_calls f p np pw G L lo hi w hf hH hw hp ⟨by have := pchk_len hx.2.2.2.2.2.2.2.1; omega, by have := hx.2.2.2.2.2.2.2.2.1; omega⟩ hlim hD hh hpn h

set_option maxHeartbeats 3200000 in
set_option maxRecDepth 8000 in
theorem body7_calls (f : Fd) (p : Pl) (np pw : Nat) (G : Option Nat) (L : List UInt8) (lo hi : Nat) (w : World) (hf : f.Ok) (hH : Has w) (hw : Wtr w pw G L) (hp : ∀ k, WF pw G k → k < w.heap.size) (hlim : L.length ≤ 1000000) (hM : RdM w lo hi p.B f.c.2) (hh : hi ≤ w.heap.size) (hpn : ∀ k, lo ≤ k → k < hi → ¬ WF pw G k) (hck : chk f.c.1 f.c.2 = 0) (hk : f.k = 7) :
    Calls Tryz.prog 50 #[.pointer (some ⟨pw, 0, none⟩), dval f p np] w fun e w' => e = .returned (.tuple #[]) ∧ Put pw G (L ++ bodyB f) w w' := by
  have HMS := Lib.hid hf.ms
  have HL := Lib.hid hlim
  have HM := Lib.hid hM
  have HPN := Lib.hid hpn
  obtain ⟨z, k, s, t, x, m, path, data, ow, ve, cv, ti, er, cver, ms⟩ := f
  obtain ⟨A, c, B, d, P, e'⟩ := p
  simp only at hk
  subst hk
  simp only at HM HMS hck
  have hpe : putE cver ms = (ensB cver ms, 0) := if_pos hck
  have hpl := putE_len cver ms
  rw [hpe] at hpl
  simp only at hpl
  have HPL := Lib.hid hpl
  have hcp := fun W (hR : RdM W lo hi B ms) (hi2 : hi ≤ W.heap.size) => put_calls cver B ms d lo hi W hR hi2 (by have := HMS.out; omega)
  rw [hpe] at hcp
  have HCP := Lib.hid hcp
  have hcell : (w.alloc (.cells (dcells ⟨z, 7, s, t, x, m, path, data, ow, ve, cv, ti, er, (cver, ms)⟩ ⟨A, c, B, d, P, e'⟩ np) 31)).cell? ⟨0, 7, none⟩ = some (.int .i64 128) := hH.box _ _ _ 7 (by decide)
  have b1 : bits .and .i64 128 1 = 0 := by decide
  have b2 : bits .and .i64 128 2 = 0 := by decide
  have b4 : bits .and .i64 128 4 = 0 := by decide
  have b8 : bits .and .i64 128 8 = 0 := by decide
  have b16 : bits .and .i64 128 16 = 0 := by decide
  have b32 : bits .and .i64 128 32 = 0 := by decide
  have b64 : bits .and .i64 128 64 = 0 := by decide
  have b128 : bits .and .i64 128 128 = 128 := by decide
  have b256 : bits .and .i64 128 256 = 0 := by decide
  have T0 := Lib.hid (BW.start hw hp (dcells ⟨z, 7, s, t, x, m, path, data, ow, ve, cv, ti, er, (cver, ms)⟩ ⟨A, c, B, d, P, e'⟩ np))
  simp only [dval, dcells] at *
  clear hH hf hlim hM hpn hp hw hcp hpl hck hpe
  go_enter Tryz.func50, Tryz.ntmps50
  go_wp2_with (fail)
  refine (HCP.out _ (HM.out.fr T0.out.fr hh HPN.out) (Nat.le_trans hh T0.out.fr.size)).mono ?_
  rintro e w1 ⟨A', c', rfl, hr, f1⟩
  have T1 := Lib.hid (T0.out.keep f1)
  have HR := Lib.hid hr
  have HG := Lib.hid (fun k (h1 : (w.alloc (.cells #[.int .i64 z, .int .u8 7, .int .i64 s, .int .i64 t, .int .i64 x, .int .i64 m, .string ⟨path.toArray⟩, .slice A data.length c, .int .i64 ow, .int .i64 ve, .int .i64 cv, .int .i64 ti, .int .i64 er, .int .i64 cver, .slice B ms.length d, .slice P np e'] 31)).heap.size ≤ k) (h2 : WF pw G k) => Nat.lt_irrefl _ (Nat.lt_of_lt_of_le (T0.out.a.lt h2) h1))
  clear hr f1 T0 HCP HM
  have HBO : Hid (bodyB ⟨z, 7, s, t, x, m, path, data, ow, ve, cv, ti, er, (cver, ms)⟩ = textB (ensB cver ms)) := by simp [bodyB, Hid]
  generalize ensB cver ms = eb at *
  go_wp2_with (fail)
  refine (wBytes pw G L eb A' c' _ _ _ T1.out.a (by have := HL.out; have := HPL.out; omega) HR.out (Nat.le_refl _) (fun k h1 _ h3 => HG.out k h1 h3)).mono ?_
  rintro e w2 ⟨rfl, G2, a2, f2, g2⟩
  have T2 := Lib.hid (T1.out.next a2 f2 g2)
  clear a2 f2 g2 T1
  go_wp2
  go_end0
  exact ⟨rfl, T2.out.put.cast (by rw [HBO.out])⟩
set_option maxHeartbeats 3200000 in
set_option maxRecDepth 8000 in
theorem body5_calls (f : Fd) (p : Pl) (l : List (Fd × Nat)) (pw : Nat) (G : Option Nat) (L : List UInt8) (lo hi : Nat) (w : World) (hf : f.Ok) (hok : ∀ q ∈ l, q.1.Ok ∧ q.2 ≤ 140737488355328) (hH : Has w) (hw : Wtr w pw G L) (hp : ∀ k, WF pw G k → k < w.heap.size) (hlim : L.length ≤ 100000) (hP : RdP w lo hi p.P l) (hl : l.length ≤ 500) (hps : ∀ q ∈ l, IsPart 3 q) (hh : hi ≤ w.heap.size) (hpn : ∀ k, lo ≤ k → k < hi → ¬ WF pw G k) (hgn : ¬ WF pw G 0) (hk : f.k = 5) :
    Calls Tryz.prog 50 #[.pointer (some ⟨pw, 0, none⟩), dval f p l.length] w fun e w' => e = .returned (.tuple #[]) ∧ Put pw G (L ++ (bodyB f ++ (intB l.length ++ partsB l))) w w' := by
  have HF := Lib.hid hf
  have HL := Lib.hid hlim
  have HP := Lib.hid hP
  have HPN := Lib.hid hpn
  have HPS := Lib.hid hps
  have HOK := Lib.hid hok
  have HH := Lib.hid hH
  have HGN := Lib.hid hgn
  obtain ⟨z, k, s, t, x, m, path, data, ow, ve, cv, ti, er, cver, ms⟩ := f
  obtain ⟨A, c, B, d, P, e'⟩ := p
  simp only at hk
  subst hk
  simp only at HP
  have hcell : (w.alloc (.cells (dcells ⟨z, 5, s, t, x, m, path, data, ow, ve, cv, ti, er, (cver, ms)⟩ ⟨A, c, B, d, P, e'⟩ l.length) 31)).cell? ⟨0, 5, none⟩ = some (.int .i64 260) := hH.box _ _ _ 5 (by decide)
  have b1 : bits .and .i64 260 1 = 0 := by decide
  have b2 : bits .and .i64 260 2 = 0 := by decide
  have b4 : bits .and .i64 260 4 = 4 := by decide
  have b8 : bits .and .i64 260 8 = 0 := by decide
  have b16 : bits .and .i64 260 16 = 0 := by decide
  have b32 : bits .and .i64 260 32 = 0 := by decide
  have b64 : bits .and .i64 260 64 = 0 := by decide
  have b128 : bits .and .i64 260 128 = 0 := by decide
  have b256 : bits .and .i64 260 256 = 256 := by decide
  have T0 := Lib.hid (BW.start hw hp (dcells ⟨z, 5, s, t, x, m, path, data, ow, ve, cv, ti, er, (cver, ms)⟩ ⟨A, c, B, d, P, e'⟩ l.length))
  have HBB : Hid (bodyB ⟨z, 5, s, t, x, m, path, data, ow, ve, cv, ti, er, (cver, ms)⟩ = intB ow) := by simp [bodyB, Hid]
  simp only [dval, dcells] at *
  clear hH hf hok hlim hP hps hpn hp hw hgn
  go_enter Tryz.func50, Tryz.ntmps50
  go_wp2_with (fail)
  refine (wInt pw G L ow _ HF.out.ow.1 HF.out.ow.2 T0.out.a (by have := HL.out; omega)).mono ?_
  rintro e w1 ⟨rfl, G1, a1, f1, g1⟩
  have T1 := Lib.hid (T0.out.next a1 f1 g1)
  clear a1 f1 g1 T0
  have d1 := T1.out.cell 15 _ rfl
  go_wp2_with (fail)
  refine (wInt pw G1 (L ++ intB ow) l.length _ (by omega) (by omega) T1.out.a (by have := HL.out; have l0 := intB_len ow; simp only [List.length_append]; omega)).mono ?_
  rintro e w2 ⟨rfl, G2, a2, f2, g2⟩
  have T2 := Lib.hid (T1.out.next a2 f2 g2)
  clear a2 f2 g2 T1 d1
  have d2 := T2.out.cell 15 _ rfl
  go_wp2
  clear d2 hcell
  have HL0 : Hid ((L ++ intB ow ++ intB l.length).length ≤ 100020) := by
    have := HL.out
    have l1 := intB_len (l.length : Int)
    have l0 := intB_len ow
    show _ ≤ _
    simp only [List.length_append]
    omega
  have HLL : Hid (L ++ (bodyB ⟨z, 5, s, t, x, m, path, data, ow, ve, cv, ti, er, (cver, ms)⟩ ++ (intB l.length ++ partsB l)) = (L ++ intB ow ++ intB l.length) ++ partsB l) := by
    show _ = _
    rw [HBB.out]
    simp
  generalize L ++ intB ow ++ intB l.length = L0 at T2 HL0 HLL
  have hb1 := b1
  clear b1 b2 b4 b8 b16 b32 b64 b128 b256 hb1 HBB
  obtain ⟨NB, hNB⟩ : ∃ NB, w.heap.size = NB := ⟨_, rfl⟩
  have HNB := Lib.hid hNB
  clear hNB
  go_loopw [85] (fun i W => ∃ (k : Nat) (Gk : Option Nat), k ≤ l.length ∧ i = .int .i64 (k : Int) ∧ BW w W pw G Gk (L0 ++ partsB (l.take k)) w.heap.size (#[.int .i64 z, .int .u8 5, .int .i64 s, .int .i64 t, .int .i64 x, .int .i64 m, .string ⟨path.toArray⟩, .slice A data.length c, .int .i64 ow, .int .i64 ve, .int .i64 cv, .int .i64 ti, .int .i64 er, .int .i64 cver, .slice B ms.length d, .slice P l.length e'])) (fun i _ => l.length - (intOf i).toNat)
  case atStart => exact ⟨0, G2, Nat.zero_le _, rfl, T2.out.cast (by simp [partsB])⟩
  case round =>
    obtain ⟨k, Gk, hk, rfl, ht⟩ := hrel
    have T := Lib.hid ht
    clear ht T2
    by_cases hlt : k < l.length
    · as_aux_lemma =>
      have hki : (k : Int) < (l.length : Int) := by omega
      obtain ⟨b, o, rfl, hb1, hb2, h4⟩ := HP.out (by omega)
      obtain ⟨pl, hcs, hrd, -⟩ := h4 k l[k] (List.getElem?_eq_getElem hlt)
      have hq := HOK.out l[k] (List.getElem_mem hlt)
      have hpq := HPS.out l[k] (List.getElem_mem hlt)
      have htk : L0 ++ partsB (l.take (k + 1)) = (L0 ++ partsB (l.take k)) ++ (kindB l[k].1.k :: bodyB l[k].1) := by rw [List.take_succ_eq_append_getElem hlt, partsB_append]; simp [partsB]
      have hlen : (L0 ++ partsB (l.take k)).length ≤ 721000 := by
        have h1 := partsB_len (l := l.take k) (fun q hq => HPS.out q (List.mem_of_mem_take hq))
        have h2 := HL0.out
        rw [List.length_take] at h1
        rw [List.length_append]
        omega
      have HLEN := Lib.hid hlen
      have HTK := Lib.hid htk
      clear h4 hlen htk
      generalize l[k] = q at hcs hrd hq hpq HTK
      generalize L0 ++ partsB (l.take k) = Lk at *
      have HRD := Lib.hid (hrd.fr T.out.fr hh HPN.out)
      have HKR := Lib.hid hq.1.k
      have HQ := Lib.hid hq.1
      have HPQ := Lib.hid hpq
      have HC : ∀ j v, (dcells q.1 pl q.2)[j]? = some v → wr.cell? ⟨b, o + k * 16 + j, none⟩ = some v := fun j v hv => (T.out.fr.cell (p := ⟨b, o + k * 16 + j, none⟩) (by simp only; omega) (HPN.out b hb1 hb2)).trans (hcs j v hv)
      have HBP := Lib.hid (fun W (a : Wtr W pw Gk (Lk ++ [kindB q.1.k])) => a)
      clear hrd hq hpq HBP
      obtain ⟨f, np⟩ := q
      obtain ⟨z1, kk, s1, t1, x1, m1, path1, data1, ow1, ve1, cv1, ti1, er1, cver1, ms1⟩ := f
      obtain ⟨A1, ca, B1, cb, P1, cp⟩ := pl
      have hL := Lib.hid (part_range HC)
      clear HC hcs
      have d15 := T.out.cell 15 _ rfl
      have FA := Lib.hid ((Fr.refl NoB wr).alloc (.cells #[.int .i64 z1, .int .u8 kk, .int .i64 s1, .int .i64 t1, .int .i64 x1, .int .i64 m1, .string ⟨path1.toArray⟩, .slice A1 data1.length ca, .int .i64 ow1, .int .i64 ve1, .int .i64 cv1, .int .i64 ti1, .int .i64 er1, .int .i64 cver1, .slice B1 ms1.length cb, .slice P1 np cp] 31))
      go_wp2_with (first | (refine wpList_load_mid rfl 31 _ rfl b (o + k * 16) rfl _ _ hL.out Tryz.underlying31 rfl (size_deed _ _ _) ?_; simp only [dcells]) | (refine wpList_store_row rfl 31 _ _ rfl wr.heap.size _ rfl rfl _ _ (heap_alloc_last wr _) size16 rfl (by simp [Value.oneCell']) ?_; rw [World.setRow_alloc_new]) | fail)
      have T1 := Lib.hid (T.out.keep FA.out)
      have HN := Lib.hid (heap_alloc_new wr (.cells #[.int .i64 z1, .int .u8 kk, .int .i64 s1, .int .i64 t1, .int .i64 x1, .int .i64 m1, .string ⟨path1.toArray⟩, .slice A1 data1.length ca, .int .i64 ow1, .int .i64 ve1, .int .i64 cv1, .int .i64 ti1, .int .i64 er1, .int .i64 cver1, .slice B1 ms1.length cb, .slice P1 np cp] 31))
      have HGK := Lib.hid (fun (h : WF pw Gk wr.heap.size) => Nat.lt_irrefl _ (T.out.a.lt h))
      have HRD1 := Lib.hid (HRD.out.fr FA.out (Nat.le_trans hh T.out.fr.size) (fun _ _ _ x => x))
      clear HRD
      refine (wByteI pw Gk Lk kk _ HKR.out T1.out.a (by have := HLEN.out; omega)).mono ?_
      rintro e w3 ⟨rfl, G3, a3, f3, g3⟩
      have T3 := Lib.hid (T1.out.next a3 f3 g3)
      have HN3 := Lib.hid (f3.at_ HN.out HGK.out)
      have HNW := Lib.hid (fun (h : WF pw G3 wr.heap.size) => (g3 _ h).elim HGK.out (fun h => absurd h (by simp)))
      have HRD3 := Lib.hid (HRD1.out.fr f3 (Nat.le_trans (Nat.le_trans hh T.out.fr.size) FA.out.size) (fun k h1 h2 h3 => (T.out.g k h3).elim (HPN.out k h1 h2) (fun h => by omega)))
      clear a3 f3 g3 T1 HN HRD1 FA d15
      go_wp2_with (first | (refine wpList_load_row rfl 31 _ rfl wr.heap.size rfl _ _ _ _ HN3.out Tryz.underlying31 rfl size16 ?_) | fail)
      refine (bodyp_calls (last := 3) (⟨z1, kk, s1, t1, x1, m1, path1, data1, ow1, ve1, cv1, ti1, er1, (cver1, ms1)⟩, np) HPQ.out (by decide) ⟨A1, ca, B1, cb, P1, cp⟩ pw G3 _ lo hi _ HQ.out (HH.out.frw T3.out.fr HGN.out) T3.out.a (fun k h => T3.out.a.lt h) (by have := HLEN.out; simp only [List.length_append, List.length_cons, List.length_nil]; omega) HRD3.out (Nat.le_trans hh T3.out.fr.size) (fun k h1 h2 h3 => (T3.out.g k h3).elim (HPN.out k h1 h2) (fun h => by omega))).mono ?_
      rintro e w4 ⟨rfl, G4, a4, f4, g4⟩
      have T4 := Lib.hid (T3.out.next a4 f4 g4)
      clear a4 f4 g4 T3 HN3
      go_wp2
      go_roundw
      case rel => exact ⟨k + 1, G4, by omega, by go_num, T4.out.cast (by rw [HTK.out]; simp)⟩
      case measure => simp [intOf]; omega
    · as_aux_lemma =>
      obtain rfl : k = l.length := by omega
      have T9 := T.out
      rw [List.take_length] at T9
      have TE := Lib.hid T9
      clear T9 T
      go_wp2
      go_end0
      exact ⟨rfl, TE.out.put.cast HLL.out.symm⟩
set_option maxHeartbeats 3200000 in
set_option maxRecDepth 8000 in
theorem body8_calls (f : Fd) (p : Pl) (l : List (Fd × Nat)) (pw : Nat) (G : Option Nat) (L : List UInt8) (lo hi : Nat) (w : World) (hf : f.Ok) (hok : ∀ q ∈ l, q.1.Ok ∧ q.2 ≤ 140737488355328) (hH : Has w) (hw : Wtr w pw G L) (hp : ∀ k, WF pw G k → k < w.heap.size) (hlim : L.length ≤ 100000) (hP : RdP w lo hi p.P l) (hl : l.length ≤ 500) (hps : ∀ q ∈ l, IsPart 3 q) (hh : hi ≤ w.heap.size) (hpn : ∀ k, lo ≤ k → k < hi → ¬ WF pw G k) (hgn : ¬ WF pw G 0) (hk : f.k = 8) :
    Calls Tryz.prog 50 #[.pointer (some ⟨pw, 0, none⟩), dval f p l.length] w fun e w' => e = .returned (.tuple #[]) ∧ Put pw G (L ++ (bodyB f ++ (intB l.length ++ partsB l))) w w' := by
  have HF := Lib.hid hf
  have HL := Lib.hid hlim
  have HP := Lib.hid hP
  have HPN := Lib.hid hpn
  have HPS := Lib.hid hps
  have HOK := Lib.hid hok
  have HH := Lib.hid hH
  have HGN := Lib.hid hgn
  obtain ⟨z, k, s, t, x, m, path, data, ow, ve, cv, ti, er, cver, ms⟩ := f
  obtain ⟨A, c, B, d, P, e'⟩ := p
  simp only at hk
  subst hk
  simp only at HP
  have hcell : (w.alloc (.cells (dcells ⟨z, 8, s, t, x, m, path, data, ow, ve, cv, ti, er, (cver, ms)⟩ ⟨A, c, B, d, P, e'⟩ l.length) 31)).cell? ⟨0, 8, none⟩ = some (.int .i64 256) := hH.box _ _ _ 8 (by decide)
  have b1 : bits .and .i64 256 1 = 0 := by decide
  have b2 : bits .and .i64 256 2 = 0 := by decide
  have b4 : bits .and .i64 256 4 = 0 := by decide
  have b8 : bits .and .i64 256 8 = 0 := by decide
  have b16 : bits .and .i64 256 16 = 0 := by decide
  have b32 : bits .and .i64 256 32 = 0 := by decide
  have b64 : bits .and .i64 256 64 = 0 := by decide
  have b128 : bits .and .i64 256 128 = 0 := by decide
  have b256 : bits .and .i64 256 256 = 256 := by decide
  have T0 := Lib.hid (BW.start hw hp (dcells ⟨z, 8, s, t, x, m, path, data, ow, ve, cv, ti, er, (cver, ms)⟩ ⟨A, c, B, d, P, e'⟩ l.length))
  have HBB : Hid (bodyB ⟨z, 8, s, t, x, m, path, data, ow, ve, cv, ti, er, (cver, ms)⟩ = []) := by simp [bodyB, Hid]
  simp only [dval, dcells] at *
  clear hH hf hok hlim hP hps hpn hp hw hgn
  go_enter Tryz.func50, Tryz.ntmps50
  go_wp2_with (fail)
  refine (wInt pw G L l.length _ (by omega) (by omega) T0.out.a (by have := HL.out; omega)).mono ?_
  rintro e w2 ⟨rfl, G2, a2, f2, g2⟩
  have T2 := Lib.hid (T0.out.next a2 f2 g2)
  clear a2 f2 g2 T0
  have d2 := T2.out.cell 15 _ rfl
  go_wp2
  clear d2 hcell
  have HL0 : Hid ((L ++ intB l.length).length ≤ 100020) := by
    have := HL.out
    have l1 := intB_len (l.length : Int)
    skip
    show _ ≤ _
    simp only [List.length_append]
    omega
  have HLL : Hid (L ++ (bodyB ⟨z, 8, s, t, x, m, path, data, ow, ve, cv, ti, er, (cver, ms)⟩ ++ (intB l.length ++ partsB l)) = (L ++ intB l.length) ++ partsB l) := by
    show _ = _
    rw [HBB.out]
    simp
  generalize L ++ intB l.length = L0 at T2 HL0 HLL
  have hb1 := b1
  clear b1 b2 b4 b8 b16 b32 b64 b128 b256 hb1 HBB
  obtain ⟨NB, hNB⟩ : ∃ NB, w.heap.size = NB := ⟨_, rfl⟩
  have HNB := Lib.hid hNB
  clear hNB
  go_loopw [85] (fun i W => ∃ (k : Nat) (Gk : Option Nat), k ≤ l.length ∧ i = .int .i64 (k : Int) ∧ BW w W pw G Gk (L0 ++ partsB (l.take k)) w.heap.size (#[.int .i64 z, .int .u8 8, .int .i64 s, .int .i64 t, .int .i64 x, .int .i64 m, .string ⟨path.toArray⟩, .slice A data.length c, .int .i64 ow, .int .i64 ve, .int .i64 cv, .int .i64 ti, .int .i64 er, .int .i64 cver, .slice B ms.length d, .slice P l.length e'])) (fun i _ => l.length - (intOf i).toNat)
  case atStart => exact ⟨0, G2, Nat.zero_le _, rfl, T2.out.cast (by simp [partsB])⟩
  case round =>
    obtain ⟨k, Gk, hk, rfl, ht⟩ := hrel
    have T := Lib.hid ht
    clear ht T2
    by_cases hlt : k < l.length
    · as_aux_lemma =>
      have hki : (k : Int) < (l.length : Int) := by omega
      obtain ⟨b, o, rfl, hb1, hb2, h4⟩ := HP.out (by omega)
      obtain ⟨pl, hcs, hrd, -⟩ := h4 k l[k] (List.getElem?_eq_getElem hlt)
      have hq := HOK.out l[k] (List.getElem_mem hlt)
      have hpq := HPS.out l[k] (List.getElem_mem hlt)
      have htk : L0 ++ partsB (l.take (k + 1)) = (L0 ++ partsB (l.take k)) ++ (kindB l[k].1.k :: bodyB l[k].1) := by rw [List.take_succ_eq_append_getElem hlt, partsB_append]; simp [partsB]
      have hlen : (L0 ++ partsB (l.take k)).length ≤ 721000 := by
        have h1 := partsB_len (l := l.take k) (fun q hq => HPS.out q (List.mem_of_mem_take hq))
        have h2 := HL0.out
        rw [List.length_take] at h1
        rw [List.length_append]
        omega
      have HLEN := Lib.hid hlen
      have HTK := Lib.hid htk
      clear h4 hlen htk
      generalize l[k] = q at hcs hrd hq hpq HTK
      generalize L0 ++ partsB (l.take k) = Lk at *
      have HRD := Lib.hid (hrd.fr T.out.fr hh HPN.out)
      have HKR := Lib.hid hq.1.k
      have HQ := Lib.hid hq.1
      have HPQ := Lib.hid hpq
      have HC : ∀ j v, (dcells q.1 pl q.2)[j]? = some v → wr.cell? ⟨b, o + k * 16 + j, none⟩ = some v := fun j v hv => (T.out.fr.cell (p := ⟨b, o + k * 16 + j, none⟩) (by simp only; omega) (HPN.out b hb1 hb2)).trans (hcs j v hv)
      have HBP := Lib.hid (fun W (a : Wtr W pw Gk (Lk ++ [kindB q.1.k])) => a)
      clear hrd hq hpq HBP
      obtain ⟨f, np⟩ := q
      obtain ⟨z1, kk, s1, t1, x1, m1, path1, data1, ow1, ve1, cv1, ti1, er1, cver1, ms1⟩ := f
      obtain ⟨A1, ca, B1, cb, P1, cp⟩ := pl
      have hL := Lib.hid (part_range HC)
      clear HC hcs
      have d15 := T.out.cell 15 _ rfl
      have FA := Lib.hid ((Fr.refl NoB wr).alloc (.cells #[.int .i64 z1, .int .u8 kk, .int .i64 s1, .int .i64 t1, .int .i64 x1, .int .i64 m1, .string ⟨path1.toArray⟩, .slice A1 data1.length ca, .int .i64 ow1, .int .i64 ve1, .int .i64 cv1, .int .i64 ti1, .int .i64 er1, .int .i64 cver1, .slice B1 ms1.length cb, .slice P1 np cp] 31))
      go_wp2_with (first | (refine wpList_load_mid rfl 31 _ rfl b (o + k * 16) rfl _ _ hL.out Tryz.underlying31 rfl (size_deed _ _ _) ?_; simp only [dcells]) | (refine wpList_store_row rfl 31 _ _ rfl wr.heap.size _ rfl rfl _ _ (heap_alloc_last wr _) size16 rfl (by simp [Value.oneCell']) ?_; rw [World.setRow_alloc_new]) | fail)
      have T1 := Lib.hid (T.out.keep FA.out)
      have HN := Lib.hid (heap_alloc_new wr (.cells #[.int .i64 z1, .int .u8 kk, .int .i64 s1, .int .i64 t1, .int .i64 x1, .int .i64 m1, .string ⟨path1.toArray⟩, .slice A1 data1.length ca, .int .i64 ow1, .int .i64 ve1, .int .i64 cv1, .int .i64 ti1, .int .i64 er1, .int .i64 cver1, .slice B1 ms1.length cb, .slice P1 np cp] 31))
      have HGK := Lib.hid (fun (h : WF pw Gk wr.heap.size) => Nat.lt_irrefl _ (T.out.a.lt h))
      have HRD1 := Lib.hid (HRD.out.fr FA.out (Nat.le_trans hh T.out.fr.size) (fun _ _ _ x => x))
      clear HRD
      refine (wByteI pw Gk Lk kk _ HKR.out T1.out.a (by have := HLEN.out; omega)).mono ?_
      rintro e w3 ⟨rfl, G3, a3, f3, g3⟩
      have T3 := Lib.hid (T1.out.next a3 f3 g3)
      have HN3 := Lib.hid (f3.at_ HN.out HGK.out)
      have HNW := Lib.hid (fun (h : WF pw G3 wr.heap.size) => (g3 _ h).elim HGK.out (fun h => absurd h (by simp)))
      have HRD3 := Lib.hid (HRD1.out.fr f3 (Nat.le_trans (Nat.le_trans hh T.out.fr.size) FA.out.size) (fun k h1 h2 h3 => (T.out.g k h3).elim (HPN.out k h1 h2) (fun h => by omega)))
      clear a3 f3 g3 T1 HN HRD1 FA d15
      go_wp2_with (first | (refine wpList_load_row rfl 31 _ rfl wr.heap.size rfl _ _ _ _ HN3.out Tryz.underlying31 rfl size16 ?_) | fail)
      refine (bodyp_calls (last := 3) (⟨z1, kk, s1, t1, x1, m1, path1, data1, ow1, ve1, cv1, ti1, er1, (cver1, ms1)⟩, np) HPQ.out (by decide) ⟨A1, ca, B1, cb, P1, cp⟩ pw G3 _ lo hi _ HQ.out (HH.out.frw T3.out.fr HGN.out) T3.out.a (fun k h => T3.out.a.lt h) (by have := HLEN.out; simp only [List.length_append, List.length_cons, List.length_nil]; omega) HRD3.out (Nat.le_trans hh T3.out.fr.size) (fun k h1 h2 h3 => (T3.out.g k h3).elim (HPN.out k h1 h2) (fun h => by omega))).mono ?_
      rintro e w4 ⟨rfl, G4, a4, f4, g4⟩
      have T4 := Lib.hid (T3.out.next a4 f4 g4)
      clear a4 f4 g4 T3 HN3
      go_wp2
      go_roundw
      case rel => exact ⟨k + 1, G4, by omega, by go_num, T4.out.cast (by rw [HTK.out]; simp)⟩
      case measure => simp [intOf]; omega
    · as_aux_lemma =>
      obtain rfl : k = l.length := by omega
      have T9 := T.out
      rw [List.take_length] at T9
      have TE := Lib.hid T9
      clear T9 T
      go_wp2
      go_end0
      exact ⟨rfl, TE.out.put.cast HLL.out.symm⟩
end Go.Proofs.YtmlmbahimklfiaaGreatDoor
