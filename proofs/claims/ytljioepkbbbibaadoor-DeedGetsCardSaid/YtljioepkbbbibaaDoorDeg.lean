/-
  Deg: body puts what a kind has: the kinds without parts and config.
-/
import Derived.Test.YtljioepkbbbibaaDoorDee
namespace Go.Proofs.YtljioepkbbbibaaDoor
open Go.RowKit

/-- A writer that was handed in, a deed's box beside it. -/
structure BW (w0 w : World) (pw : Nat) (G0 G : Option Nat) (L : List UInt8) (b : Nat) (cs : Array Value) : Prop where
  a : Wtr w pw G L
  fr : Fr (WF pw G0) w0 w
  g : ∀ k, WF pw G k → WF pw G0 k ∨ w0.heap.size ≤ k
  bx : w.heap[b]? = some (.cells cs 31 (0, 0))
  nb : ¬ WF pw G b
theorem BW.next {w0 w w1 : World} {pw b : Nat} {G0 G G1 : Option Nat} {L L' : List UInt8} {cs : Array Value} (h : BW w0 w pw G0 G L b cs) (a : Wtr w1 pw G1 L') (f : Fr (WF pw G) w w1) (g : ∀ k, WF pw G1 k → WF pw G k ∨ w.heap.size ≤ k) : BW w0 w1 pw G0 G1 L' b cs :=
  ⟨a, h.fr.trans f fun k hk hx => (h.g k hx).elim id (fun hx => absurd hx (by omega)), fun k hk => (g k hk).elim (h.g k) (fun hx => .inr (Nat.le_trans h.fr.size hx)), f.at_ h.bx h.nb, fun hx => (g b hx).elim h.nb (fun hx => by have := Lib.lt_of_heap h.bx; omega)⟩
theorem BW.put {w0 w : World} {pw b : Nat} {G0 G : Option Nat} {L : List UInt8} {cs : Array Value} (h : BW w0 w pw G0 G L b cs) : Put pw G0 L w0 w := ⟨G, h.a, h.fr, h.g⟩
theorem BW.start {w : World} {pw : Nat} {G : Option Nat} {L : List UInt8} (h : Wtr w pw G L) (hp : ∀ k, WF pw G k → k < w.heap.size) (cs : Array Value) : BW w (w.alloc (.cells cs 31)) pw G G L w.heap.size cs :=
  ⟨h.fr ((Fr.refl NoB w).alloc _) (fun _ _ x => x), (Fr.refl _ w).alloc _, fun k hk => .inl hk, heap_alloc_new w _, fun hx => by have := hp _ hx; omega⟩
theorem BW.cell {w0 w : World} {pw b : Nat} {G0 G : Option Nat} {L : List UInt8} {cs : Array Value} (h : BW w0 w pw G0 G L b cs) (i : Nat) (v : Value) (hv : cs[i]? = some v) : w.cell? ⟨b, i, none⟩ = some v := (cells_of h.bx i).1.trans hv

set_option maxHeartbeats 3200000 in
set_option maxRecDepth 8000 in
theorem body1_calls (f : Fd) (p : Pl) (np pw : Nat) (G : Option Nat) (L : List UInt8) (lo hi : Nat) (w : World) (hf : f.Ok) (hH : Has w) (hw : Wtr w pw G L) (hp : ∀ k, WF pw G k → k < w.heap.size) (hpl : f.path.length ≤ 1000 ∧ f.data.length ≤ 1000) (hlim : L.length ≤ 1000000) (hD : Rd w lo hi p.A f.data) (hh : hi ≤ w.heap.size) (hpn : ∀ k, lo ≤ k → k < hi → ¬ WF pw G k) (hk : f.k = 1) :
    Calls Tryd.prog 30 #[.pointer (some ⟨pw, 0, none⟩), dval f p np] w fun e w' => e = .returned (.tuple #[]) ∧ Put pw G (L ++ bodyB f) w w' := by
  have HF := Lib.hid hf
  have HP := Lib.hid hpl
  have HL := Lib.hid hlim
  have HD := Lib.hid hD
  have HPN := Lib.hid hpn
  obtain ⟨z, k, s, t, x, m, path, data, ow, ve, cv, ti, er, cver, ms⟩ := f
  obtain ⟨A, c, B, d, P, e'⟩ := p
  simp only at hk
  subst hk
  simp only at HP HD
  have hcell : (w.alloc (.cells (dcells ⟨z, 1, s, t, x, m, path, data, ow, ve, cv, ti, er, (cver, ms)⟩ ⟨A, c, B, d, P, e'⟩ np) 31)).cell? ⟨0, 1, none⟩ = some (.int .i64 23) := hH.box _ _ _ 1 (by decide)
  have b1 : bits .and .i64 23 1 = 1 := by decide
  have b2 : bits .and .i64 23 2 = 2 := by decide
  have b4 : bits .and .i64 23 4 = 4 := by decide
  have b8 : bits .and .i64 23 8 = 0 := by decide
  have b16 : bits .and .i64 23 16 = 16 := by decide
  have b32 : bits .and .i64 23 32 = 0 := by decide
  have b64 : bits .and .i64 23 64 = 0 := by decide
  have b128 : bits .and .i64 23 128 = 0 := by decide
  have b256 : bits .and .i64 23 256 = 0 := by decide
  have T0 := Lib.hid (BW.start hw hp (dcells ⟨z, 1, s, t, x, m, path, data, ow, ve, cv, ti, er, (cver, ms)⟩ ⟨A, c, B, d, P, e'⟩ np))
  simp only [dval, dcells] at *
  clear hH hf hpl hlim hD hpn hp hw
  go_enter Tryd.func30, Tryd.ntmps30
  go_wp2_with (fail)
  refine (wText pw G (L) ⟨path.toArray⟩ _ T0.out.a (by have := HL.out; have := HP.out; (try simp only [mk_size]); omega)).mono ?_
  rintro e w1 ⟨rfl, G1, a1, f1, g1⟩
  rw [show (⟨path.toArray⟩ : ByteArray).data.toList = path by simp] at a1
  have T1 := Lib.hid (T0.out.next a1 f1 g1)
  clear a1 f1 g1 T0
  have d1 := T1.out.cell 7 _ rfl
  go_wp2_with (fail)
  refine (wBytes pw G1 (L ++ textB path) data A c lo hi _ T1.out.a (by have := HL.out; have := HP.out; have l0 := textB_len path; (try simp only [List.length_append]); omega) (HD.out.fr T1.out.fr hh HPN.out) (Nat.le_trans hh T1.out.fr.size) (fun k h1 h2 h3 => (T1.out.g k h3).elim (HPN.out k h1 h2) (fun h => by omega))).mono ?_
  rintro e w2 ⟨rfl, G2, a2, f2, g2⟩
  have T2 := Lib.hid (T1.out.next a2 f2 g2)
  clear a2 f2 g2 T1
  have d2 := T2.out.cell 8 _ rfl
  go_wp2_with (fail)
  refine (wInt pw G2 (L ++ textB path ++ textB data) ow _ HF.out.ow.1 HF.out.ow.2 T2.out.a (by have := HL.out; have := HP.out; have l0 := textB_len path; have l1 := textB_len data; (try simp only [List.length_append]); omega)).mono ?_
  rintro e w3 ⟨rfl, G3, a3, f3, g3⟩
  have T3 := Lib.hid (T2.out.next a3 f3 g3)
  clear a3 f3 g3 T2
  have d3 := T3.out.cell 10 _ rfl
  go_wp2_with (fail)
  refine (wInt pw G3 (L ++ textB path ++ textB data ++ intB ow) cv _ HF.out.cv.1 HF.out.cv.2 T3.out.a (by have := HL.out; have := HP.out; have l0 := textB_len path; have l1 := textB_len data; have l2 := intB_len ow; (try simp only [List.length_append]); omega)).mono ?_
  rintro e w4 ⟨rfl, G4, a4, f4, g4⟩
  have T4 := Lib.hid (T3.out.next a4 f4 g4)
  clear a4 f4 g4 T3
  go_wp2
  go_end0
  exact ⟨rfl, T4.out.put.cast (by simp [bodyB, List.append_assoc])⟩
set_option maxHeartbeats 3200000 in
set_option maxRecDepth 8000 in
theorem body2_calls (f : Fd) (p : Pl) (np pw : Nat) (G : Option Nat) (L : List UInt8) (lo hi : Nat) (w : World) (hf : f.Ok) (hH : Has w) (hw : Wtr w pw G L) (hp : ∀ k, WF pw G k → k < w.heap.size) (hpl : f.path.length ≤ 1000 ∧ f.data.length ≤ 1000) (hlim : L.length ≤ 1000000) (hD : Rd w lo hi p.A f.data) (_hh : hi ≤ w.heap.size) (hpn : ∀ k, lo ≤ k → k < hi → ¬ WF pw G k) (hk : f.k = 2) :
    Calls Tryd.prog 30 #[.pointer (some ⟨pw, 0, none⟩), dval f p np] w fun e w' => e = .returned (.tuple #[]) ∧ Put pw G (L ++ bodyB f) w w' := by
  have HF := Lib.hid hf
  have HP := Lib.hid hpl
  have HL := Lib.hid hlim
  have HD := Lib.hid hD
  have HPN := Lib.hid hpn
  obtain ⟨z, k, s, t, x, m, path, data, ow, ve, cv, ti, er, cver, ms⟩ := f
  obtain ⟨A, c, B, d, P, e'⟩ := p
  simp only at hk
  subst hk
  simp only at HP HD
  have hcell : (w.alloc (.cells (dcells ⟨z, 2, s, t, x, m, path, data, ow, ve, cv, ti, er, (cver, ms)⟩ ⟨A, c, B, d, P, e'⟩ np) 31)).cell? ⟨0, 2, none⟩ = some (.int .i64 17) := hH.box _ _ _ 2 (by decide)
  have b1 : bits .and .i64 17 1 = 1 := by decide
  have b2 : bits .and .i64 17 2 = 0 := by decide
  have b4 : bits .and .i64 17 4 = 0 := by decide
  have b8 : bits .and .i64 17 8 = 0 := by decide
  have b16 : bits .and .i64 17 16 = 16 := by decide
  have b32 : bits .and .i64 17 32 = 0 := by decide
  have b64 : bits .and .i64 17 64 = 0 := by decide
  have b128 : bits .and .i64 17 128 = 0 := by decide
  have b256 : bits .and .i64 17 256 = 0 := by decide
  have T0 := Lib.hid (BW.start hw hp (dcells ⟨z, 2, s, t, x, m, path, data, ow, ve, cv, ti, er, (cver, ms)⟩ ⟨A, c, B, d, P, e'⟩ np))
  simp only [dval, dcells] at *
  clear hH hf hpl hlim hD hpn hp hw
  go_enter Tryd.func30, Tryd.ntmps30
  go_wp2_with (fail)
  refine (wText pw G (L) ⟨path.toArray⟩ _ T0.out.a (by have := HL.out; have := HP.out; (try simp only [mk_size]); omega)).mono ?_
  rintro e w1 ⟨rfl, G1, a1, f1, g1⟩
  rw [show (⟨path.toArray⟩ : ByteArray).data.toList = path by simp] at a1
  have T1 := Lib.hid (T0.out.next a1 f1 g1)
  clear a1 f1 g1 T0
  have d1 := T1.out.cell 10 _ rfl
  go_wp2_with (fail)
  refine (wInt pw G1 (L ++ textB path) cv _ HF.out.cv.1 HF.out.cv.2 T1.out.a (by have := HL.out; have := HP.out; have l0 := textB_len path; (try simp only [List.length_append]); omega)).mono ?_
  rintro e w2 ⟨rfl, G2, a2, f2, g2⟩
  have T2 := Lib.hid (T1.out.next a2 f2 g2)
  clear a2 f2 g2 T1
  go_wp2
  go_end0
  exact ⟨rfl, T2.out.put.cast (by simp [bodyB, List.append_assoc])⟩
set_option maxHeartbeats 3200000 in
set_option maxRecDepth 8000 in
theorem body3_calls (f : Fd) (p : Pl) (np pw : Nat) (G : Option Nat) (L : List UInt8) (lo hi : Nat) (w : World) (hf : f.Ok) (hH : Has w) (hw : Wtr w pw G L) (hp : ∀ k, WF pw G k → k < w.heap.size) (hpl : f.path.length ≤ 1000 ∧ f.data.length ≤ 1000) (hlim : L.length ≤ 1000000) (hD : Rd w lo hi p.A f.data) (hh : hi ≤ w.heap.size) (hpn : ∀ k, lo ≤ k → k < hi → ¬ WF pw G k) (hk : f.k = 3) :
    Calls Tryd.prog 30 #[.pointer (some ⟨pw, 0, none⟩), dval f p np] w fun e w' => e = .returned (.tuple #[]) ∧ Put pw G (L ++ bodyB f) w w' := by
  have HF := Lib.hid hf
  have HP := Lib.hid hpl
  have HL := Lib.hid hlim
  have HD := Lib.hid hD
  have HPN := Lib.hid hpn
  obtain ⟨z, k, s, t, x, m, path, data, ow, ve, cv, ti, er, cver, ms⟩ := f
  obtain ⟨A, c, B, d, P, e'⟩ := p
  simp only at hk
  subst hk
  simp only at HP HD
  have hcell : (w.alloc (.cells (dcells ⟨z, 3, s, t, x, m, path, data, ow, ve, cv, ti, er, (cver, ms)⟩ ⟨A, c, B, d, P, e'⟩ np) 31)).cell? ⟨0, 3, none⟩ = some (.int .i64 11) := hH.box _ _ _ 3 (by decide)
  have b1 : bits .and .i64 11 1 = 1 := by decide
  have b2 : bits .and .i64 11 2 = 2 := by decide
  have b4 : bits .and .i64 11 4 = 0 := by decide
  have b8 : bits .and .i64 11 8 = 8 := by decide
  have b16 : bits .and .i64 11 16 = 0 := by decide
  have b32 : bits .and .i64 11 32 = 0 := by decide
  have b64 : bits .and .i64 11 64 = 0 := by decide
  have b128 : bits .and .i64 11 128 = 0 := by decide
  have b256 : bits .and .i64 11 256 = 0 := by decide
  have T0 := Lib.hid (BW.start hw hp (dcells ⟨z, 3, s, t, x, m, path, data, ow, ve, cv, ti, er, (cver, ms)⟩ ⟨A, c, B, d, P, e'⟩ np))
  simp only [dval, dcells] at *
  clear hH hf hpl hlim hD hpn hp hw
  go_enter Tryd.func30, Tryd.ntmps30
  go_wp2_with (fail)
  refine (wText pw G (L) ⟨path.toArray⟩ _ T0.out.a (by have := HL.out; have := HP.out; (try simp only [mk_size]); omega)).mono ?_
  rintro e w1 ⟨rfl, G1, a1, f1, g1⟩
  rw [show (⟨path.toArray⟩ : ByteArray).data.toList = path by simp] at a1
  have T1 := Lib.hid (T0.out.next a1 f1 g1)
  clear a1 f1 g1 T0
  have d1 := T1.out.cell 7 _ rfl
  go_wp2_with (fail)
  refine (wBytes pw G1 (L ++ textB path) data A c lo hi _ T1.out.a (by have := HL.out; have := HP.out; have l0 := textB_len path; (try simp only [List.length_append]); omega) (HD.out.fr T1.out.fr hh HPN.out) (Nat.le_trans hh T1.out.fr.size) (fun k h1 h2 h3 => (T1.out.g k h3).elim (HPN.out k h1 h2) (fun h => by omega))).mono ?_
  rintro e w2 ⟨rfl, G2, a2, f2, g2⟩
  have T2 := Lib.hid (T1.out.next a2 f2 g2)
  clear a2 f2 g2 T1
  have d2 := T2.out.cell 9 _ rfl
  go_wp2_with (fail)
  refine (wInt pw G2 (L ++ textB path ++ textB data) ve _ HF.out.ve.1 HF.out.ve.2 T2.out.a (by have := HL.out; have := HP.out; have l0 := textB_len path; have l1 := textB_len data; (try simp only [List.length_append]); omega)).mono ?_
  rintro e w3 ⟨rfl, G3, a3, f3, g3⟩
  have T3 := Lib.hid (T2.out.next a3 f3 g3)
  clear a3 f3 g3 T2
  go_wp2
  go_end0
  exact ⟨rfl, T3.out.put.cast (by simp [bodyB, List.append_assoc])⟩
set_option maxHeartbeats 3200000 in
set_option maxRecDepth 8000 in
theorem body4_calls (f : Fd) (p : Pl) (np pw : Nat) (G : Option Nat) (L : List UInt8) (lo hi : Nat) (w : World) (hf : f.Ok) (hH : Has w) (hw : Wtr w pw G L) (hp : ∀ k, WF pw G k → k < w.heap.size) (hpl : f.path.length ≤ 1000 ∧ f.data.length ≤ 1000) (hlim : L.length ≤ 1000000) (hD : Rd w lo hi p.A f.data) (_hh : hi ≤ w.heap.size) (hpn : ∀ k, lo ≤ k → k < hi → ¬ WF pw G k) (hk : f.k = 4) :
    Calls Tryd.prog 30 #[.pointer (some ⟨pw, 0, none⟩), dval f p np] w fun e w' => e = .returned (.tuple #[]) ∧ Put pw G (L ++ bodyB f) w w' := by
  have HF := Lib.hid hf
  have HP := Lib.hid hpl
  have HL := Lib.hid hlim
  have HD := Lib.hid hD
  have HPN := Lib.hid hpn
  obtain ⟨z, k, s, t, x, m, path, data, ow, ve, cv, ti, er, cver, ms⟩ := f
  obtain ⟨A, c, B, d, P, e'⟩ := p
  simp only at hk
  subst hk
  simp only at HP HD
  have hcell : (w.alloc (.cells (dcells ⟨z, 4, s, t, x, m, path, data, ow, ve, cv, ti, er, (cver, ms)⟩ ⟨A, c, B, d, P, e'⟩ np) 31)).cell? ⟨0, 4, none⟩ = some (.int .i64 32) := hH.box _ _ _ 4 (by decide)
  have b1 : bits .and .i64 32 1 = 0 := by decide
  have b2 : bits .and .i64 32 2 = 0 := by decide
  have b4 : bits .and .i64 32 4 = 0 := by decide
  have b8 : bits .and .i64 32 8 = 0 := by decide
  have b16 : bits .and .i64 32 16 = 0 := by decide
  have b32 : bits .and .i64 32 32 = 32 := by decide
  have b64 : bits .and .i64 32 64 = 0 := by decide
  have b128 : bits .and .i64 32 128 = 0 := by decide
  have b256 : bits .and .i64 32 256 = 0 := by decide
  have T0 := Lib.hid (BW.start hw hp (dcells ⟨z, 4, s, t, x, m, path, data, ow, ve, cv, ti, er, (cver, ms)⟩ ⟨A, c, B, d, P, e'⟩ np))
  simp only [dval, dcells] at *
  clear hH hf hpl hlim hD hpn hp hw
  go_enter Tryd.func30, Tryd.ntmps30
  go_wp2_with (fail)
  refine (wInt pw G (L) ti _ HF.out.ti.1 HF.out.ti.2 T0.out.a (by have := HL.out; have := HP.out; (try simp only [List.length_append, mk_size]); omega)).mono ?_
  rintro e w1 ⟨rfl, G1, a1, f1, g1⟩
  have T1 := Lib.hid (T0.out.next a1 f1 g1)
  clear a1 f1 g1 T0
  go_wp2
  go_end0
  exact ⟨rfl, T1.out.put.cast (by simp [bodyB])⟩
set_option maxHeartbeats 3200000 in
set_option maxRecDepth 8000 in
theorem body6_calls (f : Fd) (p : Pl) (np pw : Nat) (G : Option Nat) (L : List UInt8) (lo hi : Nat) (w : World) (hf : f.Ok) (hH : Has w) (hw : Wtr w pw G L) (hp : ∀ k, WF pw G k → k < w.heap.size) (hpl : f.path.length ≤ 1000 ∧ f.data.length ≤ 1000) (hlim : L.length ≤ 1000000) (hD : Rd w lo hi p.A f.data) (_hh : hi ≤ w.heap.size) (hpn : ∀ k, lo ≤ k → k < hi → ¬ WF pw G k) (hk : f.k = 6) :
    Calls Tryd.prog 30 #[.pointer (some ⟨pw, 0, none⟩), dval f p np] w fun e w' => e = .returned (.tuple #[]) ∧ Put pw G (L ++ bodyB f) w w' := by
  have HF := Lib.hid hf
  have HP := Lib.hid hpl
  have HL := Lib.hid hlim
  have HD := Lib.hid hD
  have HPN := Lib.hid hpn
  obtain ⟨z, k, s, t, x, m, path, data, ow, ve, cv, ti, er, cver, ms⟩ := f
  obtain ⟨A, c, B, d, P, e'⟩ := p
  simp only at hk
  subst hk
  simp only at HP HD
  have hcell : (w.alloc (.cells (dcells ⟨z, 6, s, t, x, m, path, data, ow, ve, cv, ti, er, (cver, ms)⟩ ⟨A, c, B, d, P, e'⟩ np) 31)).cell? ⟨0, 6, none⟩ = some (.int .i64 0) := hH.box _ _ _ 6 (by decide)
  have b1 : bits .and .i64 0 1 = 0 := by decide
  have b2 : bits .and .i64 0 2 = 0 := by decide
  have b4 : bits .and .i64 0 4 = 0 := by decide
  have b8 : bits .and .i64 0 8 = 0 := by decide
  have b16 : bits .and .i64 0 16 = 0 := by decide
  have b32 : bits .and .i64 0 32 = 0 := by decide
  have b64 : bits .and .i64 0 64 = 0 := by decide
  have b128 : bits .and .i64 0 128 = 0 := by decide
  have b256 : bits .and .i64 0 256 = 0 := by decide
  have T0 := Lib.hid (BW.start hw hp (dcells ⟨z, 6, s, t, x, m, path, data, ow, ve, cv, ti, er, (cver, ms)⟩ ⟨A, c, B, d, P, e'⟩ np))
  simp only [dval, dcells] at *
  clear hH hf hpl hlim hD hpn hp hw
  go_enter Tryd.func30, Tryd.ntmps30
  go_wp2_with (fail)
  go_end0
  exact ⟨rfl, by have h := T0.out.put; rw [show bodyB _ = [] from rfl, List.append_nil]; exact h⟩
set_option maxHeartbeats 3200000 in
set_option maxRecDepth 8000 in
theorem body9_calls (f : Fd) (p : Pl) (np pw : Nat) (G : Option Nat) (L : List UInt8) (lo hi : Nat) (w : World) (hf : f.Ok) (hH : Has w) (hw : Wtr w pw G L) (hp : ∀ k, WF pw G k → k < w.heap.size) (hpl : f.path.length ≤ 1000 ∧ f.data.length ≤ 1000) (hlim : L.length ≤ 1000000) (hD : Rd w lo hi p.A f.data) (_hh : hi ≤ w.heap.size) (hpn : ∀ k, lo ≤ k → k < hi → ¬ WF pw G k) (hk : f.k = 9) :
    Calls Tryd.prog 30 #[.pointer (some ⟨pw, 0, none⟩), dval f p np] w fun e w' => e = .returned (.tuple #[]) ∧ Put pw G (L ++ bodyB f) w w' := by
  have HF := Lib.hid hf
  have HP := Lib.hid hpl
  have HL := Lib.hid hlim
  have HD := Lib.hid hD
  have HPN := Lib.hid hpn
  obtain ⟨z, k, s, t, x, m, path, data, ow, ve, cv, ti, er, cver, ms⟩ := f
  obtain ⟨A, c, B, d, P, e'⟩ := p
  simp only at hk
  subst hk
  simp only at HP HD
  have hcell : (w.alloc (.cells (dcells ⟨z, 9, s, t, x, m, path, data, ow, ve, cv, ti, er, (cver, ms)⟩ ⟨A, c, B, d, P, e'⟩ np) 31)).cell? ⟨0, 9, none⟩ = some (.int .i64 64) := hH.box _ _ _ 9 (by decide)
  have b1 : bits .and .i64 64 1 = 0 := by decide
  have b2 : bits .and .i64 64 2 = 0 := by decide
  have b4 : bits .and .i64 64 4 = 0 := by decide
  have b8 : bits .and .i64 64 8 = 0 := by decide
  have b16 : bits .and .i64 64 16 = 0 := by decide
  have b32 : bits .and .i64 64 32 = 0 := by decide
  have b64 : bits .and .i64 64 64 = 64 := by decide
  have b128 : bits .and .i64 64 128 = 0 := by decide
  have b256 : bits .and .i64 64 256 = 0 := by decide
  have T0 := Lib.hid (BW.start hw hp (dcells ⟨z, 9, s, t, x, m, path, data, ow, ve, cv, ti, er, (cver, ms)⟩ ⟨A, c, B, d, P, e'⟩ np))
  simp only [dval, dcells] at *
  clear hH hf hpl hlim hD hpn hp hw
  go_enter Tryd.func30, Tryd.ntmps30
  go_wp2_with (fail)
  refine (wInt pw G (L) er _ HF.out.er.1 HF.out.er.2 T0.out.a (by have := HL.out; have := HP.out; (try simp only [List.length_append, mk_size]); omega)).mono ?_
  rintro e w1 ⟨rfl, G1, a1, f1, g1⟩
  have T1 := Lib.hid (T0.out.next a1 f1 g1)
  clear a1 f1 g1 T0
  go_wp2
  go_end0
  exact ⟨rfl, T1.out.put.cast (by simp [bodyB])⟩
end Go.Proofs.YtljioepkbbbibaaDoor
