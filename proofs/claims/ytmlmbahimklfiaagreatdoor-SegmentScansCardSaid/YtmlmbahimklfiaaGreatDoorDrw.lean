/-
  Drw: the document's body puts what a kind has: the kinds without parts.
-/
import Derived.Test.YtmlmbahimklfiaaGreatDoorDeh
import Derived.Test.YtmlmbahimklfiaaGreatDoorEnr
namespace Go.Proofs.YtmlmbahimklfiaaGreatDoor
open Go.RowKit

/-- A writer that was handed in, a deed's box beside it. -/
structure RB (w0 w : World) (pw : Nat) (G0 G : Option Nat) (L : List UInt8) (b : Nat) (cs : Array Value) : Prop where
  a : RWt w pw G L
  fr : Fr (WF pw G0) w0 w
  g : ∀ k, WF pw G k → WF pw G0 k ∨ w0.heap.size ≤ k
  bx : w.heap[b]? = some (.cells cs 31 (0, 0))
  nb : ¬ WF pw G b
theorem RB.next {w0 w w1 : World} {pw b : Nat} {G0 G G1 : Option Nat} {L L' : List UInt8} {cs : Array Value} (h : RB w0 w pw G0 G L b cs) (a : RWt w1 pw G1 L') (f : Fr (WF pw G) w w1) (g : ∀ k, WF pw G1 k → WF pw G k ∨ w.heap.size ≤ k) : RB w0 w1 pw G0 G1 L' b cs :=
  ⟨a, h.fr.trans f fun k hk hx => (h.g k hx).elim id (fun hx => absurd hx (by omega)), fun k hk => (g k hk).elim (h.g k) (fun hx => .inr (Nat.le_trans h.fr.size hx)), f.at_ h.bx h.nb, fun hx => (g b hx).elim h.nb (fun hx => by have := Lib.lt_of_heap h.bx; omega)⟩
theorem RB.put {w0 w : World} {pw b : Nat} {G0 G : Option Nat} {L : List UInt8} {cs : Array Value} (h : RB w0 w pw G0 G L b cs) : RPut pw G0 L w0 w := ⟨G, h.a, h.fr, h.g⟩
theorem RB.start {w : World} {pw : Nat} {G : Option Nat} {L : List UInt8} (h : RWt w pw G L) (hp : ∀ k, WF pw G k → k < w.heap.size) (cs : Array Value) : RB w (w.alloc (.cells cs 31)) pw G G L w.heap.size cs :=
  ⟨h.fr ((Fr.refl NoB w).alloc _) (fun _ _ x => x), (Fr.refl _ w).alloc _, fun k hk => .inl hk, heap_alloc_new w _, fun hx => by have := hp _ hx; omega⟩
theorem RB.cell {w0 w : World} {pw b : Nat} {G0 G : Option Nat} {L : List UInt8} {cs : Array Value} (h : RB w0 w pw G0 G L b cs) (i : Nat) (v : Value) (hv : cs[i]? = some v) : w.cell? ⟨b, i, none⟩ = some v := (cells_of h.bx i).1.trans hv

theorem RB.keep {w0 w w1 : World} {pw b : Nat} {G0 G : Option Nat} {L : List UInt8} {cs : Array Value} (h : RB w0 w pw G0 G L b cs) (f : Fr NoB w w1) : RB w0 w1 pw G0 G L b cs :=
  ⟨h.a.fr f (fun _ _ x => x), h.fr.trans f fun _ _ x => x.elim, h.g, f.at_ h.bx (fun x => x), h.nb⟩
theorem RB.cast {w0 w : World} {pw b : Nat} {G0 G : Option Nat} {L L' : List UInt8} {cs : Array Value} (h : RB w0 w pw G0 G L b cs) (e : L = L') : RB w0 w pw G0 G L' b cs := e ▸ h
set_option maxHeartbeats 3200000 in
set_option maxRecDepth 8000 in
theorem rbody1_calls (f : Fd) (p : Pl) (np pw : Nat) (G : Option Nat) (L : List UInt8) (lo hi : Nat) (w : World) (hf : f.Ok) (hw : RWt w pw G L) (hp : ∀ k, WF pw G k → k < w.heap.size) (hpl : f.path.length ≤ 1000 ∧ f.data.length ≤ 1000) (hlim : L.length ≤ 1000000) (hD : Rd w lo hi p.A f.data) (hh : hi ≤ w.heap.size) (hpn : ∀ k, lo ≤ k → k < hi → ¬ WF pw G k) (hk : f.k = 1) :
    Calls Tryz.prog 58 #[.pointer (some ⟨pw, 0, none⟩), dval f p np] w fun e w' => e = .returned (.tuple #[]) ∧ RPut pw G (L ++ bodyB f) w w' := by
  have HF := Lib.hid hf
  have HP := Lib.hid hpl
  have HL := Lib.hid hlim
  have HD := Lib.hid hD
  have HPN := Lib.hid hpn
  obtain ⟨z, k, s, t, x, m, path, data, ow, ve, cv, ti, er, cver, ms⟩ := f
  obtain ⟨A, c, B, d, P, e'⟩ := p
  simp only at hk
  subst hk
  simp only at HP HD
  have T0 := Lib.hid (RB.start hw hp (dcells ⟨z, 1, s, t, x, m, path, data, ow, ve, cv, ti, er, (cver, ms)⟩ ⟨A, c, B, d, P, e'⟩ np))
  simp only [dval, dcells] at *
  clear hf hpl hlim hD hpn hp hw
  go_enter Tryz.func58, Tryz.ntmps58
  go_wp2_with (fail)
  refine (rwText pw G (L) ⟨path.toArray⟩ _ T0.out.a (by have := HL.out; have := HP.out; (try simp only [mk_size]); omega)).mono ?_
  rintro e w1 ⟨rfl, G1, a1, f1, g1⟩
  rw [show (⟨path.toArray⟩ : ByteArray).data.toList = path by simp] at a1
  have T1 := Lib.hid (T0.out.next a1 f1 g1)
  clear a1 f1 g1 T0
  have d1 := T1.out.cell 7 _ rfl
  go_wp2_with (fail)
  refine (rwBytes pw G1 (L ++ textB path) data A c lo hi _ T1.out.a (by have := HL.out; have := HP.out; have l0 := textB_len path; (try simp only [List.length_append]); omega) (HD.out.fr T1.out.fr hh HPN.out)).mono ?_
  rintro e w2 ⟨rfl, G2, a2, f2, g2⟩
  have T2 := Lib.hid (T1.out.next a2 f2 g2)
  clear a2 f2 g2 T1
  have d2 := T2.out.cell 8 _ rfl
  go_wp2_with (fail)
  refine (rwInt pw G2 (L ++ textB path ++ textB data) ow _ HF.out.ow.1 HF.out.ow.2 T2.out.a (by have := HL.out; have := HP.out; have l0 := textB_len path; have l1 := textB_len data; (try simp only [List.length_append]); omega)).mono ?_
  rintro e w3 ⟨rfl, G3, a3, f3, g3⟩
  have T3 := Lib.hid (T2.out.next a3 f3 g3)
  clear a3 f3 g3 T2
  have d3 := T3.out.cell 10 _ rfl
  go_wp2_with (fail)
  refine (rwInt pw G3 (L ++ textB path ++ textB data ++ intB ow) cv _ HF.out.cv.1 HF.out.cv.2 T3.out.a (by have := HL.out; have := HP.out; have l0 := textB_len path; have l1 := textB_len data; have l2 := intB_len ow; (try simp only [List.length_append]); omega)).mono ?_
  rintro e w4 ⟨rfl, G4, a4, f4, g4⟩
  have T4 := Lib.hid (T3.out.next a4 f4 g4)
  clear a4 f4 g4 T3
  go_wp2
  go_end0
  exact ⟨rfl, T4.out.put.cast (by simp [bodyB, List.append_assoc])⟩
set_option maxHeartbeats 3200000 in
set_option maxRecDepth 8000 in
theorem rbody2_calls (f : Fd) (p : Pl) (np pw : Nat) (G : Option Nat) (L : List UInt8) (lo hi : Nat) (w : World) (hf : f.Ok) (hw : RWt w pw G L) (hp : ∀ k, WF pw G k → k < w.heap.size) (hpl : f.path.length ≤ 1000 ∧ f.data.length ≤ 1000) (hlim : L.length ≤ 1000000) (hD : Rd w lo hi p.A f.data) (_hh : hi ≤ w.heap.size) (hpn : ∀ k, lo ≤ k → k < hi → ¬ WF pw G k) (hk : f.k = 2) :
    Calls Tryz.prog 58 #[.pointer (some ⟨pw, 0, none⟩), dval f p np] w fun e w' => e = .returned (.tuple #[]) ∧ RPut pw G (L ++ bodyB f) w w' := by
  have HF := Lib.hid hf
  have HP := Lib.hid hpl
  have HL := Lib.hid hlim
  have HD := Lib.hid hD
  have HPN := Lib.hid hpn
  obtain ⟨z, k, s, t, x, m, path, data, ow, ve, cv, ti, er, cver, ms⟩ := f
  obtain ⟨A, c, B, d, P, e'⟩ := p
  simp only at hk
  subst hk
  simp only at HP HD
  have T0 := Lib.hid (RB.start hw hp (dcells ⟨z, 2, s, t, x, m, path, data, ow, ve, cv, ti, er, (cver, ms)⟩ ⟨A, c, B, d, P, e'⟩ np))
  simp only [dval, dcells] at *
  clear hf hpl hlim hD hpn hp hw
  go_enter Tryz.func58, Tryz.ntmps58
  go_wp2_with (fail)
  refine (rwText pw G (L) ⟨path.toArray⟩ _ T0.out.a (by have := HL.out; have := HP.out; (try simp only [mk_size]); omega)).mono ?_
  rintro e w1 ⟨rfl, G1, a1, f1, g1⟩
  rw [show (⟨path.toArray⟩ : ByteArray).data.toList = path by simp] at a1
  have T1 := Lib.hid (T0.out.next a1 f1 g1)
  clear a1 f1 g1 T0
  have d1 := T1.out.cell 10 _ rfl
  go_wp2_with (fail)
  refine (rwInt pw G1 (L ++ textB path) cv _ HF.out.cv.1 HF.out.cv.2 T1.out.a (by have := HL.out; have := HP.out; have l0 := textB_len path; (try simp only [List.length_append]); omega)).mono ?_
  rintro e w2 ⟨rfl, G2, a2, f2, g2⟩
  have T2 := Lib.hid (T1.out.next a2 f2 g2)
  clear a2 f2 g2 T1
  go_wp2
  go_end0
  exact ⟨rfl, T2.out.put.cast (by simp [bodyB, List.append_assoc])⟩
set_option maxHeartbeats 3200000 in
set_option maxRecDepth 8000 in
theorem rbody3_calls (f : Fd) (p : Pl) (np pw : Nat) (G : Option Nat) (L : List UInt8) (lo hi : Nat) (w : World) (hf : f.Ok) (hw : RWt w pw G L) (hp : ∀ k, WF pw G k → k < w.heap.size) (hpl : f.path.length ≤ 1000 ∧ f.data.length ≤ 1000) (hlim : L.length ≤ 1000000) (hD : Rd w lo hi p.A f.data) (hh : hi ≤ w.heap.size) (hpn : ∀ k, lo ≤ k → k < hi → ¬ WF pw G k) (hk : f.k = 3) :
    Calls Tryz.prog 58 #[.pointer (some ⟨pw, 0, none⟩), dval f p np] w fun e w' => e = .returned (.tuple #[]) ∧ RPut pw G (L ++ bodyB f) w w' := by
  have HF := Lib.hid hf
  have HP := Lib.hid hpl
  have HL := Lib.hid hlim
  have HD := Lib.hid hD
  have HPN := Lib.hid hpn
  obtain ⟨z, k, s, t, x, m, path, data, ow, ve, cv, ti, er, cver, ms⟩ := f
  obtain ⟨A, c, B, d, P, e'⟩ := p
  simp only at hk
  subst hk
  simp only at HP HD
  have T0 := Lib.hid (RB.start hw hp (dcells ⟨z, 3, s, t, x, m, path, data, ow, ve, cv, ti, er, (cver, ms)⟩ ⟨A, c, B, d, P, e'⟩ np))
  simp only [dval, dcells] at *
  clear hf hpl hlim hD hpn hp hw
  go_enter Tryz.func58, Tryz.ntmps58
  go_wp2_with (fail)
  refine (rwText pw G (L) ⟨path.toArray⟩ _ T0.out.a (by have := HL.out; have := HP.out; (try simp only [mk_size]); omega)).mono ?_
  rintro e w1 ⟨rfl, G1, a1, f1, g1⟩
  rw [show (⟨path.toArray⟩ : ByteArray).data.toList = path by simp] at a1
  have T1 := Lib.hid (T0.out.next a1 f1 g1)
  clear a1 f1 g1 T0
  have d1 := T1.out.cell 7 _ rfl
  go_wp2_with (fail)
  refine (rwBytes pw G1 (L ++ textB path) data A c lo hi _ T1.out.a (by have := HL.out; have := HP.out; have l0 := textB_len path; (try simp only [List.length_append]); omega) (HD.out.fr T1.out.fr hh HPN.out)).mono ?_
  rintro e w2 ⟨rfl, G2, a2, f2, g2⟩
  have T2 := Lib.hid (T1.out.next a2 f2 g2)
  clear a2 f2 g2 T1
  have d2 := T2.out.cell 9 _ rfl
  go_wp2_with (fail)
  refine (rwInt pw G2 (L ++ textB path ++ textB data) ve _ HF.out.ve.1 HF.out.ve.2 T2.out.a (by have := HL.out; have := HP.out; have l0 := textB_len path; have l1 := textB_len data; (try simp only [List.length_append]); omega)).mono ?_
  rintro e w3 ⟨rfl, G3, a3, f3, g3⟩
  have T3 := Lib.hid (T2.out.next a3 f3 g3)
  clear a3 f3 g3 T2
  go_wp2
  go_end0
  exact ⟨rfl, T3.out.put.cast (by simp [bodyB, List.append_assoc])⟩
set_option maxHeartbeats 3200000 in
set_option maxRecDepth 8000 in
theorem rbody4_calls (f : Fd) (p : Pl) (np pw : Nat) (G : Option Nat) (L : List UInt8) (lo hi : Nat) (w : World) (hf : f.Ok) (hw : RWt w pw G L) (hp : ∀ k, WF pw G k → k < w.heap.size) (hpl : f.path.length ≤ 1000 ∧ f.data.length ≤ 1000) (hlim : L.length ≤ 1000000) (hD : Rd w lo hi p.A f.data) (_hh : hi ≤ w.heap.size) (hpn : ∀ k, lo ≤ k → k < hi → ¬ WF pw G k) (hk : f.k = 4) :
    Calls Tryz.prog 58 #[.pointer (some ⟨pw, 0, none⟩), dval f p np] w fun e w' => e = .returned (.tuple #[]) ∧ RPut pw G (L ++ bodyB f) w w' := by
  have HF := Lib.hid hf
  have HP := Lib.hid hpl
  have HL := Lib.hid hlim
  have HD := Lib.hid hD
  have HPN := Lib.hid hpn
  obtain ⟨z, k, s, t, x, m, path, data, ow, ve, cv, ti, er, cver, ms⟩ := f
  obtain ⟨A, c, B, d, P, e'⟩ := p
  simp only at hk
  subst hk
  simp only at HP HD
  have T0 := Lib.hid (RB.start hw hp (dcells ⟨z, 4, s, t, x, m, path, data, ow, ve, cv, ti, er, (cver, ms)⟩ ⟨A, c, B, d, P, e'⟩ np))
  simp only [dval, dcells] at *
  clear hf hpl hlim hD hpn hp hw
  go_enter Tryz.func58, Tryz.ntmps58
  go_wp2_with (fail)
  refine (rwInt pw G (L) ti _ HF.out.ti.1 HF.out.ti.2 T0.out.a (by have := HL.out; have := HP.out; (try simp only [List.length_append, mk_size]); omega)).mono ?_
  rintro e w1 ⟨rfl, G1, a1, f1, g1⟩
  have T1 := Lib.hid (T0.out.next a1 f1 g1)
  clear a1 f1 g1 T0
  go_wp2
  go_end0
  exact ⟨rfl, T1.out.put.cast (by simp [bodyB])⟩
set_option maxHeartbeats 3200000 in
set_option maxRecDepth 8000 in
theorem rbody6_calls (f : Fd) (p : Pl) (np pw : Nat) (G : Option Nat) (L : List UInt8) (lo hi : Nat) (w : World) (hf : f.Ok) (hw : RWt w pw G L) (hp : ∀ k, WF pw G k → k < w.heap.size) (hpl : f.path.length ≤ 1000 ∧ f.data.length ≤ 1000) (hlim : L.length ≤ 1000000) (hD : Rd w lo hi p.A f.data) (_hh : hi ≤ w.heap.size) (hpn : ∀ k, lo ≤ k → k < hi → ¬ WF pw G k) (hk : f.k = 6) :
    Calls Tryz.prog 58 #[.pointer (some ⟨pw, 0, none⟩), dval f p np] w fun e w' => e = .returned (.tuple #[]) ∧ RPut pw G (L ++ bodyB f) w w' := by
  have HF := Lib.hid hf
  have HP := Lib.hid hpl
  have HL := Lib.hid hlim
  have HD := Lib.hid hD
  have HPN := Lib.hid hpn
  obtain ⟨z, k, s, t, x, m, path, data, ow, ve, cv, ti, er, cver, ms⟩ := f
  obtain ⟨A, c, B, d, P, e'⟩ := p
  simp only at hk
  subst hk
  simp only at HP HD
  have T0 := Lib.hid (RB.start hw hp (dcells ⟨z, 6, s, t, x, m, path, data, ow, ve, cv, ti, er, (cver, ms)⟩ ⟨A, c, B, d, P, e'⟩ np))
  simp only [dval, dcells] at *
  clear hf hpl hlim hD hpn hp hw
  go_enter Tryz.func58, Tryz.ntmps58
  go_wp2_with (fail)
  go_end0
  exact ⟨rfl, by have h := T0.out.put; rw [show bodyB _ = [] from rfl, List.append_nil]; exact h⟩
set_option maxHeartbeats 3200000 in
set_option maxRecDepth 8000 in
theorem rbody9_calls (f : Fd) (p : Pl) (np pw : Nat) (G : Option Nat) (L : List UInt8) (lo hi : Nat) (w : World) (hf : f.Ok) (hw : RWt w pw G L) (hp : ∀ k, WF pw G k → k < w.heap.size) (hpl : f.path.length ≤ 1000 ∧ f.data.length ≤ 1000) (hlim : L.length ≤ 1000000) (hD : Rd w lo hi p.A f.data) (_hh : hi ≤ w.heap.size) (hpn : ∀ k, lo ≤ k → k < hi → ¬ WF pw G k) (hk : f.k = 9) :
    Calls Tryz.prog 58 #[.pointer (some ⟨pw, 0, none⟩), dval f p np] w fun e w' => e = .returned (.tuple #[]) ∧ RPut pw G (L ++ bodyB f) w w' := by
  have HF := Lib.hid hf
  have HP := Lib.hid hpl
  have HL := Lib.hid hlim
  have HD := Lib.hid hD
  have HPN := Lib.hid hpn
  obtain ⟨z, k, s, t, x, m, path, data, ow, ve, cv, ti, er, cver, ms⟩ := f
  obtain ⟨A, c, B, d, P, e'⟩ := p
  simp only at hk
  subst hk
  simp only at HP HD
  have T0 := Lib.hid (RB.start hw hp (dcells ⟨z, 9, s, t, x, m, path, data, ow, ve, cv, ti, er, (cver, ms)⟩ ⟨A, c, B, d, P, e'⟩ np))
  simp only [dval, dcells] at *
  clear hf hpl hlim hD hpn hp hw
  go_enter Tryz.func58, Tryz.ntmps58
  go_wp2_with (fail)
  refine (rwInt pw G (L) er _ HF.out.er.1 HF.out.er.2 T0.out.a (by have := HL.out; have := HP.out; (try simp only [List.length_append, mk_size]); omega)).mono ?_
  rintro e w1 ⟨rfl, G1, a1, f1, g1⟩
  have T1 := Lib.hid (T0.out.next a1 f1 g1)
  clear a1 f1 g1 T0
  go_wp2
  go_end0
  exact ⟨rfl, T1.out.put.cast (by simp [bodyB])⟩
set_option maxHeartbeats 3200000 in
set_option maxRecDepth 8000 in
theorem rbody7_calls (f : Fd) (p : Pl) (np pw : Nat) (G : Option Nat) (L : List UInt8) (lo hi : Nat) (w : World) (hf : f.Ok) (hw : RWt w pw G L) (hp : ∀ k, WF pw G k → k < w.heap.size) (hlim : L.length ≤ 1000000) (hM : RdM w lo hi p.B f.c.2) (hh : hi ≤ w.heap.size) (hpn : ∀ k, lo ≤ k → k < hi → ¬ WF pw G k) (hck : chk f.c.1 f.c.2 = 0) (hk : f.k = 7) :
    Calls Tryz.prog 58 #[.pointer (some ⟨pw, 0, none⟩), dval f p np] w fun e w' => e = .returned (.tuple #[]) ∧ RPut pw G (L ++ bodyB f) w w' := by
  have HMS := Lib.hid hf.ms
  have HL := Lib.hid hlim
  have HM := Lib.hid hM
  have HPN := Lib.hid hpn
  obtain ⟨z, k, s, t, x, m, path, data, ow, ve, cv, ti, er, cver, ms⟩ := f
  obtain ⟨A, c, B, d, P, e'⟩ := p
  simp only at hk
  subst hk
  simp only at HM HMS hck
  have hpe : putE cver ms = (ensB cver ms, 0) := if_pos hck
  have hpl := putE_len cver ms
  rw [hpe] at hpl
  simp only at hpl
  have HPL := Lib.hid hpl
  have hcp := fun W (hR : RdM W lo hi B ms) (hi2 : hi ≤ W.heap.size) => rput_calls cver B ms d lo hi W hR hi2 (by have := HMS.out; omega)
  rw [hpe] at hcp
  have HCP := Lib.hid hcp
  have T0 := Lib.hid (RB.start hw hp (dcells ⟨z, 7, s, t, x, m, path, data, ow, ve, cv, ti, er, (cver, ms)⟩ ⟨A, c, B, d, P, e'⟩ np))
  simp only [dval, dcells] at *
  clear hf hlim hM hpn hp hw hcp hpl hck hpe
  go_enter Tryz.func58, Tryz.ntmps58
  go_wp2_with (fail)
  refine (HCP.out _ (HM.out.fr T0.out.fr hh HPN.out) (Nat.le_trans hh T0.out.fr.size)).mono ?_
  rintro e w1 ⟨A', c', rfl, hr, f1⟩
  have T1 := Lib.hid (T0.out.keep f1)
  have HR := Lib.hid hr
  have HG := Lib.hid (fun k (h1 : (w.alloc (.cells #[.int .i64 z, .int .u8 7, .int .i64 s, .int .i64 t, .int .i64 x, .int .i64 m, .string ⟨path.toArray⟩, .slice A data.length c, .int .i64 ow, .int .i64 ve, .int .i64 cv, .int .i64 ti, .int .i64 er, .int .i64 cver, .slice B ms.length d, .slice P np e'] 31)).heap.size ≤ k) (h2 : WF pw G k) => Nat.lt_irrefl _ (Nat.lt_of_lt_of_le (T0.out.a.lt h2) h1))
  clear hr f1 T0 HCP HM
  have HBO : Hid (bodyB ⟨z, 7, s, t, x, m, path, data, ow, ve, cv, ti, er, (cver, ms)⟩ = textB (ensB cver ms)) := by simp [bodyB, Hid]
  generalize ensB cver ms = eb at *
  go_wp2_with (fail)
  refine (rwBytes pw G L eb A' c' _ _ _ T1.out.a (by have := HL.out; have := HPL.out; omega) HR.out).mono ?_
  rintro e w2 ⟨rfl, G2, a2, f2, g2⟩
  have T2 := Lib.hid (T1.out.next a2 f2 g2)
  clear a2 f2 g2 T1
  go_wp2
  go_end0
  exact ⟨rfl, T2.out.put.cast (by rw [HBO.out])⟩
end Go.Proofs.YtmlmbahimklfiaaGreatDoor
