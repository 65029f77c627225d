/-
  Rab: the document's body puts what a kind has: the kinds without members and parts.
-/
import Derived.Test.YtlckgkpgllhpbaaDoorRao
import Derived.Test.YtlckgkpgllhpbaaDoorRgp
namespace Go.Proofs.YtlckgkpgllhpbaaDoor
open Go.RowKit

/-- A writer of the document's that was handed in, a call's box and what its kind has beside it. -/
structure RA (w0 w : World) (pw : Nat) (G0 G : Option Nat) (L : List UInt8) (b : Nat) (cs : Array Value) (hb : Nat) (hs : Array Value) : Prop where
  a : RWt w pw G L
  fr : Fr (WF pw G0) w0 w
  g : ∀ k, WF pw G k → WF pw G0 k ∨ w0.heap.size ≤ k
  bx : w.heap[b]? = some (.cells cs 29 (0, 0))
  nb : ¬ WF pw G b
  hx : w.heap[hb]? = some (.cells hs 111 (0, 0))
  nh : ¬ WF pw G hb
section
variable {w0 w w1 : World} {pw b hb : Nat} {G0 G G1 : Option Nat} {L L' : List UInt8} {cs hs : Array Value}
theorem RA.next (h : RA w0 w pw G0 G L b cs hb hs) (a : RWt w1 pw G1 L') (f : Fr (WF pw G) w w1) (g : ∀ k, WF pw G1 k → WF pw G k ∨ w.heap.size ≤ k) : RA w0 w1 pw G0 G1 L' b cs hb hs :=
  ⟨a, h.fr.trans f fun k hk hx => (h.g k hx).elim id (fun hx => absurd hx (by omega)), fun k hk => (g k hk).elim (h.g k) (fun hx => .inr (Nat.le_trans h.fr.size hx)), f.at_ h.bx h.nb, fun hx => (g b hx).elim h.nb (fun hx => by have := Lib.lt_of_heap h.bx; omega), f.at_ h.hx h.nh, fun hx => (g hb hx).elim h.nh (fun hx => by have := Lib.lt_of_heap h.hx; omega)⟩
theorem RA.put (h : RA w0 w pw G0 G L b cs hb hs) : RPut pw G0 L w0 w := ⟨G, h.a, h.fr, h.g⟩
theorem RA.start {w1 : World} (h : RWt w pw G L) (cs hs : Array Value) (f : Fr NoB (w.alloc (.cells cs 29)) w1) : RA w (w1.alloc (.cells hs 111)) pw G G L w.heap.size cs w1.heap.size hs := by
  have f0 : Fr NoB w w1 := ((Fr.refl NoB w).alloc _).then f
  have f1 : Fr NoB w (w1.alloc (.cells hs 111)) := f0.alloc _
  exact ⟨h.fr f1 (fun _ _ x => x), f1.no, fun k hk => .inl hk, ((Fr.refl NoB w1).alloc _).at_ (f.at_ (heap_alloc_new w _) (fun x => x)) (fun x => x), fun hx => by have := h.lt hx; omega, heap_alloc_new w1 _, fun hx => by have := h.lt hx; have := f0.size; omega⟩
theorem RA.keep (h : RA w0 w pw G0 G L b cs hb hs) (f : Fr NoB w w1) : RA w0 w1 pw G0 G L b cs hb hs :=
  ⟨h.a.fr f (fun _ _ x => x), h.fr.trans f fun _ _ x => x.elim, h.g, f.at_ h.bx (fun x => x), h.nb, f.at_ h.hx (fun x => x), h.nh⟩
theorem RA.cast (h : RA w0 w pw G0 G L b cs hb hs) (e : L = L') : RA w0 w pw G0 G L' b cs hb hs := e ▸ h
theorem RA.cell (h : RA w0 w pw G0 G L b cs hb hs) (i : Nat) (v : Value) (hv : cs[i]? = some v) : w.cell? ⟨b, i, none⟩ = some v := (cells_of h.bx i).1.trans hv
theorem RA.has {b0 b1 b2 b3 b4 b5 b6 b7 b8 b9 : Bool} (h : RA w0 w pw G0 G L b cs hb #[.bool b0, .bool b1, .bool b2, .bool b3, .bool b4, .bool b5, .bool b6, .bool b7, .bool b8, .bool b9]) : w.cell? ⟨hb, 0, none⟩ = some (.bool b0) ∧ w.cell? ⟨hb, 1, none⟩ = some (.bool b1) ∧ w.cell? ⟨hb, 2, none⟩ = some (.bool b2) ∧ w.cell? ⟨hb, 3, none⟩ = some (.bool b3) ∧ w.cell? ⟨hb, 4, none⟩ = some (.bool b4) ∧ w.cell? ⟨hb, 5, none⟩ = some (.bool b5) ∧ w.cell? ⟨hb, 6, none⟩ = some (.bool b6) ∧ w.cell? ⟨hb, 7, none⟩ = some (.bool b7) ∧ w.cell? ⟨hb, 8, none⟩ = some (.bool b8) ∧ w.cell? ⟨hb, 9, none⟩ = some (.bool b9) :=
  ⟨(cells_of h.hx 0).1, (cells_of h.hx 1).1, (cells_of h.hx 2).1, (cells_of h.hx 3).1, (cells_of h.hx 4).1, (cells_of h.hx 5).1, (cells_of h.hx 6).1, (cells_of h.hx 7).1, (cells_of h.hx 8).1, (cells_of h.hx 9).1⟩
theorem RA.far (h : RA w0 w pw G0 G L b cs hb hs) (k : Nat) (h1 : w.heap.size ≤ k) (h3 : WF pw G k) : False := by have := h.a.lt h3; omega
end
structure WRx (w0 w : World) (p : Nat) (L : List UInt8) (G : Option Nat) : Prop where
  a : RWt w p G L
  fr : Fr NoB w0 w
  i : ∀ k, WF p G k → w0.heap.size ≤ k
theorem WRx.next {w0 w w1 : World} {p : Nat} {L L' : List UInt8} {G G1 : Option Nat} (h : WRx w0 w p L G) (a : RWt w1 p G1 L') (f : Fr (WF p G) w w1) (g : ∀ k, WF p G1 k → WF p G k ∨ w.heap.size ≤ k) : WRx w0 w1 p L' G1 :=
  ⟨a, h.fr.upE f (fun k hk => h.i k hk), fun k hk => (g k hk).elim (h.i k) (fun hk => Nat.le_trans h.fr.size hk)⟩
theorem rwByteI (p : Nat) (G : Option Nat) (l : List UInt8) (k : Int) (w : World) (h0 : 0 ≤ k ∧ k ≤ 255) (h : RWt w p G l) (hlim : l.length + 1 ≤ 140737488355328) :
    Calls Tryd.prog 32 #[.pointer (some ⟨p, 0, none⟩), .int .u8 k] w fun e w' => e = .returned (.tuple #[]) ∧ RPut p G (l ++ [kindB k]) w w' := by
  have h2 := rwByte p G l (kindB k) w h hlim
  rw [kindB_nat h0.1 h0.2] at h2
  exact h2
set_option maxHeartbeats 3200000 in
set_option maxRecDepth 8000 in
theorem rabody1_calls (f : Fa) (p : Pl) (np pw : Nat) (G : Option Nat) (L : List UInt8) (lo hi : Nat) (w : World) (hf : f.Ok) (hw : RWt w pw G L) (hpl : f.path.length ≤ 1000 ∧ f.data.length ≤ 1000) (hlim : L.length ≤ 1000000) (hD : Rd w lo hi p.A f.data) (_hh : hi ≤ w.heap.size) (hpn : ∀ k, lo ≤ k → k < hi → ¬ WF pw G k) (hk : f.k = 1) :
    Calls Tryd.prog 34 #[.pointer (some ⟨pw, 0, none⟩), aval f p np] w fun e w' => e = .returned (.tuple #[]) ∧ RPut pw G (L ++ bodyA f) w w' := by
  have HF := Lib.hid hf
  have HP := Lib.hid hpl
  have HL := Lib.hid hlim
  have HD := Lib.hid hD
  have HPN := Lib.hid hpn
  obtain ⟨k, x, s, t, path, data, fl, ve, wa, so, la, ti, fr, ms⟩ := f
  obtain ⟨A, c, B, d, P, e'⟩ := p
  simp only at hk
  subst hk
  simp only at HP HD
  simp only [aval, acells] at *
  clear hf hpl hlim hD hpn
  have c0 := (cells_of (heap_alloc_new w (.cells #[.int .u8 1, .int .i64 x, .int .i64 s, .int .i64 t, .string ⟨path.toArray⟩, .slice A data.length c, .int .i64 fl, .int .i64 ve, .bool wa, .int .u8 so, .int .i64 la, .int .i64 ti, .int .i64 fr, .slice B ms.length d, .slice P np e'] 29)) 0).1
  simp only [List.getElem?_toArray, List.getElem?_cons_zero] at c0
  go_enter Tryd.func34, Tryd.ntmps34
  go_wp2_with (fail)
  refine (rof1 _).mono ?_
  rintro e u1 ⟨rfl, f1⟩
  go_wp2_with (first | (with_reducible refine held_store (ty := 111) ?_) | fail)
  unfold Held
  refine wpList_store_row rfl 111 _ _ rfl u1.heap.size #[.bool false, .bool false, .bool false, .bool false, .bool false, .bool false, .bool true, .bool true, .bool false, .bool false] ?_ ?_ _ _ (heap_alloc_new u1 _) hsize10 rfl (by simp [Value.oneCell']) ?_
  · rfl
  · rfl
  rw [World.setRow_alloc_new]
  have t0 := RA.start hw #[.int .u8 1, .int .i64 x, .int .i64 s, .int .i64 t, .string ⟨path.toArray⟩, .slice A data.length c, .int .i64 fl, .int .i64 ve, .bool wa, .int .u8 so, .int .i64 la, .int .i64 ti, .int .i64 fr, .slice B ms.length d, .slice P np e'] #[.bool false, .bool false, .bool false, .bool false, .bool false, .bool false, .bool true, .bool true, .bool false, .bool false] f1
  generalize u1.alloc (.cells #[.bool false, .bool false, .bool false, .bool false, .bool false, .bool false, .bool true, .bool true, .bool false, .bool false] 111) = w0 at t0 ⊢
  generalize u1.heap.size = NH at t0 ⊢
  generalize hNA : w.heap.size = NA at t0 ⊢
  have HNA := Lib.hid hNA
  clear hNA c0
  have T0 := Lib.hid t0
  clear t0 hw f1
  obtain ⟨e0, e1, e2, e3, e4, e5, e6, e7, e8, e9⟩ := T0.out.has
  have q := T0.out.cell 10 _ rfl
  go_wp2_with (fail)
  clear e0 e1 e2 e3 e4 e5 e6 e7 e8 e9 q
  refine (rwInt pw G (L) la _ HF.out.la.1 HF.out.la.2 T0.out.a (by have := HL.out; have := HP.out; (try simp only [List.length_append, List.length_cons, List.length_nil, mk_size]); omega)).mono ?_
  rintro e w1 ⟨rfl, G1, a1, f1, g1⟩
  have T1 := Lib.hid (T0.out.next a1 f1 g1)
  clear a1 f1 g1 T0
  obtain ⟨e0, e1, e2, e3, e4, e5, e6, e7, e8, e9⟩ := T1.out.has
  have q := T1.out.cell 11 _ rfl
  go_wp2_with (fail)
  clear e0 e1 e2 e3 e4 e5 e6 e7 e8 e9 q
  refine (rwInt pw G1 (L ++ intB la) ti _ HF.out.ti.1 HF.out.ti.2 T1.out.a (by have := HL.out; have := HP.out; have l0 := intB_len la; (try simp only [List.length_append]); omega)).mono ?_
  rintro e w2 ⟨rfl, G2, a2, f2, g2⟩
  have T2 := Lib.hid (T1.out.next a2 f2 g2)
  clear a2 f2 g2 T1
  obtain ⟨e0, e1, e2, e3, e4, e5, e6, e7, e8, e9⟩ := T2.out.has
  have q := T2.out.cell 4 _ rfl
  go_wp2_with (fail)
  go_end0
  exact ⟨rfl, T2.out.put.cast (by simp [bodyA, List.append_assoc])⟩
set_option maxHeartbeats 3200000 in
set_option maxRecDepth 8000 in
theorem rabody2_calls (f : Fa) (p : Pl) (np pw : Nat) (G : Option Nat) (L : List UInt8) (lo hi : Nat) (w : World) (hf : f.Ok) (hw : RWt w pw G L) (hpl : f.path.length ≤ 1000 ∧ f.data.length ≤ 1000) (hlim : L.length ≤ 1000000) (hD : Rd w lo hi p.A f.data) (_hh : hi ≤ w.heap.size) (hpn : ∀ k, lo ≤ k → k < hi → ¬ WF pw G k) (hk : f.k = 2) :
    Calls Tryd.prog 34 #[.pointer (some ⟨pw, 0, none⟩), aval f p np] w fun e w' => e = .returned (.tuple #[]) ∧ RPut pw G (L ++ bodyA f) w w' := by
  have HF := Lib.hid hf
  have HP := Lib.hid hpl
  have HL := Lib.hid hlim
  have HD := Lib.hid hD
  have HPN := Lib.hid hpn
  obtain ⟨k, x, s, t, path, data, fl, ve, wa, so, la, ti, fr, ms⟩ := f
  obtain ⟨A, c, B, d, P, e'⟩ := p
  simp only at hk
  subst hk
  simp only at HP HD
  simp only [aval, acells] at *
  clear hf hpl hlim hD hpn
  have c0 := (cells_of (heap_alloc_new w (.cells #[.int .u8 2, .int .i64 x, .int .i64 s, .int .i64 t, .string ⟨path.toArray⟩, .slice A data.length c, .int .i64 fl, .int .i64 ve, .bool wa, .int .u8 so, .int .i64 la, .int .i64 ti, .int .i64 fr, .slice B ms.length d, .slice P np e'] 29)) 0).1
  simp only [List.getElem?_toArray, List.getElem?_cons_zero] at c0
  go_enter Tryd.func34, Tryd.ntmps34
  go_wp2_with (fail)
  refine (rof2 _).mono ?_
  rintro e u1 ⟨rfl, f1⟩
  go_wp2_with (first | (with_reducible refine held_store (ty := 111) ?_) | fail)
  unfold Held
  refine wpList_store_row rfl 111 _ _ rfl u1.heap.size #[.bool false, .bool false, .bool false, .bool false, .bool false, .bool false, .bool false, .bool false, .bool false, .bool false] ?_ ?_ _ _ (heap_alloc_new u1 _) hsize10 rfl (by simp [Value.oneCell']) ?_
  · rfl
  · rfl
  rw [World.setRow_alloc_new]
  have t0 := RA.start hw #[.int .u8 2, .int .i64 x, .int .i64 s, .int .i64 t, .string ⟨path.toArray⟩, .slice A data.length c, .int .i64 fl, .int .i64 ve, .bool wa, .int .u8 so, .int .i64 la, .int .i64 ti, .int .i64 fr, .slice B ms.length d, .slice P np e'] #[.bool false, .bool false, .bool false, .bool false, .bool false, .bool false, .bool false, .bool false, .bool false, .bool false] f1
  generalize u1.alloc (.cells #[.bool false, .bool false, .bool false, .bool false, .bool false, .bool false, .bool false, .bool false, .bool false, .bool false] 111) = w0 at t0 ⊢
  generalize u1.heap.size = NH at t0 ⊢
  generalize hNA : w.heap.size = NA at t0 ⊢
  have HNA := Lib.hid hNA
  clear hNA c0
  have T0 := Lib.hid t0
  clear t0 hw f1
  obtain ⟨e0, e1, e2, e3, e4, e5, e6, e7, e8, e9⟩ := T0.out.has
  go_wp2_with (fail)
  go_end0
  exact ⟨rfl, by have h := T0.out.put; rw [show bodyA _ = [] from rfl, List.append_nil]; exact h⟩
set_option maxHeartbeats 3200000 in
set_option maxRecDepth 8000 in
theorem rabody3_calls (f : Fa) (p : Pl) (np pw : Nat) (G : Option Nat) (L : List UInt8) (lo hi : Nat) (w : World) (hf : f.Ok) (hw : RWt w pw G L) (hpl : f.path.length ≤ 1000 ∧ f.data.length ≤ 1000) (hlim : L.length ≤ 1000000) (hD : Rd w lo hi p.A f.data) (hh : hi ≤ w.heap.size) (hpn : ∀ k, lo ≤ k → k < hi → ¬ WF pw G k) (hk : f.k = 3) :
    Calls Tryd.prog 34 #[.pointer (some ⟨pw, 0, none⟩), aval f p np] w fun e w' => e = .returned (.tuple #[]) ∧ RPut pw G (L ++ bodyA f) w w' := by
  have HF := Lib.hid hf
  have HP := Lib.hid hpl
  have HL := Lib.hid hlim
  have HD := Lib.hid hD
  have HPN := Lib.hid hpn
  obtain ⟨k, x, s, t, path, data, fl, ve, wa, so, la, ti, fr, ms⟩ := f
  obtain ⟨A, c, B, d, P, e'⟩ := p
  simp only at hk
  subst hk
  simp only at HP HD
  simp only [aval, acells] at *
  clear hf hpl hlim hD hpn
  have c0 := (cells_of (heap_alloc_new w (.cells #[.int .u8 3, .int .i64 x, .int .i64 s, .int .i64 t, .string ⟨path.toArray⟩, .slice A data.length c, .int .i64 fl, .int .i64 ve, .bool wa, .int .u8 so, .int .i64 la, .int .i64 ti, .int .i64 fr, .slice B ms.length d, .slice P np e'] 29)) 0).1
  simp only [List.getElem?_toArray, List.getElem?_cons_zero] at c0
  go_enter Tryd.func34, Tryd.ntmps34
  go_wp2_with (fail)
  refine (rof3 _).mono ?_
  rintro e u1 ⟨rfl, f1⟩
  go_wp2_with (first | (with_reducible refine held_store (ty := 111) ?_) | fail)
  unfold Held
  refine wpList_store_row rfl 111 _ _ rfl u1.heap.size #[.bool true, .bool true, .bool true, .bool false, .bool false, .bool false, .bool false, .bool false, .bool false, .bool false] ?_ ?_ _ _ (heap_alloc_new u1 _) hsize10 rfl (by simp [Value.oneCell']) ?_
  · rfl
  · rfl
  rw [World.setRow_alloc_new]
  have t0 := RA.start hw #[.int .u8 3, .int .i64 x, .int .i64 s, .int .i64 t, .string ⟨path.toArray⟩, .slice A data.length c, .int .i64 fl, .int .i64 ve, .bool wa, .int .u8 so, .int .i64 la, .int .i64 ti, .int .i64 fr, .slice B ms.length d, .slice P np e'] #[.bool true, .bool true, .bool true, .bool false, .bool false, .bool false, .bool false, .bool false, .bool false, .bool false] f1
  generalize u1.alloc (.cells #[.bool true, .bool true, .bool true, .bool false, .bool false, .bool false, .bool false, .bool false, .bool false, .bool false] 111) = w0 at t0 ⊢
  generalize u1.heap.size = NH at t0 ⊢
  generalize hNA : w.heap.size = NA at t0 ⊢
  have HNA := Lib.hid hNA
  clear hNA c0
  have T0 := Lib.hid t0
  clear t0 hw f1
  obtain ⟨e0, e1, e2, e3, e4, e5, e6, e7, e8, e9⟩ := T0.out.has
  have q := T0.out.cell 4 _ rfl
  go_wp2_with (fail)
  clear e0 e1 e2 e3 e4 e5 e6 e7 e8 e9 q
  refine (rwText pw G (L) ⟨path.toArray⟩ _ T0.out.a (by have := HL.out; have := HP.out; (try simp only [mk_size]); omega)).mono ?_
  rintro e w1 ⟨rfl, G1, a1, f1, g1⟩
  rw [show (⟨path.toArray⟩ : ByteArray).data.toList = path by simp] at a1
  have T1 := Lib.hid (T0.out.next a1 f1 g1)
  clear a1 f1 g1 T0
  obtain ⟨e0, e1, e2, e3, e4, e5, e6, e7, e8, e9⟩ := T1.out.has
  have q := T1.out.cell 5 _ rfl
  go_wp2_with (fail)
  clear e0 e1 e2 e3 e4 e5 e6 e7 e8 e9 q
  refine (rwBytes pw G1 (L ++ textB path) data A c lo hi _ T1.out.a (by have := HL.out; have := HP.out; have l0 := textB_len path; (try simp only [List.length_append]); omega) (HD.out.fr T1.out.fr hh HPN.out)).mono ?_
  rintro e w2 ⟨rfl, G2, a2, f2, g2⟩
  have T2 := Lib.hid (T1.out.next a2 f2 g2)
  clear a2 f2 g2 T1
  obtain ⟨e0, e1, e2, e3, e4, e5, e6, e7, e8, e9⟩ := T2.out.has
  have q := T2.out.cell 6 _ rfl
  go_wp2_with (fail)
  clear e0 e1 e2 e3 e4 e5 e6 e7 e8 e9 q
  refine (rwInt pw G2 (L ++ textB path ++ textB data) fl _ HF.out.fl.1 HF.out.fl.2 T2.out.a (by have := HL.out; have := HP.out; have l0 := textB_len path; have l1 := textB_len data; (try simp only [List.length_append]); omega)).mono ?_
  rintro e w3 ⟨rfl, G3, a3, f3, g3⟩
  have T3 := Lib.hid (T2.out.next a3 f3 g3)
  clear a3 f3 g3 T2
  obtain ⟨e0, e1, e2, e3, e4, e5, e6, e7, e8, e9⟩ := T3.out.has
  have q := T3.out.cell 4 _ rfl
  go_wp2_with (fail)
  go_end0
  exact ⟨rfl, T3.out.put.cast (by simp [bodyA, List.append_assoc])⟩
set_option maxHeartbeats 3200000 in
set_option maxRecDepth 8000 in
theorem rabody4_calls (f : Fa) (p : Pl) (np pw : Nat) (G : Option Nat) (L : List UInt8) (lo hi : Nat) (w : World) (hf : f.Ok) (hw : RWt w pw G L) (hpl : f.path.length ≤ 1000 ∧ f.data.length ≤ 1000) (hlim : L.length ≤ 1000000) (hD : Rd w lo hi p.A f.data) (_hh : hi ≤ w.heap.size) (hpn : ∀ k, lo ≤ k → k < hi → ¬ WF pw G k) (hk : f.k = 4) :
    Calls Tryd.prog 34 #[.pointer (some ⟨pw, 0, none⟩), aval f p np] w fun e w' => e = .returned (.tuple #[]) ∧ RPut pw G (L ++ bodyA f) w w' := by
  have HF := Lib.hid hf
  have HP := Lib.hid hpl
  have HL := Lib.hid hlim
  have HD := Lib.hid hD
  have HPN := Lib.hid hpn
  obtain ⟨k, x, s, t, path, data, fl, ve, wa, so, la, ti, fr, ms⟩ := f
  obtain ⟨A, c, B, d, P, e'⟩ := p
  simp only at hk
  subst hk
  simp only at HP HD
  simp only [aval, acells] at *
  clear hf hpl hlim hD hpn
  have c0 := (cells_of (heap_alloc_new w (.cells #[.int .u8 4, .int .i64 x, .int .i64 s, .int .i64 t, .string ⟨path.toArray⟩, .slice A data.length c, .int .i64 fl, .int .i64 ve, .bool wa, .int .u8 so, .int .i64 la, .int .i64 ti, .int .i64 fr, .slice B ms.length d, .slice P np e'] 29)) 0).1
  simp only [List.getElem?_toArray, List.getElem?_cons_zero] at c0
  go_enter Tryd.func34, Tryd.ntmps34
  go_wp2_with (fail)
  refine (rof4 _).mono ?_
  rintro e u1 ⟨rfl, f1⟩
  go_wp2_with (first | (with_reducible refine held_store (ty := 111) ?_) | fail)
  unfold Held
  refine wpList_store_row rfl 111 _ _ rfl u1.heap.size #[.bool true, .bool false, .bool false, .bool true, .bool false, .bool false, .bool false, .bool false, .bool false, .bool false] ?_ ?_ _ _ (heap_alloc_new u1 _) hsize10 rfl (by simp [Value.oneCell']) ?_
  · rfl
  · rfl
  rw [World.setRow_alloc_new]
  have t0 := RA.start hw #[.int .u8 4, .int .i64 x, .int .i64 s, .int .i64 t, .string ⟨path.toArray⟩, .slice A data.length c, .int .i64 fl, .int .i64 ve, .bool wa, .int .u8 so, .int .i64 la, .int .i64 ti, .int .i64 fr, .slice B ms.length d, .slice P np e'] #[.bool true, .bool false, .bool false, .bool true, .bool false, .bool false, .bool false, .bool false, .bool false, .bool false] f1
  generalize u1.alloc (.cells #[.bool true, .bool false, .bool false, .bool true, .bool false, .bool false, .bool false, .bool false, .bool false, .bool false] 111) = w0 at t0 ⊢
  generalize u1.heap.size = NH at t0 ⊢
  generalize hNA : w.heap.size = NA at t0 ⊢
  have HNA := Lib.hid hNA
  clear hNA c0
  have T0 := Lib.hid t0
  clear t0 hw f1
  obtain ⟨e0, e1, e2, e3, e4, e5, e6, e7, e8, e9⟩ := T0.out.has
  have q := T0.out.cell 4 _ rfl
  go_wp2_with (fail)
  clear e0 e1 e2 e3 e4 e5 e6 e7 e8 e9 q
  refine (rwText pw G (L) ⟨path.toArray⟩ _ T0.out.a (by have := HL.out; have := HP.out; (try simp only [mk_size]); omega)).mono ?_
  rintro e w1 ⟨rfl, G1, a1, f1, g1⟩
  rw [show (⟨path.toArray⟩ : ByteArray).data.toList = path by simp] at a1
  have T1 := Lib.hid (T0.out.next a1 f1 g1)
  clear a1 f1 g1 T0
  obtain ⟨e0, e1, e2, e3, e4, e5, e6, e7, e8, e9⟩ := T1.out.has
  have q := T1.out.cell 7 _ rfl
  go_wp2_with (fail)
  clear e0 e1 e2 e3 e4 e5 e6 e7 e8 e9 q
  refine (rwInt pw G1 (L ++ textB path) ve _ HF.out.ve.1 HF.out.ve.2 T1.out.a (by have := HL.out; have := HP.out; have l0 := textB_len path; (try simp only [List.length_append]); omega)).mono ?_
  rintro e w2 ⟨rfl, G2, a2, f2, g2⟩
  have T2 := Lib.hid (T1.out.next a2 f2 g2)
  clear a2 f2 g2 T1
  obtain ⟨e0, e1, e2, e3, e4, e5, e6, e7, e8, e9⟩ := T2.out.has
  have q := T2.out.cell 4 _ rfl
  go_wp2_with (fail)
  go_end0
  exact ⟨rfl, T2.out.put.cast (by simp [bodyA, List.append_assoc])⟩
set_option maxHeartbeats 3200000 in
set_option maxRecDepth 8000 in
theorem rabody5_calls (f : Fa) (p : Pl) (np pw : Nat) (G : Option Nat) (L : List UInt8) (lo hi : Nat) (w : World) (hf : f.Ok) (hw : RWt w pw G L) (hpl : f.path.length ≤ 1000 ∧ f.data.length ≤ 1000) (hlim : L.length ≤ 1000000) (hD : Rd w lo hi p.A f.data) (hh : hi ≤ w.heap.size) (hpn : ∀ k, lo ≤ k → k < hi → ¬ WF pw G k) (hk : f.k = 5) :
    Calls Tryd.prog 34 #[.pointer (some ⟨pw, 0, none⟩), aval f p np] w fun e w' => e = .returned (.tuple #[]) ∧ RPut pw G (L ++ bodyA f) w w' := by
  have HF := Lib.hid hf
  have HP := Lib.hid hpl
  have HL := Lib.hid hlim
  have HD := Lib.hid hD
  have HPN := Lib.hid hpn
  obtain ⟨k, x, s, t, path, data, fl, ve, wa, so, la, ti, fr, ms⟩ := f
  obtain ⟨A, c, B, d, P, e'⟩ := p
  simp only at hk
  subst hk
  simp only at HP HD
  simp only [aval, acells] at *
  clear hf hpl hlim hD hpn
  have c0 := (cells_of (heap_alloc_new w (.cells #[.int .u8 5, .int .i64 x, .int .i64 s, .int .i64 t, .string ⟨path.toArray⟩, .slice A data.length c, .int .i64 fl, .int .i64 ve, .bool wa, .int .u8 so, .int .i64 la, .int .i64 ti, .int .i64 fr, .slice B ms.length d, .slice P np e'] 29)) 0).1
  simp only [List.getElem?_toArray, List.getElem?_cons_zero] at c0
  go_enter Tryd.func34, Tryd.ntmps34
  go_wp2_with (fail)
  refine (rof5 _).mono ?_
  rintro e u1 ⟨rfl, f1⟩
  go_wp2_with (first | (with_reducible refine held_store (ty := 111) ?_) | fail)
  unfold Held
  refine wpList_store_row rfl 111 _ _ rfl u1.heap.size #[.bool true, .bool true, .bool false, .bool true, .bool false, .bool false, .bool false, .bool false, .bool false, .bool false] ?_ ?_ _ _ (heap_alloc_new u1 _) hsize10 rfl (by simp [Value.oneCell']) ?_
  · rfl
  · rfl
  rw [World.setRow_alloc_new]
  have t0 := RA.start hw #[.int .u8 5, .int .i64 x, .int .i64 s, .int .i64 t, .string ⟨path.toArray⟩, .slice A data.length c, .int .i64 fl, .int .i64 ve, .bool wa, .int .u8 so, .int .i64 la, .int .i64 ti, .int .i64 fr, .slice B ms.length d, .slice P np e'] #[.bool true, .bool true, .bool false, .bool true, .bool false, .bool false, .bool false, .bool false, .bool false, .bool false] f1
  generalize u1.alloc (.cells #[.bool true, .bool true, .bool false, .bool true, .bool false, .bool false, .bool false, .bool false, .bool false, .bool false] 111) = w0 at t0 ⊢
  generalize u1.heap.size = NH at t0 ⊢
  generalize hNA : w.heap.size = NA at t0 ⊢
  have HNA := Lib.hid hNA
  clear hNA c0
  have T0 := Lib.hid t0
  clear t0 hw f1
  obtain ⟨e0, e1, e2, e3, e4, e5, e6, e7, e8, e9⟩ := T0.out.has
  have q := T0.out.cell 4 _ rfl
  go_wp2_with (fail)
  clear e0 e1 e2 e3 e4 e5 e6 e7 e8 e9 q
  refine (rwText pw G (L) ⟨path.toArray⟩ _ T0.out.a (by have := HL.out; have := HP.out; (try simp only [mk_size]); omega)).mono ?_
  rintro e w1 ⟨rfl, G1, a1, f1, g1⟩
  rw [show (⟨path.toArray⟩ : ByteArray).data.toList = path by simp] at a1
  have T1 := Lib.hid (T0.out.next a1 f1 g1)
  clear a1 f1 g1 T0
  obtain ⟨e0, e1, e2, e3, e4, e5, e6, e7, e8, e9⟩ := T1.out.has
  have q := T1.out.cell 5 _ rfl
  go_wp2_with (fail)
  clear e0 e1 e2 e3 e4 e5 e6 e7 e8 e9 q
  refine (rwBytes pw G1 (L ++ textB path) data A c lo hi _ T1.out.a (by have := HL.out; have := HP.out; have l0 := textB_len path; (try simp only [List.length_append]); omega) (HD.out.fr T1.out.fr hh HPN.out)).mono ?_
  rintro e w2 ⟨rfl, G2, a2, f2, g2⟩
  have T2 := Lib.hid (T1.out.next a2 f2 g2)
  clear a2 f2 g2 T1
  obtain ⟨e0, e1, e2, e3, e4, e5, e6, e7, e8, e9⟩ := T2.out.has
  have q := T2.out.cell 7 _ rfl
  go_wp2_with (fail)
  clear e0 e1 e2 e3 e4 e5 e6 e7 e8 e9 q
  refine (rwInt pw G2 (L ++ textB path ++ textB data) ve _ HF.out.ve.1 HF.out.ve.2 T2.out.a (by have := HL.out; have := HP.out; have l0 := textB_len path; have l1 := textB_len data; (try simp only [List.length_append]); omega)).mono ?_
  rintro e w3 ⟨rfl, G3, a3, f3, g3⟩
  have T3 := Lib.hid (T2.out.next a3 f3 g3)
  clear a3 f3 g3 T2
  obtain ⟨e0, e1, e2, e3, e4, e5, e6, e7, e8, e9⟩ := T3.out.has
  have q := T3.out.cell 4 _ rfl
  go_wp2_with (fail)
  go_end0
  exact ⟨rfl, T3.out.put.cast (by simp [bodyA, List.append_assoc])⟩
set_option maxHeartbeats 3200000 in
set_option maxRecDepth 8000 in
theorem rabody6_calls (f : Fa) (p : Pl) (np pw : Nat) (G : Option Nat) (L : List UInt8) (lo hi : Nat) (w : World) (hf : f.Ok) (hw : RWt w pw G L) (hpl : f.path.length ≤ 1000 ∧ f.data.length ≤ 1000) (hlim : L.length ≤ 1000000) (hD : Rd w lo hi p.A f.data) (_hh : hi ≤ w.heap.size) (hpn : ∀ k, lo ≤ k → k < hi → ¬ WF pw G k) (hk : f.k = 6) :
    Calls Tryd.prog 34 #[.pointer (some ⟨pw, 0, none⟩), aval f p np] w fun e w' => e = .returned (.tuple #[]) ∧ RPut pw G (L ++ bodyA f) w w' := by
  have HF := Lib.hid hf
  have HP := Lib.hid hpl
  have HL := Lib.hid hlim
  have HD := Lib.hid hD
  have HPN := Lib.hid hpn
  obtain ⟨k, x, s, t, path, data, fl, ve, wa, so, la, ti, fr, ms⟩ := f
  obtain ⟨A, c, B, d, P, e'⟩ := p
  simp only at hk
  subst hk
  simp only at HP HD
  simp only [aval, acells] at *
  clear hf hpl hlim hD hpn
  have c0 := (cells_of (heap_alloc_new w (.cells #[.int .u8 6, .int .i64 x, .int .i64 s, .int .i64 t, .string ⟨path.toArray⟩, .slice A data.length c, .int .i64 fl, .int .i64 ve, .bool wa, .int .u8 so, .int .i64 la, .int .i64 ti, .int .i64 fr, .slice B ms.length d, .slice P np e'] 29)) 0).1
  simp only [List.getElem?_toArray, List.getElem?_cons_zero] at c0
  go_enter Tryd.func34, Tryd.ntmps34
  go_wp2_with (fail)
  refine (rof6 _).mono ?_
  rintro e u1 ⟨rfl, f1⟩
  go_wp2_with (first | (with_reducible refine held_store (ty := 111) ?_) | fail)
  unfold Held
  refine wpList_store_row rfl 111 _ _ rfl u1.heap.size #[.bool true, .bool false, .bool false, .bool true, .bool false, .bool false, .bool false, .bool false, .bool false, .bool false] ?_ ?_ _ _ (heap_alloc_new u1 _) hsize10 rfl (by simp [Value.oneCell']) ?_
  · rfl
  · rfl
  rw [World.setRow_alloc_new]
  have t0 := RA.start hw #[.int .u8 6, .int .i64 x, .int .i64 s, .int .i64 t, .string ⟨path.toArray⟩, .slice A data.length c, .int .i64 fl, .int .i64 ve, .bool wa, .int .u8 so, .int .i64 la, .int .i64 ti, .int .i64 fr, .slice B ms.length d, .slice P np e'] #[.bool true, .bool false, .bool false, .bool true, .bool false, .bool false, .bool false, .bool false, .bool false, .bool false] f1
  generalize u1.alloc (.cells #[.bool true, .bool false, .bool false, .bool true, .bool false, .bool false, .bool false, .bool false, .bool false, .bool false] 111) = w0 at t0 ⊢
  generalize u1.heap.size = NH at t0 ⊢
  generalize hNA : w.heap.size = NA at t0 ⊢
  have HNA := Lib.hid hNA
  clear hNA c0
  have T0 := Lib.hid t0
  clear t0 hw f1
  obtain ⟨e0, e1, e2, e3, e4, e5, e6, e7, e8, e9⟩ := T0.out.has
  have q := T0.out.cell 4 _ rfl
  go_wp2_with (fail)
  clear e0 e1 e2 e3 e4 e5 e6 e7 e8 e9 q
  refine (rwText pw G (L) ⟨path.toArray⟩ _ T0.out.a (by have := HL.out; have := HP.out; (try simp only [mk_size]); omega)).mono ?_
  rintro e w1 ⟨rfl, G1, a1, f1, g1⟩
  rw [show (⟨path.toArray⟩ : ByteArray).data.toList = path by simp] at a1
  have T1 := Lib.hid (T0.out.next a1 f1 g1)
  clear a1 f1 g1 T0
  obtain ⟨e0, e1, e2, e3, e4, e5, e6, e7, e8, e9⟩ := T1.out.has
  have q := T1.out.cell 7 _ rfl
  go_wp2_with (fail)
  clear e0 e1 e2 e3 e4 e5 e6 e7 e8 e9 q
  refine (rwInt pw G1 (L ++ textB path) ve _ HF.out.ve.1 HF.out.ve.2 T1.out.a (by have := HL.out; have := HP.out; have l0 := textB_len path; (try simp only [List.length_append]); omega)).mono ?_
  rintro e w2 ⟨rfl, G2, a2, f2, g2⟩
  have T2 := Lib.hid (T1.out.next a2 f2 g2)
  clear a2 f2 g2 T1
  obtain ⟨e0, e1, e2, e3, e4, e5, e6, e7, e8, e9⟩ := T2.out.has
  have q := T2.out.cell 4 _ rfl
  go_wp2_with (fail)
  go_end0
  exact ⟨rfl, T2.out.put.cast (by simp [bodyA, List.append_assoc])⟩
set_option maxHeartbeats 3200000 in
set_option maxRecDepth 8000 in
theorem rabody7t_calls (f : Fa) (p : Pl) (np pw : Nat) (G : Option Nat) (L : List UInt8) (lo hi : Nat) (w : World) (hf : f.Ok) (hw : RWt w pw G L) (hpl : f.path.length ≤ 1000 ∧ f.data.length ≤ 1000) (hlim : L.length ≤ 1000000) (hD : Rd w lo hi p.A f.data) (_hh : hi ≤ w.heap.size) (hpn : ∀ k, lo ≤ k → k < hi → ¬ WF pw G k) (hwa : f.wa = true) (hk : f.k = 7) :
    Calls Tryd.prog 34 #[.pointer (some ⟨pw, 0, none⟩), aval f p np] w fun e w' => e = .returned (.tuple #[]) ∧ RPut pw G (L ++ bodyA f) w w' := by
  have HF := Lib.hid hf
  have HP := Lib.hid hpl
  have HL := Lib.hid hlim
  have HD := Lib.hid hD
  have HPN := Lib.hid hpn
  obtain ⟨k, x, s, t, path, data, fl, ve, wa, so, la, ti, fr, ms⟩ := f
  obtain ⟨A, c, B, d, P, e'⟩ := p
  simp only at hk hwa
  subst hk
  subst hwa
  simp only at HP HD
  simp only [aval, acells] at *
  clear hf hpl hlim hD hpn
  have c0 := (cells_of (heap_alloc_new w (.cells #[.int .u8 7, .int .i64 x, .int .i64 s, .int .i64 t, .string ⟨path.toArray⟩, .slice A data.length c, .int .i64 fl, .int .i64 ve, .bool true, .int .u8 so, .int .i64 la, .int .i64 ti, .int .i64 fr, .slice B ms.length d, .slice P np e'] 29)) 0).1
  simp only [List.getElem?_toArray, List.getElem?_cons_zero] at c0
  go_enter Tryd.func34, Tryd.ntmps34
  go_wp2_with (fail)
  refine (rof7 _).mono ?_
  rintro e u1 ⟨rfl, f1⟩
  go_wp2_with (first | (with_reducible refine held_store (ty := 111) ?_) | fail)
  unfold Held
  refine wpList_store_row rfl 111 _ _ rfl u1.heap.size #[.bool true, .bool false, .bool false, .bool false, .bool true, .bool false, .bool false, .bool false, .bool false, .bool false] ?_ ?_ _ _ (heap_alloc_new u1 _) hsize10 rfl (by simp [Value.oneCell']) ?_
  · rfl
  · rfl
  rw [World.setRow_alloc_new]
  have t0 := RA.start hw #[.int .u8 7, .int .i64 x, .int .i64 s, .int .i64 t, .string ⟨path.toArray⟩, .slice A data.length c, .int .i64 fl, .int .i64 ve, .bool true, .int .u8 so, .int .i64 la, .int .i64 ti, .int .i64 fr, .slice B ms.length d, .slice P np e'] #[.bool true, .bool false, .bool false, .bool false, .bool true, .bool false, .bool false, .bool false, .bool false, .bool false] f1
  generalize u1.alloc (.cells #[.bool true, .bool false, .bool false, .bool false, .bool true, .bool false, .bool false, .bool false, .bool false, .bool false] 111) = w0 at t0 ⊢
  generalize u1.heap.size = NH at t0 ⊢
  generalize hNA : w.heap.size = NA at t0 ⊢
  have HNA := Lib.hid hNA
  clear hNA c0
  have T0 := Lib.hid t0
  clear t0 hw f1
  obtain ⟨e0, e1, e2, e3, e4, e5, e6, e7, e8, e9⟩ := T0.out.has
  have q := T0.out.cell 4 _ rfl
  go_wp2_with (fail)
  clear e0 e1 e2 e3 e4 e5 e6 e7 e8 e9 q
  refine (rwText pw G (L) ⟨path.toArray⟩ _ T0.out.a (by have := HL.out; have := HP.out; (try simp only [mk_size]); omega)).mono ?_
  rintro e w1 ⟨rfl, G1, a1, f1, g1⟩
  rw [show (⟨path.toArray⟩ : ByteArray).data.toList = path by simp] at a1
  have T1 := Lib.hid (T0.out.next a1 f1 g1)
  clear a1 f1 g1 T0
  obtain ⟨e0, e1, e2, e3, e4, e5, e6, e7, e8, e9⟩ := T1.out.has
  have q := T1.out.cell 8 _ rfl
  go_wp2_with (fail)
  clear e0 e1 e2 e3 e4 e5 e6 e7 e8 e9 q
  refine (rwByteI pw G1 (L ++ textB path) 1 _ (by decide) T1.out.a (by have := HL.out; have := HP.out; have l0 := textB_len path; (try simp only [List.length_append]); omega)).mono ?_
  rintro e w2 ⟨rfl, G2, a2, f2, g2⟩
  have T2 := Lib.hid (T1.out.next a2 f2 g2)
  clear a2 f2 g2 T1
  obtain ⟨e0, e1, e2, e3, e4, e5, e6, e7, e8, e9⟩ := T2.out.has
  have q := T2.out.cell 4 _ rfl
  go_wp2_with (fail)
  go_end0
  exact ⟨rfl, T2.out.put.cast (by simp [bodyA, List.append_assoc, wB, kindB])⟩
set_option maxHeartbeats 3200000 in
set_option maxRecDepth 8000 in
theorem rabody7f_calls (f : Fa) (p : Pl) (np pw : Nat) (G : Option Nat) (L : List UInt8) (lo hi : Nat) (w : World) (hf : f.Ok) (hw : RWt w pw G L) (hpl : f.path.length ≤ 1000 ∧ f.data.length ≤ 1000) (hlim : L.length ≤ 1000000) (hD : Rd w lo hi p.A f.data) (_hh : hi ≤ w.heap.size) (hpn : ∀ k, lo ≤ k → k < hi → ¬ WF pw G k) (hwa : f.wa = false) (hk : f.k = 7) :
    Calls Tryd.prog 34 #[.pointer (some ⟨pw, 0, none⟩), aval f p np] w fun e w' => e = .returned (.tuple #[]) ∧ RPut pw G (L ++ bodyA f) w w' := by
  have HF := Lib.hid hf
  have HP := Lib.hid hpl
  have HL := Lib.hid hlim
  have HD := Lib.hid hD
  have HPN := Lib.hid hpn
  obtain ⟨k, x, s, t, path, data, fl, ve, wa, so, la, ti, fr, ms⟩ := f
  obtain ⟨A, c, B, d, P, e'⟩ := p
  simp only at hk hwa
  subst hk
  subst hwa
  simp only at HP HD
  simp only [aval, acells] at *
  clear hf hpl hlim hD hpn
  have c0 := (cells_of (heap_alloc_new w (.cells #[.int .u8 7, .int .i64 x, .int .i64 s, .int .i64 t, .string ⟨path.toArray⟩, .slice A data.length c, .int .i64 fl, .int .i64 ve, .bool false, .int .u8 so, .int .i64 la, .int .i64 ti, .int .i64 fr, .slice B ms.length d, .slice P np e'] 29)) 0).1
  simp only [List.getElem?_toArray, List.getElem?_cons_zero] at c0
  go_enter Tryd.func34, Tryd.ntmps34
  go_wp2_with (fail)
  refine (rof7 _).mono ?_
  rintro e u1 ⟨rfl, f1⟩
  go_wp2_with (first | (with_reducible refine held_store (ty := 111) ?_) | fail)
  unfold Held
  refine wpList_store_row rfl 111 _ _ rfl u1.heap.size #[.bool true, .bool false, .bool false, .bool false, .bool true, .bool false, .bool false, .bool false, .bool false, .bool false] ?_ ?_ _ _ (heap_alloc_new u1 _) hsize10 rfl (by simp [Value.oneCell']) ?_
  · rfl
  · rfl
  rw [World.setRow_alloc_new]
  have t0 := RA.start hw #[.int .u8 7, .int .i64 x, .int .i64 s, .int .i64 t, .string ⟨path.toArray⟩, .slice A data.length c, .int .i64 fl, .int .i64 ve, .bool false, .int .u8 so, .int .i64 la, .int .i64 ti, .int .i64 fr, .slice B ms.length d, .slice P np e'] #[.bool true, .bool false, .bool false, .bool false, .bool true, .bool false, .bool false, .bool false, .bool false, .bool false] f1
  generalize u1.alloc (.cells #[.bool true, .bool false, .bool false, .bool false, .bool true, .bool false, .bool false, .bool false, .bool false, .bool false] 111) = w0 at t0 ⊢
  generalize u1.heap.size = NH at t0 ⊢
  generalize hNA : w.heap.size = NA at t0 ⊢
  have HNA := Lib.hid hNA
  clear hNA c0
  have T0 := Lib.hid t0
  clear t0 hw f1
  obtain ⟨e0, e1, e2, e3, e4, e5, e6, e7, e8, e9⟩ := T0.out.has
  have q := T0.out.cell 4 _ rfl
  go_wp2_with (fail)
  clear e0 e1 e2 e3 e4 e5 e6 e7 e8 e9 q
  refine (rwText pw G (L) ⟨path.toArray⟩ _ T0.out.a (by have := HL.out; have := HP.out; (try simp only [mk_size]); omega)).mono ?_
  rintro e w1 ⟨rfl, G1, a1, f1, g1⟩
  rw [show (⟨path.toArray⟩ : ByteArray).data.toList = path by simp] at a1
  have T1 := Lib.hid (T0.out.next a1 f1 g1)
  clear a1 f1 g1 T0
  obtain ⟨e0, e1, e2, e3, e4, e5, e6, e7, e8, e9⟩ := T1.out.has
  have q := T1.out.cell 8 _ rfl
  go_wp2_with (fail)
  clear e0 e1 e2 e3 e4 e5 e6 e7 e8 e9 q
  refine (rwByteI pw G1 (L ++ textB path) 0 _ (by decide) T1.out.a (by have := HL.out; have := HP.out; have l0 := textB_len path; (try simp only [List.length_append]); omega)).mono ?_
  rintro e w2 ⟨rfl, G2, a2, f2, g2⟩
  have T2 := Lib.hid (T1.out.next a2 f2 g2)
  clear a2 f2 g2 T1
  obtain ⟨e0, e1, e2, e3, e4, e5, e6, e7, e8, e9⟩ := T2.out.has
  have q := T2.out.cell 4 _ rfl
  go_wp2_with (fail)
  go_end0
  exact ⟨rfl, T2.out.put.cast (by simp [bodyA, List.append_assoc, wB, kindB])⟩
theorem rabody7_calls (f : Fa) (p : Pl) (np pw : Nat) (G : Option Nat) (L : List UInt8) (lo hi : Nat) (w : World) (hf : f.Ok) (hw : RWt w pw G L) (hpl : f.path.length ≤ 1000 ∧ f.data.length ≤ 1000) (hlim : L.length ≤ 1000000) (hD : Rd w lo hi p.A f.data) (hh : hi ≤ w.heap.size) (hpn : ∀ k, lo ≤ k → k < hi → ¬ WF pw G k) (hk : f.k = 7) :
    Calls Tryd.prog 34 #[.pointer (some ⟨pw, 0, none⟩), aval f p np] w fun e w' => e = .returned (.tuple #[]) ∧ RPut pw G (L ++ bodyA f) w w' := by
  cases hwa : f.wa
  · exact rabody7f_calls f p np pw G L lo hi w hf hw hpl hlim hD hh hpn hwa hk
  · exact rabody7t_calls f p np pw G L lo hi w hf hw hpl hlim hD hh hpn hwa hk
set_option maxHeartbeats 3200000 in
set_option maxRecDepth 8000 in
theorem rabody8t_calls (f : Fa) (p : Pl) (np pw : Nat) (G : Option Nat) (L : List UInt8) (lo hi : Nat) (w : World) (hf : f.Ok) (hw : RWt w pw G L) (hpl : f.path.length ≤ 1000 ∧ f.data.length ≤ 1000) (hlim : L.length ≤ 1000000) (hD : Rd w lo hi p.A f.data) (_hh : hi ≤ w.heap.size) (hpn : ∀ k, lo ≤ k → k < hi → ¬ WF pw G k) (hwa : f.wa = true) (hk : f.k = 8) :
    Calls Tryd.prog 34 #[.pointer (some ⟨pw, 0, none⟩), aval f p np] w fun e w' => e = .returned (.tuple #[]) ∧ RPut pw G (L ++ bodyA f) w w' := by
  have HF := Lib.hid hf
  have HP := Lib.hid hpl
  have HL := Lib.hid hlim
  have HD := Lib.hid hD
  have HPN := Lib.hid hpn
  obtain ⟨k, x, s, t, path, data, fl, ve, wa, so, la, ti, fr, ms⟩ := f
  obtain ⟨A, c, B, d, P, e'⟩ := p
  simp only at hk hwa
  subst hk
  subst hwa
  simp only at HP HD
  simp only [aval, acells] at *
  clear hf hpl hlim hD hpn
  have c0 := (cells_of (heap_alloc_new w (.cells #[.int .u8 8, .int .i64 x, .int .i64 s, .int .i64 t, .string ⟨path.toArray⟩, .slice A data.length c, .int .i64 fl, .int .i64 ve, .bool true, .int .u8 so, .int .i64 la, .int .i64 ti, .int .i64 fr, .slice B ms.length d, .slice P np e'] 29)) 0).1
  simp only [List.getElem?_toArray, List.getElem?_cons_zero] at c0
  go_enter Tryd.func34, Tryd.ntmps34
  go_wp2_with (fail)
  refine (rof8 _).mono ?_
  rintro e u1 ⟨rfl, f1⟩
  go_wp2_with (first | (with_reducible refine held_store (ty := 111) ?_) | fail)
  unfold Held
  refine wpList_store_row rfl 111 _ _ rfl u1.heap.size #[.bool true, .bool false, .bool false, .bool false, .bool true, .bool false, .bool false, .bool false, .bool false, .bool false] ?_ ?_ _ _ (heap_alloc_new u1 _) hsize10 rfl (by simp [Value.oneCell']) ?_
  · rfl
  · rfl
  rw [World.setRow_alloc_new]
  have t0 := RA.start hw #[.int .u8 8, .int .i64 x, .int .i64 s, .int .i64 t, .string ⟨path.toArray⟩, .slice A data.length c, .int .i64 fl, .int .i64 ve, .bool true, .int .u8 so, .int .i64 la, .int .i64 ti, .int .i64 fr, .slice B ms.length d, .slice P np e'] #[.bool true, .bool false, .bool false, .bool false, .bool true, .bool false, .bool false, .bool false, .bool false, .bool false] f1
  generalize u1.alloc (.cells #[.bool true, .bool false, .bool false, .bool false, .bool true, .bool false, .bool false, .bool false, .bool false, .bool false] 111) = w0 at t0 ⊢
  generalize u1.heap.size = NH at t0 ⊢
  generalize hNA : w.heap.size = NA at t0 ⊢
  have HNA := Lib.hid hNA
  clear hNA c0
  have T0 := Lib.hid t0
  clear t0 hw f1
  obtain ⟨e0, e1, e2, e3, e4, e5, e6, e7, e8, e9⟩ := T0.out.has
  have q := T0.out.cell 4 _ rfl
  go_wp2_with (fail)
  clear e0 e1 e2 e3 e4 e5 e6 e7 e8 e9 q
  refine (rwText pw G (L) ⟨path.toArray⟩ _ T0.out.a (by have := HL.out; have := HP.out; (try simp only [mk_size]); omega)).mono ?_
  rintro e w1 ⟨rfl, G1, a1, f1, g1⟩
  rw [show (⟨path.toArray⟩ : ByteArray).data.toList = path by simp] at a1
  have T1 := Lib.hid (T0.out.next a1 f1 g1)
  clear a1 f1 g1 T0
  obtain ⟨e0, e1, e2, e3, e4, e5, e6, e7, e8, e9⟩ := T1.out.has
  have q := T1.out.cell 8 _ rfl
  go_wp2_with (fail)
  clear e0 e1 e2 e3 e4 e5 e6 e7 e8 e9 q
  refine (rwByteI pw G1 (L ++ textB path) 1 _ (by decide) T1.out.a (by have := HL.out; have := HP.out; have l0 := textB_len path; (try simp only [List.length_append]); omega)).mono ?_
  rintro e w2 ⟨rfl, G2, a2, f2, g2⟩
  have T2 := Lib.hid (T1.out.next a2 f2 g2)
  clear a2 f2 g2 T1
  obtain ⟨e0, e1, e2, e3, e4, e5, e6, e7, e8, e9⟩ := T2.out.has
  have q := T2.out.cell 4 _ rfl
  go_wp2_with (fail)
  go_end0
  exact ⟨rfl, T2.out.put.cast (by simp [bodyA, List.append_assoc, wB, kindB])⟩
set_option maxHeartbeats 3200000 in
set_option maxRecDepth 8000 in
theorem rabody8f_calls (f : Fa) (p : Pl) (np pw : Nat) (G : Option Nat) (L : List UInt8) (lo hi : Nat) (w : World) (hf : f.Ok) (hw : RWt w pw G L) (hpl : f.path.length ≤ 1000 ∧ f.data.length ≤ 1000) (hlim : L.length ≤ 1000000) (hD : Rd w lo hi p.A f.data) (_hh : hi ≤ w.heap.size) (hpn : ∀ k, lo ≤ k → k < hi → ¬ WF pw G k) (hwa : f.wa = false) (hk : f.k = 8) :
    Calls Tryd.prog 34 #[.pointer (some ⟨pw, 0, none⟩), aval f p np] w fun e w' => e = .returned (.tuple #[]) ∧ RPut pw G (L ++ bodyA f) w w' := by
  have HF := Lib.hid hf
  have HP := Lib.hid hpl
  have HL := Lib.hid hlim
  have HD := Lib.hid hD
  have HPN := Lib.hid hpn
  obtain ⟨k, x, s, t, path, data, fl, ve, wa, so, la, ti, fr, ms⟩ := f
  obtain ⟨A, c, B, d, P, e'⟩ := p
  simp only at hk hwa
  subst hk
  subst hwa
  simp only at HP HD
  simp only [aval, acells] at *
  clear hf hpl hlim hD hpn
  have c0 := (cells_of (heap_alloc_new w (.cells #[.int .u8 8, .int .i64 x, .int .i64 s, .int .i64 t, .string ⟨path.toArray⟩, .slice A data.length c, .int .i64 fl, .int .i64 ve, .bool false, .int .u8 so, .int .i64 la, .int .i64 ti, .int .i64 fr, .slice B ms.length d, .slice P np e'] 29)) 0).1
  simp only [List.getElem?_toArray, List.getElem?_cons_zero] at c0
  go_enter Tryd.func34, Tryd.ntmps34
  go_wp2_with (fail)
  refine (rof8 _).mono ?_
  rintro e u1 ⟨rfl, f1⟩
  go_wp2_with (first | (with_reducible refine held_store (ty := 111) ?_) | fail)
  unfold Held
  refine wpList_store_row rfl 111 _ _ rfl u1.heap.size #[.bool true, .bool false, .bool false, .bool false, .bool true, .bool false, .bool false, .bool false, .bool false, .bool false] ?_ ?_ _ _ (heap_alloc_new u1 _) hsize10 rfl (by simp [Value.oneCell']) ?_
  · rfl
  · rfl
  rw [World.setRow_alloc_new]
  have t0 := RA.start hw #[.int .u8 8, .int .i64 x, .int .i64 s, .int .i64 t, .string ⟨path.toArray⟩, .slice A data.length c, .int .i64 fl, .int .i64 ve, .bool false, .int .u8 so, .int .i64 la, .int .i64 ti, .int .i64 fr, .slice B ms.length d, .slice P np e'] #[.bool true, .bool false, .bool false, .bool false, .bool true, .bool false, .bool false, .bool false, .bool false, .bool false] f1
  generalize u1.alloc (.cells #[.bool true, .bool false, .bool false, .bool false, .bool true, .bool false, .bool false, .bool false, .bool false, .bool false] 111) = w0 at t0 ⊢
  generalize u1.heap.size = NH at t0 ⊢
  generalize hNA : w.heap.size = NA at t0 ⊢
  have HNA := Lib.hid hNA
  clear hNA c0
  have T0 := Lib.hid t0
  clear t0 hw f1
  obtain ⟨e0, e1, e2, e3, e4, e5, e6, e7, e8, e9⟩ := T0.out.has
  have q := T0.out.cell 4 _ rfl
  go_wp2_with (fail)
  clear e0 e1 e2 e3 e4 e5 e6 e7 e8 e9 q
  refine (rwText pw G (L) ⟨path.toArray⟩ _ T0.out.a (by have := HL.out; have := HP.out; (try simp only [mk_size]); omega)).mono ?_
  rintro e w1 ⟨rfl, G1, a1, f1, g1⟩
  rw [show (⟨path.toArray⟩ : ByteArray).data.toList = path by simp] at a1
  have T1 := Lib.hid (T0.out.next a1 f1 g1)
  clear a1 f1 g1 T0
  obtain ⟨e0, e1, e2, e3, e4, e5, e6, e7, e8, e9⟩ := T1.out.has
  have q := T1.out.cell 8 _ rfl
  go_wp2_with (fail)
  clear e0 e1 e2 e3 e4 e5 e6 e7 e8 e9 q
  refine (rwByteI pw G1 (L ++ textB path) 0 _ (by decide) T1.out.a (by have := HL.out; have := HP.out; have l0 := textB_len path; (try simp only [List.length_append]); omega)).mono ?_
  rintro e w2 ⟨rfl, G2, a2, f2, g2⟩
  have T2 := Lib.hid (T1.out.next a2 f2 g2)
  clear a2 f2 g2 T1
  obtain ⟨e0, e1, e2, e3, e4, e5, e6, e7, e8, e9⟩ := T2.out.has
  have q := T2.out.cell 4 _ rfl
  go_wp2_with (fail)
  go_end0
  exact ⟨rfl, T2.out.put.cast (by simp [bodyA, List.append_assoc, wB, kindB])⟩
theorem rabody8_calls (f : Fa) (p : Pl) (np pw : Nat) (G : Option Nat) (L : List UInt8) (lo hi : Nat) (w : World) (hf : f.Ok) (hw : RWt w pw G L) (hpl : f.path.length ≤ 1000 ∧ f.data.length ≤ 1000) (hlim : L.length ≤ 1000000) (hD : Rd w lo hi p.A f.data) (hh : hi ≤ w.heap.size) (hpn : ∀ k, lo ≤ k → k < hi → ¬ WF pw G k) (hk : f.k = 8) :
    Calls Tryd.prog 34 #[.pointer (some ⟨pw, 0, none⟩), aval f p np] w fun e w' => e = .returned (.tuple #[]) ∧ RPut pw G (L ++ bodyA f) w w' := by
  cases hwa : f.wa
  · exact rabody8f_calls f p np pw G L lo hi w hf hw hpl hlim hD hh hpn hwa hk
  · exact rabody8t_calls f p np pw G L lo hi w hf hw hpl hlim hD hh hpn hwa hk
set_option maxHeartbeats 3200000 in
set_option maxRecDepth 8000 in
theorem rabody9t_calls (f : Fa) (p : Pl) (np pw : Nat) (G : Option Nat) (L : List UInt8) (lo hi : Nat) (w : World) (hf : f.Ok) (hw : RWt w pw G L) (hpl : f.path.length ≤ 1000 ∧ f.data.length ≤ 1000) (hlim : L.length ≤ 1000000) (hD : Rd w lo hi p.A f.data) (_hh : hi ≤ w.heap.size) (hpn : ∀ k, lo ≤ k → k < hi → ¬ WF pw G k) (hwa : f.wa = true) (hk : f.k = 9) :
    Calls Tryd.prog 34 #[.pointer (some ⟨pw, 0, none⟩), aval f p np] w fun e w' => e = .returned (.tuple #[]) ∧ RPut pw G (L ++ bodyA f) w w' := by
  have HF := Lib.hid hf
  have HP := Lib.hid hpl
  have HL := Lib.hid hlim
  have HD := Lib.hid hD
  have HPN := Lib.hid hpn
  obtain ⟨k, x, s, t, path, data, fl, ve, wa, so, la, ti, fr, ms⟩ := f
  obtain ⟨A, c, B, d, P, e'⟩ := p
  simp only at hk hwa
  subst hk
  subst hwa
  simp only at HP HD
  simp only [aval, acells] at *
  clear hf hpl hlim hD hpn
  have c0 := (cells_of (heap_alloc_new w (.cells #[.int .u8 9, .int .i64 x, .int .i64 s, .int .i64 t, .string ⟨path.toArray⟩, .slice A data.length c, .int .i64 fl, .int .i64 ve, .bool true, .int .u8 so, .int .i64 la, .int .i64 ti, .int .i64 fr, .slice B ms.length d, .slice P np e'] 29)) 0).1
  simp only [List.getElem?_toArray, List.getElem?_cons_zero] at c0
  go_enter Tryd.func34, Tryd.ntmps34
  go_wp2_with (fail)
  refine (rof9 _).mono ?_
  rintro e u1 ⟨rfl, f1⟩
  go_wp2_with (first | (with_reducible refine held_store (ty := 111) ?_) | fail)
  unfold Held
  refine wpList_store_row rfl 111 _ _ rfl u1.heap.size #[.bool true, .bool false, .bool false, .bool false, .bool true, .bool false, .bool false, .bool false, .bool false, .bool false] ?_ ?_ _ _ (heap_alloc_new u1 _) hsize10 rfl (by simp [Value.oneCell']) ?_
  · rfl
  · rfl
  rw [World.setRow_alloc_new]
  have t0 := RA.start hw #[.int .u8 9, .int .i64 x, .int .i64 s, .int .i64 t, .string ⟨path.toArray⟩, .slice A data.length c, .int .i64 fl, .int .i64 ve, .bool true, .int .u8 so, .int .i64 la, .int .i64 ti, .int .i64 fr, .slice B ms.length d, .slice P np e'] #[.bool true, .bool false, .bool false, .bool false, .bool true, .bool false, .bool false, .bool false, .bool false, .bool false] f1
  generalize u1.alloc (.cells #[.bool true, .bool false, .bool false, .bool false, .bool true, .bool false, .bool false, .bool false, .bool false, .bool false] 111) = w0 at t0 ⊢
  generalize u1.heap.size = NH at t0 ⊢
  generalize hNA : w.heap.size = NA at t0 ⊢
  have HNA := Lib.hid hNA
  clear hNA c0
  have T0 := Lib.hid t0
  clear t0 hw f1
  obtain ⟨e0, e1, e2, e3, e4, e5, e6, e7, e8, e9⟩ := T0.out.has
  have q := T0.out.cell 4 _ rfl
  go_wp2_with (fail)
  clear e0 e1 e2 e3 e4 e5 e6 e7 e8 e9 q
  refine (rwText pw G (L) ⟨path.toArray⟩ _ T0.out.a (by have := HL.out; have := HP.out; (try simp only [mk_size]); omega)).mono ?_
  rintro e w1 ⟨rfl, G1, a1, f1, g1⟩
  rw [show (⟨path.toArray⟩ : ByteArray).data.toList = path by simp] at a1
  have T1 := Lib.hid (T0.out.next a1 f1 g1)
  clear a1 f1 g1 T0
  obtain ⟨e0, e1, e2, e3, e4, e5, e6, e7, e8, e9⟩ := T1.out.has
  have q := T1.out.cell 8 _ rfl
  go_wp2_with (fail)
  clear e0 e1 e2 e3 e4 e5 e6 e7 e8 e9 q
  refine (rwByteI pw G1 (L ++ textB path) 1 _ (by decide) T1.out.a (by have := HL.out; have := HP.out; have l0 := textB_len path; (try simp only [List.length_append]); omega)).mono ?_
  rintro e w2 ⟨rfl, G2, a2, f2, g2⟩
  have T2 := Lib.hid (T1.out.next a2 f2 g2)
  clear a2 f2 g2 T1
  obtain ⟨e0, e1, e2, e3, e4, e5, e6, e7, e8, e9⟩ := T2.out.has
  have q := T2.out.cell 4 _ rfl
  go_wp2_with (fail)
  go_end0
  exact ⟨rfl, T2.out.put.cast (by simp [bodyA, List.append_assoc, wB, kindB])⟩
set_option maxHeartbeats 3200000 in
set_option maxRecDepth 8000 in
theorem rabody9f_calls (f : Fa) (p : Pl) (np pw : Nat) (G : Option Nat) (L : List UInt8) (lo hi : Nat) (w : World) (hf : f.Ok) (hw : RWt w pw G L) (hpl : f.path.length ≤ 1000 ∧ f.data.length ≤ 1000) (hlim : L.length ≤ 1000000) (hD : Rd w lo hi p.A f.data) (_hh : hi ≤ w.heap.size) (hpn : ∀ k, lo ≤ k → k < hi → ¬ WF pw G k) (hwa : f.wa = false) (hk : f.k = 9) :
    Calls Tryd.prog 34 #[.pointer (some ⟨pw, 0, none⟩), aval f p np] w fun e w' => e = .returned (.tuple #[]) ∧ RPut pw G (L ++ bodyA f) w w' := by
  have HF := Lib.hid hf
  have HP := Lib.hid hpl
  have HL := Lib.hid hlim
  have HD := Lib.hid hD
  have HPN := Lib.hid hpn
  obtain ⟨k, x, s, t, path, data, fl, ve, wa, so, la, ti, fr, ms⟩ := f
  obtain ⟨A, c, B, d, P, e'⟩ := p
  simp only at hk hwa
  subst hk
  subst hwa
  simp only at HP HD
  simp only [aval, acells] at *
  clear hf hpl hlim hD hpn
  have c0 := (cells_of (heap_alloc_new w (.cells #[.int .u8 9, .int .i64 x, .int .i64 s, .int .i64 t, .string ⟨path.toArray⟩, .slice A data.length c, .int .i64 fl, .int .i64 ve, .bool false, .int .u8 so, .int .i64 la, .int .i64 ti, .int .i64 fr, .slice B ms.length d, .slice P np e'] 29)) 0).1
  simp only [List.getElem?_toArray, List.getElem?_cons_zero] at c0
  go_enter Tryd.func34, Tryd.ntmps34
  go_wp2_with (fail)
  refine (rof9 _).mono ?_
  rintro e u1 ⟨rfl, f1⟩
  go_wp2_with (first | (with_reducible refine held_store (ty := 111) ?_) | fail)
  unfold Held
  refine wpList_store_row rfl 111 _ _ rfl u1.heap.size #[.bool true, .bool false, .bool false, .bool false, .bool true, .bool false, .bool false, .bool false, .bool false, .bool false] ?_ ?_ _ _ (heap_alloc_new u1 _) hsize10 rfl (by simp [Value.oneCell']) ?_
  · rfl
  · rfl
  rw [World.setRow_alloc_new]
  have t0 := RA.start hw #[.int .u8 9, .int .i64 x, .int .i64 s, .int .i64 t, .string ⟨path.toArray⟩, .slice A data.length c, .int .i64 fl, .int .i64 ve, .bool false, .int .u8 so, .int .i64 la, .int .i64 ti, .int .i64 fr, .slice B ms.length d, .slice P np e'] #[.bool true, .bool false, .bool false, .bool false, .bool true, .bool false, .bool false, .bool false, .bool false, .bool false] f1
  generalize u1.alloc (.cells #[.bool true, .bool false, .bool false, .bool false, .bool true, .bool false, .bool false, .bool false, .bool false, .bool false] 111) = w0 at t0 ⊢
  generalize u1.heap.size = NH at t0 ⊢
  generalize hNA : w.heap.size = NA at t0 ⊢
  have HNA := Lib.hid hNA
  clear hNA c0
  have T0 := Lib.hid t0
  clear t0 hw f1
  obtain ⟨e0, e1, e2, e3, e4, e5, e6, e7, e8, e9⟩ := T0.out.has
  have q := T0.out.cell 4 _ rfl
  go_wp2_with (fail)
  clear e0 e1 e2 e3 e4 e5 e6 e7 e8 e9 q
  refine (rwText pw G (L) ⟨path.toArray⟩ _ T0.out.a (by have := HL.out; have := HP.out; (try simp only [mk_size]); omega)).mono ?_
  rintro e w1 ⟨rfl, G1, a1, f1, g1⟩
  rw [show (⟨path.toArray⟩ : ByteArray).data.toList = path by simp] at a1
  have T1 := Lib.hid (T0.out.next a1 f1 g1)
  clear a1 f1 g1 T0
  obtain ⟨e0, e1, e2, e3, e4, e5, e6, e7, e8, e9⟩ := T1.out.has
  have q := T1.out.cell 8 _ rfl
  go_wp2_with (fail)
  clear e0 e1 e2 e3 e4 e5 e6 e7 e8 e9 q
  refine (rwByteI pw G1 (L ++ textB path) 0 _ (by decide) T1.out.a (by have := HL.out; have := HP.out; have l0 := textB_len path; (try simp only [List.length_append]); omega)).mono ?_
  rintro e w2 ⟨rfl, G2, a2, f2, g2⟩
  have T2 := Lib.hid (T1.out.next a2 f2 g2)
  clear a2 f2 g2 T1
  obtain ⟨e0, e1, e2, e3, e4, e5, e6, e7, e8, e9⟩ := T2.out.has
  have q := T2.out.cell 4 _ rfl
  go_wp2_with (fail)
  go_end0
  exact ⟨rfl, T2.out.put.cast (by simp [bodyA, List.append_assoc, wB, kindB])⟩
theorem rabody9_calls (f : Fa) (p : Pl) (np pw : Nat) (G : Option Nat) (L : List UInt8) (lo hi : Nat) (w : World) (hf : f.Ok) (hw : RWt w pw G L) (hpl : f.path.length ≤ 1000 ∧ f.data.length ≤ 1000) (hlim : L.length ≤ 1000000) (hD : Rd w lo hi p.A f.data) (hh : hi ≤ w.heap.size) (hpn : ∀ k, lo ≤ k → k < hi → ¬ WF pw G k) (hk : f.k = 9) :
    Calls Tryd.prog 34 #[.pointer (some ⟨pw, 0, none⟩), aval f p np] w fun e w' => e = .returned (.tuple #[]) ∧ RPut pw G (L ++ bodyA f) w w' := by
  cases hwa : f.wa
  · exact rabody9f_calls f p np pw G L lo hi w hf hw hpl hlim hD hh hpn hwa hk
  · exact rabody9t_calls f p np pw G L lo hi w hf hw hpl hlim hD hh hpn hwa hk
set_option maxHeartbeats 3200000 in
set_option maxRecDepth 8000 in
theorem rabody10_calls (f : Fa) (p : Pl) (np pw : Nat) (G : Option Nat) (L : List UInt8) (lo hi : Nat) (w : World) (hf : f.Ok) (hw : RWt w pw G L) (hpl : f.path.length ≤ 1000 ∧ f.data.length ≤ 1000) (hlim : L.length ≤ 1000000) (hD : Rd w lo hi p.A f.data) (_hh : hi ≤ w.heap.size) (hpn : ∀ k, lo ≤ k → k < hi → ¬ WF pw G k) (hk : f.k = 10) :
    Calls Tryd.prog 34 #[.pointer (some ⟨pw, 0, none⟩), aval f p np] w fun e w' => e = .returned (.tuple #[]) ∧ RPut pw G (L ++ bodyA f) w w' := by
  have HF := Lib.hid hf
  have HP := Lib.hid hpl
  have HL := Lib.hid hlim
  have HD := Lib.hid hD
  have HPN := Lib.hid hpn
  obtain ⟨k, x, s, t, path, data, fl, ve, wa, so, la, ti, fr, ms⟩ := f
  obtain ⟨A, c, B, d, P, e'⟩ := p
  simp only at hk
  subst hk
  simp only at HP HD
  simp only [aval, acells] at *
  clear hf hpl hlim hD hpn
  have c0 := (cells_of (heap_alloc_new w (.cells #[.int .u8 10, .int .i64 x, .int .i64 s, .int .i64 t, .string ⟨path.toArray⟩, .slice A data.length c, .int .i64 fl, .int .i64 ve, .bool wa, .int .u8 so, .int .i64 la, .int .i64 ti, .int .i64 fr, .slice B ms.length d, .slice P np e'] 29)) 0).1
  simp only [List.getElem?_toArray, List.getElem?_cons_zero] at c0
  go_enter Tryd.func34, Tryd.ntmps34
  go_wp2_with (fail)
  refine (rof10 _).mono ?_
  rintro e u1 ⟨rfl, f1⟩
  go_wp2_with (first | (with_reducible refine held_store (ty := 111) ?_) | fail)
  unfold Held
  refine wpList_store_row rfl 111 _ _ rfl u1.heap.size #[.bool false, .bool false, .bool false, .bool false, .bool false, .bool false, .bool false, .bool false, .bool false, .bool false] ?_ ?_ _ _ (heap_alloc_new u1 _) hsize10 rfl (by simp [Value.oneCell']) ?_
  · rfl
  · rfl
  rw [World.setRow_alloc_new]
  have t0 := RA.start hw #[.int .u8 10, .int .i64 x, .int .i64 s, .int .i64 t, .string ⟨path.toArray⟩, .slice A data.length c, .int .i64 fl, .int .i64 ve, .bool wa, .int .u8 so, .int .i64 la, .int .i64 ti, .int .i64 fr, .slice B ms.length d, .slice P np e'] #[.bool false, .bool false, .bool false, .bool false, .bool false, .bool false, .bool false, .bool false, .bool false, .bool false] f1
  generalize u1.alloc (.cells #[.bool false, .bool false, .bool false, .bool false, .bool false, .bool false, .bool false, .bool false, .bool false, .bool false] 111) = w0 at t0 ⊢
  generalize u1.heap.size = NH at t0 ⊢
  generalize hNA : w.heap.size = NA at t0 ⊢
  have HNA := Lib.hid hNA
  clear hNA c0
  have T0 := Lib.hid t0
  clear t0 hw f1
  obtain ⟨e0, e1, e2, e3, e4, e5, e6, e7, e8, e9⟩ := T0.out.has
  go_wp2_with (fail)
  go_end0
  exact ⟨rfl, by have h := T0.out.put; rw [show bodyA _ = [] from rfl, List.append_nil]; exact h⟩
set_option maxHeartbeats 3200000 in
set_option maxRecDepth 8000 in
theorem rabody13_calls (f : Fa) (p : Pl) (np pw : Nat) (G : Option Nat) (L : List UInt8) (lo hi : Nat) (w : World) (hf : f.Ok) (hw : RWt w pw G L) (hpl : f.path.length ≤ 1000 ∧ f.data.length ≤ 1000) (hlim : L.length ≤ 1000000) (hD : Rd w lo hi p.A f.data) (_hh : hi ≤ w.heap.size) (hpn : ∀ k, lo ≤ k → k < hi → ¬ WF pw G k) (hk : f.k = 13) :
    Calls Tryd.prog 34 #[.pointer (some ⟨pw, 0, none⟩), aval f p np] w fun e w' => e = .returned (.tuple #[]) ∧ RPut pw G (L ++ bodyA f) w w' := by
  have HF := Lib.hid hf
  have HP := Lib.hid hpl
  have HL := Lib.hid hlim
  have HD := Lib.hid hD
  have HPN := Lib.hid hpn
  obtain ⟨k, x, s, t, path, data, fl, ve, wa, so, la, ti, fr, ms⟩ := f
  obtain ⟨A, c, B, d, P, e'⟩ := p
  simp only at hk
  subst hk
  simp only at HP HD
  simp only [aval, acells] at *
  clear hf hpl hlim hD hpn
  have c0 := (cells_of (heap_alloc_new w (.cells #[.int .u8 13, .int .i64 x, .int .i64 s, .int .i64 t, .string ⟨path.toArray⟩, .slice A data.length c, .int .i64 fl, .int .i64 ve, .bool wa, .int .u8 so, .int .i64 la, .int .i64 ti, .int .i64 fr, .slice B ms.length d, .slice P np e'] 29)) 0).1
  simp only [List.getElem?_toArray, List.getElem?_cons_zero] at c0
  go_enter Tryd.func34, Tryd.ntmps34
  go_wp2_with (fail)
  refine (rof13 _).mono ?_
  rintro e u1 ⟨rfl, f1⟩
  go_wp2_with (first | (with_reducible refine held_store (ty := 111) ?_) | fail)
  unfold Held
  refine wpList_store_row rfl 111 _ _ rfl u1.heap.size #[.bool false, .bool false, .bool false, .bool false, .bool false, .bool false, .bool false, .bool false, .bool false, .bool false] ?_ ?_ _ _ (heap_alloc_new u1 _) hsize10 rfl (by simp [Value.oneCell']) ?_
  · rfl
  · rfl
  rw [World.setRow_alloc_new]
  have t0 := RA.start hw #[.int .u8 13, .int .i64 x, .int .i64 s, .int .i64 t, .string ⟨path.toArray⟩, .slice A data.length c, .int .i64 fl, .int .i64 ve, .bool wa, .int .u8 so, .int .i64 la, .int .i64 ti, .int .i64 fr, .slice B ms.length d, .slice P np e'] #[.bool false, .bool false, .bool false, .bool false, .bool false, .bool false, .bool false, .bool false, .bool false, .bool false] f1
  generalize u1.alloc (.cells #[.bool false, .bool false, .bool false, .bool false, .bool false, .bool false, .bool false, .bool false, .bool false, .bool false] 111) = w0 at t0 ⊢
  generalize u1.heap.size = NH at t0 ⊢
  generalize hNA : w.heap.size = NA at t0 ⊢
  have HNA := Lib.hid hNA
  clear hNA c0
  have T0 := Lib.hid t0
  clear t0 hw f1
  obtain ⟨e0, e1, e2, e3, e4, e5, e6, e7, e8, e9⟩ := T0.out.has
  go_wp2_with (fail)
  go_end0
  exact ⟨rfl, by have h := T0.out.put; rw [show bodyA _ = [] from rfl, List.append_nil]; exact h⟩
set_option maxHeartbeats 3200000 in
set_option maxRecDepth 8000 in
theorem rabody14_calls (f : Fa) (p : Pl) (np pw : Nat) (G : Option Nat) (L : List UInt8) (lo hi : Nat) (w : World) (hf : f.Ok) (hw : RWt w pw G L) (hpl : f.path.length ≤ 1000 ∧ f.data.length ≤ 1000) (hlim : L.length ≤ 1000000) (hD : Rd w lo hi p.A f.data) (_hh : hi ≤ w.heap.size) (hpn : ∀ k, lo ≤ k → k < hi → ¬ WF pw G k) (hk : f.k = 14) :
    Calls Tryd.prog 34 #[.pointer (some ⟨pw, 0, none⟩), aval f p np] w fun e w' => e = .returned (.tuple #[]) ∧ RPut pw G (L ++ bodyA f) w w' := by
  have HF := Lib.hid hf
  have HP := Lib.hid hpl
  have HL := Lib.hid hlim
  have HD := Lib.hid hD
  have HPN := Lib.hid hpn
  obtain ⟨k, x, s, t, path, data, fl, ve, wa, so, la, ti, fr, ms⟩ := f
  obtain ⟨A, c, B, d, P, e'⟩ := p
  simp only at hk
  subst hk
  simp only at HP HD
  simp only [aval, acells] at *
  clear hf hpl hlim hD hpn
  have c0 := (cells_of (heap_alloc_new w (.cells #[.int .u8 14, .int .i64 x, .int .i64 s, .int .i64 t, .string ⟨path.toArray⟩, .slice A data.length c, .int .i64 fl, .int .i64 ve, .bool wa, .int .u8 so, .int .i64 la, .int .i64 ti, .int .i64 fr, .slice B ms.length d, .slice P np e'] 29)) 0).1
  simp only [List.getElem?_toArray, List.getElem?_cons_zero] at c0
  go_enter Tryd.func34, Tryd.ntmps34
  go_wp2_with (fail)
  refine (rof14 _).mono ?_
  rintro e u1 ⟨rfl, f1⟩
  go_wp2_with (first | (with_reducible refine held_store (ty := 111) ?_) | fail)
  unfold Held
  refine wpList_store_row rfl 111 _ _ rfl u1.heap.size #[.bool true, .bool false, .bool false, .bool false, .bool false, .bool true, .bool true, .bool false, .bool false, .bool false] ?_ ?_ _ _ (heap_alloc_new u1 _) hsize10 rfl (by simp [Value.oneCell']) ?_
  · rfl
  · rfl
  rw [World.setRow_alloc_new]
  have t0 := RA.start hw #[.int .u8 14, .int .i64 x, .int .i64 s, .int .i64 t, .string ⟨path.toArray⟩, .slice A data.length c, .int .i64 fl, .int .i64 ve, .bool wa, .int .u8 so, .int .i64 la, .int .i64 ti, .int .i64 fr, .slice B ms.length d, .slice P np e'] #[.bool true, .bool false, .bool false, .bool false, .bool false, .bool true, .bool true, .bool false, .bool false, .bool false] f1
  generalize u1.alloc (.cells #[.bool true, .bool false, .bool false, .bool false, .bool false, .bool true, .bool true, .bool false, .bool false, .bool false] 111) = w0 at t0 ⊢
  generalize u1.heap.size = NH at t0 ⊢
  generalize hNA : w.heap.size = NA at t0 ⊢
  have HNA := Lib.hid hNA
  clear hNA c0
  have T0 := Lib.hid t0
  clear t0 hw f1
  obtain ⟨e0, e1, e2, e3, e4, e5, e6, e7, e8, e9⟩ := T0.out.has
  have q := T0.out.cell 4 _ rfl
  go_wp2_with (fail)
  clear e0 e1 e2 e3 e4 e5 e6 e7 e8 e9 q
  refine (rwText pw G (L) ⟨path.toArray⟩ _ T0.out.a (by have := HL.out; have := HP.out; (try simp only [mk_size]); omega)).mono ?_
  rintro e w1 ⟨rfl, G1, a1, f1, g1⟩
  rw [show (⟨path.toArray⟩ : ByteArray).data.toList = path by simp] at a1
  have T1 := Lib.hid (T0.out.next a1 f1 g1)
  clear a1 f1 g1 T0
  obtain ⟨e0, e1, e2, e3, e4, e5, e6, e7, e8, e9⟩ := T1.out.has
  have q := T1.out.cell 9 _ rfl
  go_wp2_with (fail)
  clear e0 e1 e2 e3 e4 e5 e6 e7 e8 e9 q
  refine (rwByteI pw G1 (L ++ textB path) so _ HF.out.so T1.out.a (by have := HL.out; have := HP.out; have l0 := textB_len path; (try simp only [List.length_append]); omega)).mono ?_
  rintro e w2 ⟨rfl, G2, a2, f2, g2⟩
  have T2 := Lib.hid (T1.out.next a2 f2 g2)
  clear a2 f2 g2 T1
  obtain ⟨e0, e1, e2, e3, e4, e5, e6, e7, e8, e9⟩ := T2.out.has
  have q := T2.out.cell 10 _ rfl
  go_wp2_with (fail)
  clear e0 e1 e2 e3 e4 e5 e6 e7 e8 e9 q
  refine (rwInt pw G2 (L ++ textB path ++ [kindB so]) la _ HF.out.la.1 HF.out.la.2 T2.out.a (by have := HL.out; have := HP.out; have l0 := textB_len path; (try simp only [List.length_append, List.length_cons, List.length_nil]); omega)).mono ?_
  rintro e w3 ⟨rfl, G3, a3, f3, g3⟩
  have T3 := Lib.hid (T2.out.next a3 f3 g3)
  clear a3 f3 g3 T2
  obtain ⟨e0, e1, e2, e3, e4, e5, e6, e7, e8, e9⟩ := T3.out.has
  have q := T3.out.cell 4 _ rfl
  go_wp2_with (fail)
  go_end0
  exact ⟨rfl, T3.out.put.cast (by simp [bodyA, List.append_assoc])⟩
end Go.Proofs.YtlckgkpgllhpbaaDoor
