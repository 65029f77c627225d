/-
  Rep: the document's reply: its bytes behind others (gen_rep.py).
-/
import Derived.Test.YtlckgkpgllhpbaaDoorRab
import Derived.Test.YtlckgkpgllhpbaaDoorAyu
import Derived.Test.YtlckgkpgllhpbaaDoorRax
namespace Go.Proofs.YtlckgkpgllhpbaaDoor
open Go.RowKit

/-- A writer of the document's that was handed in, and blocks that it leaves alone. -/
structure RK (w0 w : World) (pw : Nat) (G0 G : Option Nat) (L : List UInt8) (K : List (Nat × Obj)) : Prop where
  a : RWt w pw G L
  fr : Fr (WF pw G0) w0 w
  g : ∀ k, WF pw G k → WF pw G0 k ∨ w0.heap.size ≤ k
  k : ∀ x ∈ K, w.heap[x.1]? = some x.2 ∧ ¬ WF pw G x.1
section
variable {w0 w w1 : World} {pw : Nat} {G0 G G1 : Option Nat} {L L' : List UInt8} {K : List (Nat × Obj)}
theorem RK.next (h : RK w0 w pw G0 G L K) (a : RWt w1 pw G1 L') (f : Fr (WF pw G) w w1) (g : ∀ k, WF pw G1 k → WF pw G k ∨ w.heap.size ≤ k) : RK w0 w1 pw G0 G1 L' K :=
  ⟨a, h.fr.trans f fun k hk hx => (h.g k hx).elim id (fun hx => absurd hx (by omega)), fun k hk => (g k hk).elim (h.g k) (fun hx => .inr (Nat.le_trans h.fr.size hx)), fun x hx => ⟨f.at_ (h.k x hx).1 (h.k x hx).2, fun hy => (g x.1 hy).elim (h.k x hx).2 (fun hy => by have := Lib.lt_of_heap (h.k x hx).1; omega)⟩⟩
theorem RK.put (h : RK w0 w pw G0 G L K) : RPut pw G0 L w0 w := ⟨G, h.a, h.fr, h.g⟩
theorem RK.start (h : RWt w pw G L) : RK w w pw G G L [] := ⟨h, Fr.refl _ _, fun k hk => .inl hk, fun x hx => absurd hx (by simp)⟩
theorem RK.keep (h : RK w0 w pw G0 G L K) (f : Fr NoB w w1) : RK w0 w1 pw G0 G L K :=
  ⟨h.a.fr f (fun _ _ x => x), h.fr.trans f fun _ _ x => x.elim, h.g, fun x hx => ⟨f.at_ (h.k x hx).1 (fun x => x), (h.k x hx).2⟩⟩
theorem RK.add (h : RK w0 w pw G0 G L K) (cs : Array Value) (t : TypeId) : RK w0 (w.alloc (.cells cs t)) pw G0 G L ((w.heap.size, .cells cs t (0, 0)) :: K) := by
  have h1 := h.keep ((Fr.refl NoB w).alloc (.cells cs t))
  refine ⟨h1.a, h1.fr, h1.g, fun x hx => ?_⟩
  rcases List.mem_cons.1 hx with rfl | hx
  · exact ⟨heap_alloc_new w _, fun hy => by have := h.a.lt hy; simp only at this; omega⟩
  · exact h1.k x hx
theorem RK.cast (h : RK w0 w pw G0 G L K) (e : L = L') : RK w0 w pw G0 G L' K := e ▸ h
theorem RK.one {b : Nat} {ob : Obj} (h : RK w0 w pw G0 G L ((b, ob) :: K)) : w.heap[b]? = some ob := (h.k _ List.mem_cons_self).1
theorem RK.two {b c : Nat} {ob oc : Obj} (h : RK w0 w pw G0 G L ((c, oc) :: (b, ob) :: K)) : w.heap[b]? = some ob := (h.k _ (List.mem_cons_of_mem _ List.mem_cons_self)).1
theorem RK.three {b c d : Nat} {ob oc od : Obj} (h : RK w0 w pw G0 G L ((d, od) :: (c, oc) :: (b, ob) :: K)) : w.heap[b]? = some ob := (h.k _ (List.mem_cons_of_mem _ (List.mem_cons_of_mem _ List.mem_cons_self))).1
theorem RK.tail {x : Nat × Obj} (h : RK w0 w pw G0 G L (x :: K)) : RK w0 w pw G0 G L K := ⟨h.a, h.fr, h.g, fun y hy => h.k y (List.mem_cons_of_mem _ hy)⟩
theorem RK.far (h : RK w0 w pw G0 G L K) (k : Nat) (h1 : w.heap.size ≤ k) (h3 : WF pw G k) : False := by have := h.a.lt h3; omega
end
theorem iv_cell {w : World} {B : Nat} {l : List Int} {t : TypeId} (h : w.heap[B]? = some (.cells (iv l).toArray t (0, 0))) {j : Nat} {x : Int} (hx : l[j]? = some x) : w.cell? ⟨B, j, none⟩ = some (.int .i64 x) := by
  rw [(cells_of h j).1]; simp [iv, hx]
/-- reply of a part, as it is wanted. -/
def RPutFlat (pw lo hi K : Nat) (q : Fy × Nat) : Prop := ∀ (pl : Py) (G : Option Nat) (L : List UInt8) (w' : World), RWt w' pw G L → L.length ≤ K → Rd w' lo hi pl.A q.1.data → RdT w' lo hi pl.L q.1.ls → RdM w' lo hi pl.B q.1.c.2 → hi ≤ w'.heap.size → (∀ k, lo ≤ k → k < hi → ¬ WF pw G k) → Calls Tryd.prog 41 #[.pointer (some ⟨pw, 0, none⟩), yval q.1 pl q.2] w' fun e w'' => e = .returned (.tuple #[]) ∧ RPut pw G (L ++ (bodyY q.1 ++ intB 0)) w' w''
set_option maxHeartbeats 12800000 in
set_option maxRecDepth 8000 in
theorem ryput_core (k h0 h1 h2 h3 h4 : Int) (path : List UInt8) (A : Option Addr) (data : List UInt8) (dc : Nat) (n0 n1 n2 n3 n4 n5 n6 n7 n8 n9 : Int) (L : Option Addr) (ls : List (List UInt8)) (lc : Nat) (v : Int) (B : Option Addr) (ms : List Mem) (bd : Nat) (P : Option Addr) (l : List (Fy × Nat)) (pe pw : Nat) (G : Option Nat) (L0 : List UInt8) (lo hi : Nat) (w : World)
    (hok : Fy.Ok ⟨k, [h0, h1, h2, h3, h4], path, data, [n0, n1, n2, n3, n4, n5, n6, n7, n8, n9], ls, (v, ms)⟩) (hans : AnsY ⟨k, [h0, h1, h2, h3, h4], path, data, [n0, n1, n2, n3, n4, n5, n6, n7, n8, n9], ls, (v, ms)⟩ l.length) (hw : RWt w pw G L0) (K0 : Nat) (hK0 : K0 ≤ 1000000000) (hlim : L0.length ≤ K0) (hD : Rd w lo hi A data) (hT : RdT w lo hi L ls) (hM : RdM w lo hi B ms) (hP : RdPy w lo hi P l) (hh : hi ≤ w.heap.size) (hpn : ∀ k, lo ≤ k → k < hi → ¬ WF pw G k) (hps : ∀ q ∈ l, PartY q ∧ q.1.Ok ∧ RPutFlat pw lo hi (K0 + 1300000) q) :
    Calls Tryd.prog 41 #[.pointer (some ⟨pw, 0, none⟩), .agg #[.int .u8 k, .int .i64 h0, .int .i64 h1, .int .i64 h2, .int .i64 h3, .int .i64 h4, .string ⟨path.toArray⟩, .slice A data.length dc, .int .i64 n0, .int .i64 n1, .int .i64 n2, .int .i64 n3, .int .i64 n4, .int .i64 n5, .int .i64 n6, .int .i64 n7, .int .i64 n8, .int .i64 n9, .slice L ls.length lc, .int .i64 v, .slice B ms.length bd, .slice P l.length pe]] w fun e w' => e = .returned (.tuple #[]) ∧ RPut pw G (L0 ++ replyB ⟨k, [h0, h1, h2, h3, h4], path, data, [n0, n1, n2, n3, n4, n5, n6, n7, n8, n9], ls, (v, ms)⟩ l) w w' := by
  have HK : Hid (0 ≤ k ∧ k ≤ 255) := Lib.hid hok.k
  have HHD : Hid (∀ n ∈ [h0, h1, h2, h3, h4], OkI n) := Lib.hid hok.hd
  have HST : Hid (∀ n ∈ [n0, n1, n2, n3, n4, n5, n6, n7, n8, n9], OkI n) := Lib.hid hok.st
  have HML : Hid (ms.length ≤ 4398046510976) := Lib.hid hok.ms
  obtain ⟨-, -, -, a1, a2, -, a3, a4, a5, a6⟩ := hans
  have A1 : Hid (path.length ≤ 220) := Lib.hid a1
  have A2 : Hid (data.length ≤ 1000) := Lib.hid a2
  have A3 : Hid (ls.length ≤ 500) := Lib.hid a3
  have A4 : Hid (∀ t ∈ ls, t.length ≤ 220) := Lib.hid a4
  have A5 := Lib.hid a5
  have A6 : Hid (l.length ≤ 16) := Lib.hid a6
  have HD := Lib.hid hD
  have HT := Lib.hid hT
  have HM := Lib.hid hM
  have HP := Lib.hid hP
  have HH := Lib.hid hh
  have HPN := Lib.hid hpn
  have HPS := Lib.hid hps
  have HLIM := Lib.hid hlim
  have T0 := Lib.hid ((RK.start hw).add #[.int .u8 k, .int .i64 h0, .int .i64 h1, .int .i64 h2, .int .i64 h3, .int .i64 h4, .string ⟨path.toArray⟩, .slice A data.length dc, .int .i64 n0, .int .i64 n1, .int .i64 n2, .int .i64 n3, .int .i64 n4, .int .i64 n5, .int .i64 n6, .int .i64 n7, .int .i64 n8, .int .i64 n9, .slice L ls.length lc, .int .i64 v, .slice B ms.length bd, .slice P l.length pe] 43)
  clear hok a1 a2 a3 a4 a5 a6 hD hT hM hP hpn hps hlim hw hh
  go_enter Tryd.func41, Tryd.ntmps41
  go_wp2_with (first | (with_reducible refine held_load (ty := 37) ?_) | fail)
  unfold Held
  generalize w.alloc (.cells #[.int .u8 k, .int .i64 h0, .int .i64 h1, .int .i64 h2, .int .i64 h3, .int .i64 h4, .string ⟨path.toArray⟩, .slice A data.length dc, .int .i64 n0, .int .i64 n1, .int .i64 n2, .int .i64 n3, .int .i64 n4, .int .i64 n5, .int .i64 n6, .int .i64 n7, .int .i64 n8, .int .i64 n9, .slice L ls.length lc, .int .i64 v, .slice B ms.length bd, .slice P l.length pe] 43) = wa at T0 ⊢
  generalize hNA : w.heap.size = NA at T0 ⊢
  have HNA := Lib.hid hNA
  clear hNA
  have hrg : wa.rangeAt NA 8 #[.int .i64 n0, .int .i64 n1, .int .i64 n2, .int .i64 n3, .int .i64 n4, .int .i64 n5, .int .i64 n6, .int .i64 n7, .int .i64 n8, .int .i64 n9].toList := World.rangeAt_of_block T0.out.one 8 10
  refine wpList_load_mid rfl 37 (.tmp 12) rfl NA 8 rfl #[.int .i64 n0, .int .i64 n1, .int .i64 n2, .int .i64 n3, .int .i64 n4, .int .i64 n5, .int .i64 n6, .int .i64 n7, .int .i64 n8, .int .i64 n9].toList _ hrg Tryd.underlying37 rfl stsize10b ?_
  show wpList _ _ _ _ _ _
  go_wp2_with (first | (with_reducible refine held_store (ty := 37) ?_) | fail)
  unfold Held
  refine wpList_store_row rfl 37 _ _ rfl wa.heap.size #[.int .i64 n0, .int .i64 n1, .int .i64 n2, .int .i64 n3, .int .i64 n4, .int .i64 n5, .int .i64 n6, .int .i64 n7, .int .i64 n8, .int .i64 n9] ?_ ?_ _ _ (heap_alloc_new wa _) stsize10b rfl (by simp [Value.oneCell']) ?_
  · rfl
  · rfl
  rw [World.setRow_alloc_new]
  have t1 := T0.out.add #[.int .i64 n0, .int .i64 n1, .int .i64 n2, .int .i64 n3, .int .i64 n4, .int .i64 n5, .int .i64 n6, .int .i64 n7, .int .i64 n8, .int .i64 n9] 37
  generalize wa.alloc (.cells #[.int .i64 n0, .int .i64 n1, .int .i64 n2, .int .i64 n3, .int .i64 n4, .int .i64 n5, .int .i64 n6, .int .i64 n7, .int .i64 n8, .int .i64 n9] 37) = wb at t1 ⊢
  generalize wa.heap.size = NS at t1 ⊢
  have T1 := Lib.hid t1
  clear t1 T0 hrg
  have c0 := (cells_of T1.out.two 0).1
  simp only [List.getElem?_toArray, List.getElem?_cons_zero] at c0
  go_wp2_with (fail)
  refine (rwByteI pw G L0 k _ HK.out T1.out.a (by have := HLIM.out; omega)).mono ?_
  rintro e w1 ⟨rfl, G1, a, f, g⟩
  have T2 := Lib.hid (T1.out.next a f g)
  clear a f g T1 c0
  have c1 := (cells_of T2.out.two 1).1
  have c2 := (cells_of T2.out.two 2).1
  have c3 := (cells_of T2.out.two 3).1
  have c4 := (cells_of T2.out.two 4).1
  have c5 := (cells_of T2.out.two 5).1
  simp only [List.getElem?_toArray, List.getElem?_cons_zero, List.getElem?_cons_succ] at c1 c2 c3 c4 c5
  go_wp2_with (fail)
  clear c1 c2 c3 c4 c5
  have t3 := T2.out.add #[.int .i64 h0, .int .i64 h1, .int .i64 h2, .int .i64 h3, .int .i64 h4] 2
  generalize w1.alloc (.cells #[.int .i64 h0, .int .i64 h1, .int .i64 h2, .int .i64 h3, .int .i64 h4] 2) = w2 at t3 ⊢
  generalize w1.heap.size = NH at t3 ⊢
  have T3 := Lib.hid t3
  clear t3 T2
  have hl1 : (L0 ++ [kindB k]).length ≤ K0 + 1 := by
    have := HLIM.out
    simp only [List.length_append, List.length_cons, List.length_nil]
    omega
  obtain ⟨L1, hL1⟩ : ∃ x, L0 ++ [kindB k] = x := ⟨_, rfl⟩
  rw [hL1] at hl1 T3
  have HL1 := Lib.hid hL1
  have BL1 := Lib.hid hl1
  clear hL1 hl1
  go_loopw [6] (fun i W => ∃ (j : Nat) (Gk : Option Nat), j ≤ 5 ∧ i = .int .i64 (j : Int) ∧ RK w W pw G Gk (L1 ++ intsB ([h0, h1, h2, h3, h4].take j)) [(NH, .cells (iv [h0, h1, h2, h3, h4]).toArray 2 (0, 0)), (NS, .cells #[.int .i64 n0, .int .i64 n1, .int .i64 n2, .int .i64 n3, .int .i64 n4, .int .i64 n5, .int .i64 n6, .int .i64 n7, .int .i64 n8, .int .i64 n9] 37 (0, 0)), (NA, .cells #[.int .u8 k, .int .i64 h0, .int .i64 h1, .int .i64 h2, .int .i64 h3, .int .i64 h4, .string ⟨path.toArray⟩, .slice A data.length dc, .int .i64 n0, .int .i64 n1, .int .i64 n2, .int .i64 n3, .int .i64 n4, .int .i64 n5, .int .i64 n6, .int .i64 n7, .int .i64 n8, .int .i64 n9, .slice L ls.length lc, .int .i64 v, .slice B ms.length bd, .slice P l.length pe] 43 (0, 0))]) (fun i _ => 5 - (intOf i).toNat)
  case atStart => exact ⟨0, _, by omega, rfl, T3.out.cast (by simp [intsB])⟩
  case round =>
  obtain ⟨j, Gj, hj, rfl, ht⟩ := hrel
  have T := Lib.hid ht
  clear ht T3
  have hlj : (L1 ++ intsB ([h0, h1, h2, h3, h4].take j)).length ≤ K0 + 1 + 50 := by
    have p1 := BL1.out
    have p2 := intsB_len ([h0, h1, h2, h3, h4].take j)
    rw [List.length_append]
    rw [List.length_take] at p2
    simp only [List.length_cons, List.length_nil] at p2
    omega
  have HLJ := Lib.hid hlj
  clear hlj
  by_cases hlt : j < 5
  · have hki : (j : Int) < 5 := by omega
    have hk0 : (0 : Int) ≤ (j : Int) := by omega
    obtain ⟨x, hx⟩ : ∃ x, ([h0, h1, h2, h3, h4])[j]? = some x := ⟨_, List.getElem?_eq_getElem (by simpa using hlt)⟩
    have cx := iv_cell (l := [h0, h1, h2, h3, h4]) T.out.one hx
    have hsn := intsB_snoc hx
    have hox := HHD.out x (List.mem_of_getElem? hx)
    have HSN := Lib.hid hsn
    have HOX := Lib.hid hox
    clear hx hsn hox
    go_wp2_with (fail)
    refine (rwInt pw Gj _ x _ HOX.out.1 HOX.out.2 T.out.a (by have := HLJ.out; omega)).mono ?_
    rintro e w8 ⟨rfl, G8, a, f, g⟩
    have T8 := Lib.hid (T.out.next a f g)
    clear a f g T cx
    go_wp2
    go_roundw
    case rel => exact ⟨j + 1, G8, by omega, by go_num, T8.out.cast (by rw [HSN.out, List.append_assoc])⟩
    case measure => simp [intOf]; omega
  obtain rfl : j = 5 := by omega
  have TE' := T.out.tail
  have hle := HLJ.out
  rw [show [h0, h1, h2, h3, h4].take 5 = [h0, h1, h2, h3, h4] from rfl] at TE' hle
  obtain ⟨L2, hL2⟩ : ∃ x, L1 ++ intsB [h0, h1, h2, h3, h4] = x := ⟨_, rfl⟩
  rw [hL2] at TE' hle
  have HL2 := Lib.hid hL2
  have BL2 : Hid (L2.length ≤ K0 + 1 + 50) := Lib.hid hle
  have T4 := Lib.hid TE'
  clear hL2 hle TE' T HLJ hlt hj
  have c6 := (cells_of T4.out.two 6).1
  have c7 := (cells_of T4.out.two 7).1
  simp only [List.getElem?_toArray, List.getElem?_cons_zero, List.getElem?_cons_succ] at c6 c7
  go_wp2_with (fail)
  refine (rwText pw Gj L2 ⟨path.toArray⟩ _ T4.out.a (by have h1 := BL2.out; have h2 := A1.out; rw [mk_size]; omega)).mono ?_
  rintro e w4 ⟨rfl, G4, a, f, g⟩
  rw [show (⟨path.toArray⟩ : ByteArray).data.toList = path by simp] at a
  have T5 := Lib.hid (T4.out.next a f g)
  clear a f g T4 c6 c7
  have c7 := (cells_of T5.out.two 7).1
  simp only [List.getElem?_toArray, List.getElem?_cons_zero, List.getElem?_cons_succ] at c7
  go_wp2_with (fail)
  have hl3 := textB_len path
  refine (rwBytes pw G4 _ data A dc lo hi _ T5.out.a (by have h1 := BL2.out; have h2 := A1.out; have h3 := A2.out; simp only [List.length_append]; omega) (HD.out.fr T5.out.fr HH.out HPN.out)).mono ?_
  rintro e w5 ⟨rfl, G5, a, f, g⟩
  have T6 := Lib.hid (T5.out.next a f g)
  clear a f g T5 c7
  have hl4 : (L2 ++ textB path ++ textB data).length ≤ K0 + 1310 := by
    have h1 := BL2.out
    have h2 := A1.out
    have h3 := A2.out
    have h4 := textB_len data
    simp only [List.length_append]
    omega
  obtain ⟨L3, hL3⟩ : ∃ x, L2 ++ textB path ++ textB data = x := ⟨_, rfl⟩
  rw [hL3] at T6 hl4
  have HL3 := Lib.hid hL3
  have BL3 := Lib.hid hl4
  clear hL3 hl4 hl3
  have y0 := (cells_of T6.out.one 0).1
  have y1 := (cells_of T6.out.one 1).1
  have y2 := (cells_of T6.out.one 2).1
  have y3 := (cells_of T6.out.one 3).1
  have y4 := (cells_of T6.out.one 4).1
  have y5 := (cells_of T6.out.one 5).1
  have y6 := (cells_of T6.out.one 6).1
  have y7 := (cells_of T6.out.one 7).1
  have y8 := (cells_of T6.out.one 8).1
  have y9 := (cells_of T6.out.one 9).1
  simp only [List.getElem?_toArray, List.getElem?_cons_zero, List.getElem?_cons_succ] at y0 y1 y2 y3 y4 y5 y6 y7 y8 y9
  go_wp2_with (fail)
  clear y0 y1 y2 y3 y4 y5 y6 y7 y8 y9
  have t7 := T6.out.add #[.int .i64 n0, .int .i64 n1, .int .i64 n2, .int .i64 n3, .int .i64 n4, .int .i64 n5, .int .i64 n6, .int .i64 n7, .int .i64 n8, .int .i64 n9] 2
  generalize w5.alloc (.cells #[.int .i64 n0, .int .i64 n1, .int .i64 n2, .int .i64 n3, .int .i64 n4, .int .i64 n5, .int .i64 n6, .int .i64 n7, .int .i64 n8, .int .i64 n9] 2) = w6 at t7 ⊢
  generalize w5.heap.size = NT at t7 ⊢
  have T7 := Lib.hid t7
  clear t7 T6
  go_loopw [8] (fun i W => ∃ (j : Nat) (Gk : Option Nat), j ≤ 10 ∧ i = .int .i64 (j : Int) ∧ RK w W pw G Gk (L3 ++ intsB ([n0, n1, n2, n3, n4, n5, n6, n7, n8, n9].take j)) [(NT, .cells (iv [n0, n1, n2, n3, n4, n5, n6, n7, n8, n9]).toArray 2 (0, 0)), (NS, .cells #[.int .i64 n0, .int .i64 n1, .int .i64 n2, .int .i64 n3, .int .i64 n4, .int .i64 n5, .int .i64 n6, .int .i64 n7, .int .i64 n8, .int .i64 n9] 37 (0, 0)), (NA, .cells #[.int .u8 k, .int .i64 h0, .int .i64 h1, .int .i64 h2, .int .i64 h3, .int .i64 h4, .string ⟨path.toArray⟩, .slice A data.length dc, .int .i64 n0, .int .i64 n1, .int .i64 n2, .int .i64 n3, .int .i64 n4, .int .i64 n5, .int .i64 n6, .int .i64 n7, .int .i64 n8, .int .i64 n9, .slice L ls.length lc, .int .i64 v, .slice B ms.length bd, .slice P l.length pe] 43 (0, 0))]) (fun i _ => 10 - (intOf i).toNat)
  case atStart => exact ⟨0, _, by omega, rfl, T7.out.cast (by simp [intsB])⟩
  case round =>
  obtain ⟨j, Gt, hj, rfl, ht⟩ := hrel
  have T := Lib.hid ht
  clear ht T7
  have hlj : (L3 ++ intsB ([n0, n1, n2, n3, n4, n5, n6, n7, n8, n9].take j)).length ≤ K0 + 1310 + 100 := by
    have p1 := BL3.out
    have p2 := intsB_len ([n0, n1, n2, n3, n4, n5, n6, n7, n8, n9].take j)
    rw [List.length_append]
    rw [List.length_take] at p2
    simp only [List.length_cons, List.length_nil] at p2
    omega
  have HLJ := Lib.hid hlj
  clear hlj
  by_cases hlt : j < 10
  · have hki : (j : Int) < 10 := by omega
    have hk0 : (0 : Int) ≤ (j : Int) := by omega
    obtain ⟨x, hx⟩ : ∃ x, ([n0, n1, n2, n3, n4, n5, n6, n7, n8, n9])[j]? = some x := ⟨_, List.getElem?_eq_getElem (by simpa using hlt)⟩
    have cx := iv_cell (l := [n0, n1, n2, n3, n4, n5, n6, n7, n8, n9]) T.out.one hx
    have hsn := intsB_snoc hx
    have hox := HST.out x (List.mem_of_getElem? hx)
    have HSN := Lib.hid hsn
    have HOX := Lib.hid hox
    clear hx hsn hox
    go_wp2_with (fail)
    refine (rwInt pw Gt _ x _ HOX.out.1 HOX.out.2 T.out.a (by have := HLJ.out; omega)).mono ?_
    rintro e w8 ⟨rfl, G8, a, f, g⟩
    have T8 := Lib.hid (T.out.next a f g)
    clear a f g T cx
    go_wp2
    go_roundw
    case rel => exact ⟨j + 1, G8, by omega, by go_num, T8.out.cast (by rw [HSN.out, List.append_assoc])⟩
    case measure => simp [intOf]; omega
  obtain rfl : j = 10 := by omega
  have TE' := T.out.tail
  have hle := HLJ.out
  rw [show [n0, n1, n2, n3, n4, n5, n6, n7, n8, n9].take 10 = [n0, n1, n2, n3, n4, n5, n6, n7, n8, n9] from rfl] at TE' hle
  obtain ⟨L4, hL4⟩ : ∃ x, L3 ++ intsB [n0, n1, n2, n3, n4, n5, n6, n7, n8, n9] = x := ⟨_, rfl⟩
  rw [hL4] at TE' hle
  have HL4 := Lib.hid hL4
  have BL4 : Hid (L4.length ≤ K0 + 1310 + 100) := Lib.hid hle
  have T8 := Lib.hid TE'
  clear hL4 hle TE' T HLJ hlt hj
  have c18 := (cells_of T8.out.two 18).1
  simp only [List.getElem?_toArray, List.getElem?_cons_zero, List.getElem?_cons_succ] at c18
  go_wp2_with (fail)
  refine (rwInt pw Gt L4 (ls.length : Int) _ (by have := A3.out; omega) (by have := A3.out; omega) T8.out.a (by have := BL4.out; omega)).mono ?_
  rintro e w9 ⟨rfl, G9, a, f, g⟩
  have T9 := Lib.hid (T8.out.next a f g)
  clear a f g T8 c18
  have hl5 : (L4 ++ intB (ls.length : Int)).length ≤ K0 + 1420 := by
    have p1 := BL4.out
    have p2 := intB_len (ls.length : Int)
    rw [List.length_append]
    omega
  obtain ⟨L5, hL5⟩ : ∃ x, L4 ++ intB (ls.length : Int) = x := ⟨_, rfl⟩
  rw [hL5] at T9 hl5
  have HL5 := Lib.hid hL5
  have BL5 := Lib.hid hl5
  clear hL5 hl5
  go_wp2
  go_loopw [9] (fun i W => ∃ (j : Nat) (Gk : Option Nat), j ≤ ls.length ∧ i = .int .i64 (j : Int) ∧ RK w W pw G Gk (L5 ++ textsB (ls.take j)) [(NS, .cells #[.int .i64 n0, .int .i64 n1, .int .i64 n2, .int .i64 n3, .int .i64 n4, .int .i64 n5, .int .i64 n6, .int .i64 n7, .int .i64 n8, .int .i64 n9] 37 (0, 0)), (NA, .cells #[.int .u8 k, .int .i64 h0, .int .i64 h1, .int .i64 h2, .int .i64 h3, .int .i64 h4, .string ⟨path.toArray⟩, .slice A data.length dc, .int .i64 n0, .int .i64 n1, .int .i64 n2, .int .i64 n3, .int .i64 n4, .int .i64 n5, .int .i64 n6, .int .i64 n7, .int .i64 n8, .int .i64 n9, .slice L ls.length lc, .int .i64 v, .slice B ms.length bd, .slice P l.length pe] 43 (0, 0))]) (fun i _ => ls.length - (intOf i).toNat)
  case atStart => exact ⟨0, _, by omega, rfl, T9.out.cast (by simp [textsB])⟩
  case round =>
  obtain ⟨j, Gq, hj2, rfl, ht⟩ := hrel
  have T := Lib.hid ht
  clear ht T9
  have hlj : (L5 ++ textsB (ls.take j)).length ≤ K0 + 116430 := by
    have p1 := BL5.out
    have p2 := textsB_len (l := ls.take j) (n := 220) (fun t ht => A4.out t (List.mem_of_mem_take ht))
    have p3 := A3.out
    rw [List.length_append]
    rw [List.length_take] at p2
    omega
  have HLJ := Lib.hid hlj
  clear hlj
  have c18 := (cells_of T.out.two 18).1
  simp only [List.getElem?_toArray, List.getElem?_cons_zero, List.getElem?_cons_succ] at c18
  by_cases hlt : j < ls.length
  · have q3 : (ls.length : Int) ≤ 500 := by have := A3.out; omega
    have hki : (j : Int) < (ls.length : Int) := by omega
    have hk0 : (0 : Int) ≤ (j : Int) := by omega
    obtain ⟨b, o, rfl, hb1, hb2, h4⟩ := HT.out (by omega)
    have hc := (T.out.fr.cell (p := ⟨b, o + j, none⟩) (by have := HH.out; simp only; omega) (HPN.out b hb1 hb2)).trans (h4 j ls[j] (List.getElem?_eq_getElem hlt))
    have ht4 := A4.out ls[j] (List.getElem_mem hlt)
    have hsn := textsB_snoc (List.getElem?_eq_getElem hlt)
    clear h4
    generalize ls[j] = x at hc ht4 hsn
    have HSN := Lib.hid hsn
    have HT4 := Lib.hid ht4
    clear hsn ht4
    go_wp2_with (fail)
    refine (rwText pw Gq _ ⟨x.toArray⟩ _ T.out.a (by have p1 := HLJ.out; have p2 := HT4.out; rw [mk_size]; omega)).mono ?_
    rintro e w8 ⟨rfl, G8, a, f, g⟩
    rw [show (⟨x.toArray⟩ : ByteArray).data.toList = x by simp] at a
    have T8 := Lib.hid (T.out.next a f g)
    clear a f g T hc c18
    go_wp2
    go_roundw
    case rel => exact ⟨j + 1, G8, by omega, by go_num, T8.out.cast (by rw [HSN.out, List.append_assoc])⟩
    case measure => simp [intOf]; omega
  obtain rfl : j = ls.length := by omega
  have TE' := T.out
  have hl8 := HLJ.out
  rw [List.take_length] at TE' hl8
  obtain ⟨L8, hL8⟩ : ∃ x, L5 ++ textsB ls = x := ⟨_, rfl⟩
  rw [hL8] at TE' hl8
  have T9 := Lib.hid TE'
  have HL8 := Lib.hid hL8
  have BL8 := Lib.hid hl8
  clear TE' hL8 hl8 T HLJ hlt hj2
  have HCL := Lib.hid (confB_len (f := ⟨k, [h0, h1, h2, h3, h4], path, data, [n0, n1, n2, n3, n4, n5, n6, n7, n8, n9], ls, (v, ms)⟩) A5.out)
  obtain ⟨D, hD⟩ : ∃ D, confB ⟨k, [h0, h1, h2, h3, h4], path, data, [n0, n1, n2, n3, n4, n5, n6, n7, n8, n9], ls, (v, ms)⟩ = D := ⟨_, rfl⟩
  rw [hD] at HCL
  have HDD := Lib.hid hD
  clear hD
  have c19 := (cells_of T9.out.two 19).1
  have c20 := (cells_of T9.out.two 20).1
  simp only [List.getElem?_toArray, List.getElem?_cons_zero, List.getElem?_cons_succ] at c19 c20
  go_wp2_with (fail)
  obtain ⟨cz, hcz⟩ : ∃ cz, (v == 0 && (ms.length : Int) == 0) = cz := ⟨_, rfl⟩
  have hno := rnone_calls v B ms.length bd wr
  rw [hcz] at hno
  have HCZ := Lib.hid hcz
  clear hcz
  refine hno.mono ?_
  rintro e w9 ⟨rfl, f9⟩
  clear hno
  have T10 := Lib.hid (T9.out.keep f9)
  clear f9 T9 c18 c19 c20
  go_upto_if 104 with fail
  go_cut [10] (fun s W => ∃ (A' : Option Addr) (c' : Nat), s = .slice A' D.length c' ∧ (∃ lo' hi', Rd W lo' hi' A' D) ∧ RK w W pw G Gq L8 [(NS, .cells #[.int .i64 n0, .int .i64 n1, .int .i64 n2, .int .i64 n3, .int .i64 n4, .int .i64 n5, .int .i64 n6, .int .i64 n7, .int .i64 n8, .int .i64 n9] 37 (0, 0)), (NA, .cells #[.int .u8 k, .int .i64 h0, .int .i64 h1, .int .i64 h2, .int .i64 h3, .int .i64 h4, .string ⟨path.toArray⟩, .slice A data.length dc, .int .i64 n0, .int .i64 n1, .int .i64 n2, .int .i64 n3, .int .i64 n4, .int .i64 n5, .int .i64 n6, .int .i64 n7, .int .i64 n8, .int .i64 n9, .slice L ls.length lc, .int .i64 v, .slice B ms.length bd, .slice P l.length pe] 43 (0, 0))])
  case first =>
    cases cz
    rotate_left
    · have hz : v = 0 ∧ ms.length = 0 := by
        have h := HCZ.out
        simp only [Bool.and_eq_true, beq_iff_eq] at h
        exact ⟨h.1, by omega⟩
      have hd : D = [] := by
        rw [← HDD.out]
        unfold confB
        rw [if_pos]
        exact ⟨hz.1, List.length_eq_zero_iff.1 hz.2⟩
      subst hd
      clear hz HDD HCZ
      go_wp2
      all_goals go_meet
      all_goals exact ⟨none, 0, rfl, ⟨0, 0, Rd.nil _ _ _ _⟩, T10.out⟩
    · have hz : ¬ (v = 0 ∧ ms.length = 0) := fun hz => by
        have h := HCZ.out
        rw [hz.1, hz.2] at h
        simp at h
      have hck : chk v ms = 0 := A5.out.elim (fun h => absurd ⟨h.1, List.length_eq_zero_iff.2 h.2⟩ hz) id
      have hd : D = ensB v ms := by
        rw [← HDD.out]
        unfold confB
        rw [if_neg (fun h => hz ⟨h.1, List.length_eq_zero_iff.2 h.2⟩)]
      have hpc := rput_config v B ms bd lo hi w9 (HM.out.fr T10.out.fr HH.out HPN.out) (Nat.le_trans HH.out T10.out.fr.size) (by have := HML.out; omega) hck
      rw [← hd] at hpc
      have HPC := Lib.hid hpc
      clear hz hck hd hpc HDD HCZ
      have c19 := (cells_of T10.out.two 19).1
      have c20 := (cells_of T10.out.two 20).1
      simp only [List.getElem?_toArray, List.getElem?_cons_zero, List.getElem?_cons_succ] at c19 c20
      go_wp2_with (fail)
      refine HPC.out.mono ?_
      rintro e v1 ⟨A9, c9, rfl, -, -, hrd, f9⟩
      have HRD := Lib.hid hrd
      have T11 := Lib.hid (T10.out.keep f9)
      clear hrd f9 c19 c20 HPC T10
      go_wp2
      all_goals go_meet
      all_goals exact ⟨A9, c9, rfl, ⟨_, _, HRD.out⟩, T11.out⟩
  case rest =>
  obtain ⟨A', c', rfl, ⟨lo', hi', hrd⟩, ht⟩ := hcut
  have T11 := Lib.hid ht
  have HRD := Lib.hid hrd
  clear ht hrd T10
  go_wp2_with (fail)
  refine (rwBytes pw Gq L8 D A' c' lo' hi' _ T11.out.a (by have p1 := BL8.out; have p2 := HCL.out; omega) HRD.out).mono ?_
  rintro e w10 ⟨rfl, G10, a, f, g⟩
  have T12 := Lib.hid (T11.out.next a f g)
  clear a f g T11 HRD
  obtain ⟨L10, hL10⟩ : ∃ x, L8 ++ textB D = x := ⟨_, rfl⟩
  have hl10 : L10.length ≤ K0 + 1165100 := by
    have p1 := BL8.out
    have p2 := HCL.out
    have p3 := textB_len D
    rw [← hL10, List.length_append]
    omega
  rw [hL10] at T12
  have HL10 := Lib.hid hL10
  have BL10 := Lib.hid hl10
  clear hL10 hl10
  have c21 := (cells_of T12.out.two 21).1
  simp only [List.getElem?_toArray, List.getElem?_cons_zero, List.getElem?_cons_succ] at c21
  go_wp2_with (fail)
  refine (rwInt pw G10 L10 (l.length : Int) _ (by have := A6.out; omega) (by have := A6.out; omega) T12.out.a (by have := BL10.out; omega)).mono ?_
  rintro e w11 ⟨rfl, G11, a, f, g⟩
  have T13 := Lib.hid (T12.out.next a f g)
  clear a f g T12 c21
  obtain ⟨L11, hL11⟩ : ∃ x, L10 ++ intB (l.length : Int) = x := ⟨_, rfl⟩
  rw [hL11] at T13
  have hl11 : L11.length ≤ K0 + 1165120 := by
    have p1 := BL10.out
    have p2 := intB_len (l.length : Int)
    rw [← hL11, List.length_append]
    omega
  have HL11 := Lib.hid hL11
  have BL11 := Lib.hid hl11
  clear hL11 hl11
  go_wp2
  go_loopw [11] (fun i W => ∃ (j : Nat) (Gk : Option Nat), j ≤ l.length ∧ i = .int .i64 (j : Int) ∧ RK w W pw G Gk (L11 ++ partsY (l.take j)) [(NS, .cells #[.int .i64 n0, .int .i64 n1, .int .i64 n2, .int .i64 n3, .int .i64 n4, .int .i64 n5, .int .i64 n6, .int .i64 n7, .int .i64 n8, .int .i64 n9] 37 (0, 0)), (NA, .cells #[.int .u8 k, .int .i64 h0, .int .i64 h1, .int .i64 h2, .int .i64 h3, .int .i64 h4, .string ⟨path.toArray⟩, .slice A data.length dc, .int .i64 n0, .int .i64 n1, .int .i64 n2, .int .i64 n3, .int .i64 n4, .int .i64 n5, .int .i64 n6, .int .i64 n7, .int .i64 n8, .int .i64 n9, .slice L ls.length lc, .int .i64 v, .slice B ms.length bd, .slice P l.length pe] 43 (0, 0))]) (fun i _ => l.length - (intOf i).toNat)
  case atStart => exact ⟨0, G11, by omega, rfl, T13.out.cast (by simp [partsY])⟩
  case round =>
  obtain ⟨j, Gk, hj3, rfl, ht⟩ := hrel
  have T := Lib.hid ht
  clear ht T13
  have hlj : (L11 ++ partsY (l.take j)).length ≤ K0 + 1300000 := by
    have p1 := BL11.out
    have p2 := partsY_len (l := l.take j) (fun q hq => (HPS.out q (List.mem_of_mem_take hq)).1) (fun q hq => (HPS.out q (List.mem_of_mem_take hq)).2.1)
    have p3 := A6.out
    rw [List.length_append]
    rw [List.length_take] at p2
    omega
  have HLJ := Lib.hid hlj
  clear hlj
  have c21 := (cells_of T.out.two 21).1
  simp only [List.getElem?_toArray, List.getElem?_cons_zero, List.getElem?_cons_succ] at c21
  by_cases hlt : j < l.length
  · have q3 : (l.length : Int) ≤ 16 := by have := A6.out; omega
    have hki : (j : Int) < (l.length : Int) := by omega
    have hk0 : (0 : Int) ≤ (j : Int) := by omega
    obtain ⟨b, o, rfl, hb1, hb2, h4⟩ := HP.out (by omega)
    obtain ⟨pl, hcs, k1, k2, k3⟩ := h4 j l[j] (List.getElem?_eq_getElem hlt)
    have hpf := (HPS.out l[j] (List.getElem_mem hlt)).2.2
    have hsn := partsY_snoc (List.getElem?_eq_getElem hlt)
    clear h4
    generalize l[j] = q at hcs k1 k2 k3 hpf hsn
    have HSN := Lib.hid hsn
    have HL : Hid (wr.rangeAt b (o + j * 22) (ycells q.1 pl q.2).toList) := Lib.hid (fun i v hv => (T.out.fr.cell (p := ⟨b, o + j * 22 + i, none⟩) (by have := HH.out; simp only; omega) (HPN.out b hb1 hb2)).trans (hcs i v (by simpa using hv)))
    have K1 := Lib.hid (k1.fr T.out.fr HH.out HPN.out)
    have K2 := Lib.hid (k2.fr T.out.fr HH.out HPN.out)
    have K3 := Lib.hid (k3.fr T.out.fr HH.out HPN.out)
    have HPF := Lib.hid hpf
    clear hcs k1 k2 k3 hpf hsn
    go_wp2_with (first | (with_reducible refine held_load (ty := 43) ?_) | fail)
    unfold Held
    refine wpList_load_mid rfl 43 (.tmp 130) rfl b (o + j * 22) rfl _ _ HL.out Tryd.underlying43 rfl rsizeY2 ?_
    go_wp2_with (fail)
    clear c21
    refine (HPF.out pl Gk _ _ T.out.a HLJ.out K1.out K2.out K3.out (Nat.le_trans HH.out T.out.fr.size) (fun k h1 h2 h3 => (T.out.g k h3).elim (HPN.out k h1 h2) (fun h => by have := HH.out; omega))).mono ?_
    rintro e w13 ⟨rfl, G13, a, f, g⟩
    have T14 := Lib.hid (T.out.next a f g)
    clear a f g T K1 K2 K3 HL
    go_wp2
    go_roundw
    case rel => exact ⟨j + 1, G13, by omega, by go_num, T14.out.cast (by rw [HSN.out]; simp only [List.append_assoc])⟩
    case measure => simp [intOf]; omega
  obtain rfl : j = l.length := by omega
  have TE' := T.out
  rw [List.take_length] at TE'
  have TE := Lib.hid TE'
  clear TE' T
  go_wp2
  go_end0
  refine ⟨rfl, TE.out.put.cast ?_⟩
  rw [← HL11.out, ← HL10.out, ← HL8.out, ← HL5.out, ← HL4.out, ← HL3.out, ← HL2.out, ← HL1.out]
  unfold replyB bodyY
  simp only []
  rw [HDD.out]
  simp
end Go.Proofs.YtlckgkpgllhpbaaDoor
