/-
  Dru: the document's body with rows of parts.
-/
import Derived.Test.YtmlmbahimklfiaaGreatDoorDrw
import Derived.Test.YtmlmbahimklfiaaGreatDoorDei
namespace Go.Proofs.YtmlmbahimklfiaaGreatDoor
open Go.RowKit

/-- The document's writer that was handed in. -/
structure RC (w0 w : World) (pw : Nat) (G0 G : Option Nat) (L : List UInt8) : Prop where
  a : RWt w pw G L
  fr : Fr (WF pw G0) w0 w
  g : ∀ k, WF pw G k → WF pw G0 k ∨ w0.heap.size ≤ k
theorem RC.next {w0 w w1 : World} {pw : Nat} {G0 G G1 : Option Nat} {L L' : List UInt8} (h : RC w0 w pw G0 G L) (a : RWt w1 pw G1 L') (f : Fr (WF pw G) w w1) (g : ∀ k, WF pw G1 k → WF pw G k ∨ w.heap.size ≤ k) : RC w0 w1 pw G0 G1 L' :=
  ⟨a, h.fr.trans f fun k hk hx => (h.g k hx).elim id (fun hx => absurd hx (by omega)), fun k hk => (g k hk).elim (h.g k) (fun hx => .inr (Nat.le_trans h.fr.size hx))⟩
theorem RC.put {w0 w : World} {pw : Nat} {G0 G : Option Nat} {L : List UInt8} (h : RC w0 w pw G0 G L) : RPut pw G0 L w0 w := ⟨G, h.a, h.fr, h.g⟩
theorem RC.cast {w0 w : World} {pw : Nat} {G0 G : Option Nat} {L L' : List UInt8} (h : RC w0 w pw G0 G L) (e : L = L') : RC w0 w pw G0 G L' := e ▸ h
theorem rwByteI (p : Nat) (G : Option Nat) (l : List UInt8) (k : Int) (w : World) (h0 : 0 ≤ k ∧ k ≤ 255) (h : RWt w p G l) (hlim : l.length + 1 ≤ 140737488355328) :
    Calls Tryz.prog 56 #[.pointer (some ⟨p, 0, none⟩), .int .u8 k] w fun e w' => e = .returned (.tuple #[]) ∧ RPut p G (l ++ [kindB k]) w w' := by
  have h2 := rwByte p G l (kindB k) w h hlim
  rw [kindB_nat h0.1 h0.2] at h2
  exact h2
theorem rbodyp_calls {last : Int} (q : Fd × Nat) (hq : IsPart last q) (hl : last ≤ 3) (p : Pl) (pw : Nat) (G : Option Nat) (L : List UInt8) (lo hi : Nat) (w : World) (hf : q.1.Ok) (hw : RWt w pw G L) (hp : ∀ k, WF pw G k → k < w.heap.size) (hlim : L.length ≤ 1000000) (hD : Rd w lo hi p.A q.1.data) (hh : hi ≤ w.heap.size) (hpn : ∀ k, lo ≤ k → k < hi → ¬ WF pw G k) :
    Calls Tryz.prog 58 #[.pointer (some ⟨pw, 0, none⟩), dval q.1 p q.2] w fun e w' => e = .returned (.tuple #[]) ∧ RPut pw G (L ++ bodyB q.1) w w' := by
  obtain ⟨f, np⟩ := q
  obtain ⟨h1, h2, -, -⟩ := hq.low hl
  have hfit := hq.2.2.2.2.2.1
  simp only at *
  rcases (show f.k = 1 ∨ f.k = 2 ∨ f.k = 3 by omega) with h | h | h
  · have hx := hfit.of1 h
    exact rbody1_calls f p np pw G L lo hi w hf hw hp ⟨by have := pchk_len hx.2.2.2.2.2.2.1; omega, by have := hx.2.2.2.2.2.2.2.1; omega⟩ hlim hD hh hpn h
  · have hx := hfit.of2 h
    exact rbody2_calls f p np pw G L lo hi w hf hw hp ⟨by have := pchk_len hx.2.2.2.2.2.2.2.2.1; omega, by rw [hx.2.1]; simp⟩ hlim hD hh hpn h
  · have hx := hfit.of3 h
    exact rbody3_calls f p np pw G L lo hi w hf hw hp ⟨by have := pchk_len hx.2.2.2.2.2.2.2.1; omega, by have := hx.2.2.2.2.2.2.2.2.1; omega⟩ hlim hD hh hpn h

set_option maxHeartbeats 3200000 in
set_option maxRecDepth 8000 in
theorem rrows_calls (A : Option Addr) (l : List (Fd × Nat)) (c pw : Nat) (G : Option Nat) (L : List UInt8) (lo hi : Nat) (w : World) (hok : ∀ q ∈ l, q.1.Ok ∧ q.2 ≤ 140737488355328) (hw : RWt w pw G L) (hlim : L.length ≤ 100010) (hP : RdP w lo hi A l) (hl : l.length ≤ 500) (hps : ∀ q ∈ l, IsPart 3 q) (hh : hi ≤ w.heap.size) (hpn : ∀ k, lo ≤ k → k < hi → ¬ WF pw G k) :
    Calls Tryz.prog 119 #[.pointer (some ⟨pw, 0, none⟩), .slice A l.length c] w fun e w' => e = .returned (.tuple #[]) ∧ RPut pw G (L ++ (intB l.length ++ partsB l)) w w' := by
  have HL := Lib.hid hlim
  have HP := Lib.hid hP
  have HPN := Lib.hid hpn
  have HPS := Lib.hid hps
  have HOK := Lib.hid hok
  have T0 : Hid (RC w w pw G G L) := ⟨hw, Fr.refl _ w, fun k hk => .inl hk⟩
  clear hok hlim hP hps hpn hw
  go_enter Tryz.func119, Tryz.ntmps119
  go_wp2_with (fail)
  refine (rwInt pw G L l.length _ (by omega) (by omega) T0.out.a (by have := HL.out; omega)).mono ?_
  rintro e w2 ⟨rfl, G2, a2, f2, g2⟩
  have T2 := Lib.hid (T0.out.next a2 f2 g2)
  clear a2 f2 g2 T0
  go_wp2
  have HL0 : Hid ((L ++ intB l.length).length ≤ 100020) := by
    have := HL.out
    have l1 := intB_len (l.length : Int)
    show _ ≤ _
    simp only [List.length_append]
    omega
  have HLL : Hid (L ++ (intB l.length ++ partsB l) = (L ++ intB l.length) ++ partsB l) := by
    show _ = _
    simp
  generalize L ++ intB l.length = L0 at T2 HL0 HLL
  go_loopw [4] (fun i W => ∃ (k : Nat) (Gk : Option Nat), k ≤ l.length ∧ i = .int .i64 (k : Int) ∧ RC w W pw G Gk (L0 ++ partsB (l.take k))) (fun i _ => l.length - (intOf i).toNat)
  case atStart => exact ⟨0, G2, Nat.zero_le _, rfl, T2.out.cast (by simp [partsB])⟩
  case round =>
    obtain ⟨k, Gk, hk, rfl, ht⟩ := hrel
    have T := Lib.hid ht
    clear ht T2
    by_cases hlt : k < l.length
    · as_aux_lemma =>
      have hki : (k : Int) < (l.length : Int) := by omega
      obtain ⟨b, o, rfl, hb1, hb2, h4⟩ := HP.out (by omega)
      obtain ⟨pl, hcs, hrd, -⟩ := h4 k l[k] (List.getElem?_eq_getElem hlt)
      have hq := HOK.out l[k] (List.getElem_mem hlt)
      have hpq := HPS.out l[k] (List.getElem_mem hlt)
      have htk : L0 ++ partsB (l.take (k + 1)) = (L0 ++ partsB (l.take k)) ++ (kindB l[k].1.k :: bodyB l[k].1) := by rw [List.take_succ_eq_append_getElem hlt, partsB_append]; simp [partsB]
      have hlen : (L0 ++ partsB (l.take k)).length ≤ 721000 := by
        have h1 := partsB_len (l := l.take k) (fun q hq => HPS.out q (List.mem_of_mem_take hq))
        have h2 := HL0.out
        rw [List.length_take] at h1
        rw [List.length_append]
        omega
      have HLEN := Lib.hid hlen
      have HTK := Lib.hid htk
      clear h4 hlen htk
      generalize l[k] = q at hcs hrd hq hpq HTK
      generalize L0 ++ partsB (l.take k) = Lk at *
      have HRD := Lib.hid (hrd.fr T.out.fr hh HPN.out)
      have HKR := Lib.hid hq.1.k
      have HQ := Lib.hid hq.1
      have HPQ := Lib.hid hpq
      have HC : ∀ j v, (dcells q.1 pl q.2)[j]? = some v → wr.cell? ⟨b, o + k * 16 + j, none⟩ = some v := fun j v hv => (T.out.fr.cell (p := ⟨b, o + k * 16 + j, none⟩) (by simp only; omega) (HPN.out b hb1 hb2)).trans (hcs j v hv)
      have hkc := HC 1 _ rfl
      have hbn : ¬ WF pw Gk b := fun h3 => (T.out.g b h3).elim (HPN.out b hb1 hb2) (fun h => by omega)
      have hbs : b < wr.heap.size := by have := T.out.fr.size; omega
      clear hrd hq hpq hcs
      go_wp2_with (fail)
      refine (rwByteI pw Gk Lk q.1.k _ HKR.out T.out.a (by have := HLEN.out; omega)).mono ?_
      rintro e w3 ⟨rfl, G3, a3, f3, g3⟩
      have T3 := Lib.hid (T.out.next a3 f3 g3)
      have HRD3 := Lib.hid (HRD.out.fr f3 (Nat.le_trans hh T.out.fr.size) (fun k h1 h2 h3 => (T.out.g k h3).elim (HPN.out k h1 h2) (fun h => by omega)))
      have hL := Lib.hid (part_range (w := w3) (b := b) (a := o + k * 16) (fun j v hv => (f3.cell (p := ⟨b, o + k * 16 + j, none⟩) hbs hbn).trans (HC j v hv)))
      clear a3 f3 g3 HRD HC hkc hbn hbs
      have HBC := Lib.hid (rbodyp_calls (last := 3) q HPQ.out (by decide) pl pw G3 (Lk ++ [kindB q.1.k]) lo hi w3 HQ.out T3.out.a (fun k h => T3.out.a.lt h) (by have := HLEN.out; simp only [List.length_append, List.length_cons, List.length_nil]; omega) HRD3.out (Nat.le_trans hh T3.out.fr.size) (fun k h1 h2 h3 => (T3.out.g k h3).elim (HPN.out k h1 h2) (fun h => by omega)))
      go_wp2_with (first | (refine wpList_load_mid rfl 31 _ rfl b (o + k * 16) rfl _ _ hL.out Tryz.underlying31 rfl (size_deed _ _ _) ?_) | fail)
      refine HBC.out.mono ?_
      rintro e w4 ⟨rfl, G4, a4, f4, g4⟩
      have T4 := Lib.hid (T3.out.next a4 f4 g4)
      clear a4 f4 g4 T3 HBC
      go_wp2
      go_roundw
      case rel => exact ⟨k + 1, G4, by omega, by go_num, T4.out.cast (by rw [HTK.out]; simp)⟩
      case measure => simp [intOf]; omega
    · as_aux_lemma =>
      obtain rfl : k = l.length := by omega
      have T9 := T.out
      rw [List.take_length] at T9
      have TE := Lib.hid T9
      clear T9 T
      go_wp2
      go_end0
      exact ⟨rfl, TE.out.put.cast HLL.out.symm⟩
set_option maxHeartbeats 3200000 in
set_option maxRecDepth 8000 in
theorem rbody5_calls (f : Fd) (p : Pl) (l : List (Fd × Nat)) (pw : Nat) (G : Option Nat) (L : List UInt8) (lo hi : Nat) (w : World) (hf : f.Ok) (hok : ∀ q ∈ l, q.1.Ok ∧ q.2 ≤ 140737488355328) (hw : RWt w pw G L) (hp : ∀ k, WF pw G k → k < w.heap.size) (hlim : L.length ≤ 100000) (hP : RdP w lo hi p.P l) (hl : l.length ≤ 500) (hps : ∀ q ∈ l, IsPart 3 q) (hh : hi ≤ w.heap.size) (hpn : ∀ k, lo ≤ k → k < hi → ¬ WF pw G k) (hk : f.k = 5) :
    Calls Tryz.prog 58 #[.pointer (some ⟨pw, 0, none⟩), dval f p l.length] w fun e w' => e = .returned (.tuple #[]) ∧ RPut pw G (L ++ (bodyB f ++ (intB l.length ++ partsB l))) w w' := by
  have HF := Lib.hid hf
  have HL := Lib.hid hlim
  have HP := Lib.hid hP
  have HPN := Lib.hid hpn
  have HRW := Lib.hid (fun A c G L W lo' hi' => rrows_calls A l c pw G L lo' hi' W hok)
  obtain ⟨z, k, s, t, x, m, path, data, ow, ve, cv, ti, er, cver, ms⟩ := f
  obtain ⟨A, c, B, d, P, e'⟩ := p
  simp only at hk
  subst hk
  simp only at HP
  have T0 := Lib.hid (RB.start hw hp (dcells ⟨z, 5, s, t, x, m, path, data, ow, ve, cv, ti, er, (cver, ms)⟩ ⟨A, c, B, d, P, e'⟩ l.length))
  have HBB : Hid (bodyB ⟨z, 5, s, t, x, m, path, data, ow, ve, cv, ti, er, (cver, ms)⟩ = intB ow) := by simp [bodyB, Hid]
  simp only [dval, dcells] at *
  clear hf hok hlim hP hpn hp hw
  go_enter Tryz.func58, Tryz.ntmps58
  go_wp2_with (fail)
  refine (rwInt pw G L ow _ HF.out.ow.1 HF.out.ow.2 T0.out.a (by have := HL.out; omega)).mono ?_
  rintro e w1 ⟨rfl, G1, a1, f1, g1⟩
  have T1 := Lib.hid (T0.out.next a1 f1 g1)
  clear a1 f1 g1 T0
  have d1 := T1.out.cell 15 _ rfl
  go_wp2_with (fail)
  refine (HRW.out P e' G1 (L ++ intB ow) _ lo hi T1.out.a (by have := HL.out; have l0 := intB_len ow; simp only [List.length_append]; omega) (HP.out.fr T1.out.fr hh HPN.out) hl hps (Nat.le_trans hh T1.out.fr.size) (fun k h1 h2 h3 => (T1.out.g k h3).elim (HPN.out k h1 h2) (fun h => by omega))).mono ?_
  rintro e w2 ⟨rfl, G2, a2, f2, g2⟩
  have T2 := Lib.hid (T1.out.next a2 f2 g2)
  clear a2 f2 g2 T1 d1
  go_wp2
  go_end0
  exact ⟨rfl, T2.out.put.cast (by rw [HBB.out]; simp)⟩
set_option maxHeartbeats 3200000 in
set_option maxRecDepth 8000 in
theorem rbody8_calls (f : Fd) (p : Pl) (l : List (Fd × Nat)) (pw : Nat) (G : Option Nat) (L : List UInt8) (lo hi : Nat) (w : World) (hf : f.Ok) (hok : ∀ q ∈ l, q.1.Ok ∧ q.2 ≤ 140737488355328) (hw : RWt w pw G L) (hp : ∀ k, WF pw G k → k < w.heap.size) (hlim : L.length ≤ 100000) (hP : RdP w lo hi p.P l) (hl : l.length ≤ 500) (hps : ∀ q ∈ l, IsPart 3 q) (hh : hi ≤ w.heap.size) (hpn : ∀ k, lo ≤ k → k < hi → ¬ WF pw G k) (hk : f.k = 8) :
    Calls Tryz.prog 58 #[.pointer (some ⟨pw, 0, none⟩), dval f p l.length] w fun e w' => e = .returned (.tuple #[]) ∧ RPut pw G (L ++ (bodyB f ++ (intB l.length ++ partsB l))) w w' := by
  have HF := Lib.hid hf
  have HL := Lib.hid hlim
  have HP := Lib.hid hP
  have HPN := Lib.hid hpn
  have HRW := Lib.hid (fun A c G L W lo' hi' => rrows_calls A l c pw G L lo' hi' W hok)
  obtain ⟨z, k, s, t, x, m, path, data, ow, ve, cv, ti, er, cver, ms⟩ := f
  obtain ⟨A, c, B, d, P, e'⟩ := p
  simp only at hk
  subst hk
  simp only at HP
  have T0 := Lib.hid (RB.start hw hp (dcells ⟨z, 8, s, t, x, m, path, data, ow, ve, cv, ti, er, (cver, ms)⟩ ⟨A, c, B, d, P, e'⟩ l.length))
  have HBB : Hid (bodyB ⟨z, 8, s, t, x, m, path, data, ow, ve, cv, ti, er, (cver, ms)⟩ = []) := by simp [bodyB, Hid]
  simp only [dval, dcells] at *
  clear hf hok hlim hP hpn hp hw
  go_enter Tryz.func58, Tryz.ntmps58
  go_wp2_with (fail)
  refine (HRW.out P e' G L _ lo hi T0.out.a (by have := HL.out; omega) (HP.out.fr T0.out.fr hh HPN.out) hl hps (Nat.le_trans hh T0.out.fr.size) (fun k h1 h2 h3 => (T0.out.g k h3).elim (HPN.out k h1 h2) (fun h => by omega))).mono ?_
  rintro e w2 ⟨rfl, G2, a2, f2, g2⟩
  have T2 := Lib.hid (T0.out.next a2 f2 g2)
  clear a2 f2 g2 T0
  go_wp2
  go_end0
  exact ⟨rfl, T2.out.put.cast (by rw [HBB.out]; simp)⟩
theorem rbody_right (f : Fd) (p : Pl) (l : List (Fd × Nat)) (pw : Nat) (G : Option Nat) (L : List UInt8) (lo hi : Nat) (w : World) (hR : Right f l) (hf : f.Ok) (hok : ∀ q ∈ l, q.1.Ok ∧ q.2 ≤ 140737488355328) (hw : RWt w pw G L) (hp : ∀ k, WF pw G k → k < w.heap.size) (hlim : L.length ≤ 100000) (hD : RdD w lo hi f p l) (hh : hi ≤ w.heap.size) (hpn : ∀ k, lo ≤ k → k < hi → ¬ WF pw G k) :
    Calls Tryz.prog 58 #[.pointer (some ⟨pw, 0, none⟩), dval f p l.length] w fun e w' => e = .returned (.tuple #[]) ∧ RPut pw G (L ++ tailB f l) w w' := by
  obtain ⟨hps, hl5, h0, -⟩ := hR.parts
  have hfit := hR.2.2.2.2.2.2.1
  have h7 := hR.2.2.2.2.2.2.2.2.1
  have key : ∀ T, tailB f l = T → (Calls Tryz.prog 58 #[.pointer (some ⟨pw, 0, none⟩), dval f p l.length] w fun e w' => e = .returned (.tuple #[]) ∧ RPut pw G (L ++ T) w w') → Calls Tryz.prog 58 #[.pointer (some ⟨pw, 0, none⟩), dval f p l.length] w fun e w' => e = .returned (.tuple #[]) ∧ RPut pw G (L ++ tailB f l) w w' := fun T h hc => by rw [h]; exact hc
  have hL1 : L.length ≤ 1000000 := by omega
  have hno : ¬ (f.k = 5 ∨ f.k = 8) → tailB f l = bodyB f := fun h => by unfold tailB; rw [if_neg h, List.append_nil]
  have hyes : (f.k = 5 ∨ f.k = 8) → tailB f l = bodyB f ++ (intB l.length ++ partsB l) := fun h => by unfold tailB; rw [if_pos h]
  rcases hfit with h | h | h | h | h | h | h | h | h <;> have hk := h.1
  · exact key _ (hno (by omega)) (rbody1_calls f p l.length pw G L lo hi w hf hw hp ⟨by have := pchk_len h.2.2.2.2.2.2.1; omega, by have := h.2.2.2.2.2.2.2.1; omega⟩ hL1 hD.data hh hpn hk)
  · exact key _ (hno (by omega)) (rbody2_calls f p l.length pw G L lo hi w hf hw hp ⟨by have := pchk_len h.2.2.2.2.2.2.2.2.1; omega, by rw [h.2.1]; simp⟩ hL1 hD.data hh hpn hk)
  · exact key _ (hno (by omega)) (rbody3_calls f p l.length pw G L lo hi w hf hw hp ⟨by have := pchk_len h.2.2.2.2.2.2.2.1; omega, by have := h.2.2.2.2.2.2.2.2.1; omega⟩ hL1 hD.data hh hpn hk)
  · exact key _ (hno (by omega)) (rbody4_calls f p l.length pw G L lo hi w hf hw hp ⟨by rw [h.2.1]; simp, by rw [h.2.2.1]; simp⟩ hL1 hD.data hh hpn hk)
  · exact key _ (hyes (by omega)) (rbody5_calls f p l pw G L lo hi w hf hok hw hp hlim hD.parts hl5 hps hh hpn hk)
  · exact key _ (hno (by omega)) (rbody6_calls f p l.length pw G L lo hi w hf hw hp ⟨by rw [h.2.1]; simp, by rw [h.2.2.1]; simp⟩ hL1 hD.data hh hpn hk)
  · exact key _ (hno (by omega)) (rbody7_calls f p l.length pw G L lo hi w hf hw hp hL1 hD.ms hh hpn (h7 hk).1 hk)
  · exact key _ (hyes (by omega)) (rbody8_calls f p l pw G L lo hi w hf hok hw hp hlim hD.parts hl5 hps hh hpn hk)
  · exact key _ (hno (by omega)) (rbody9_calls f p l.length pw G L lo hi w hf hw hp ⟨by rw [h.2.1]; simp, by rw [h.2.2.1]; simp⟩ hL1 hD.data hh hpn hk)

end Go.Proofs.YtmlmbahimklfiaaGreatDoor
