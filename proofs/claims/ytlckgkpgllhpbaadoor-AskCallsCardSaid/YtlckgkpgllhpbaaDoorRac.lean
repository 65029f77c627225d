/-
  Rac: the document's body puts members, and rows of parts; PutAsk.
-/
import Derived.Test.YtlckgkpgllhpbaaDoorRab
import Derived.Test.YtlckgkpgllhpbaaDoorAbe
namespace Go.Proofs.YtlckgkpgllhpbaaDoor
open Go.RowKit

theorem rabodyp_calls (q : Fa × Nat) (hq : PartA q) (p : Pl) (pw : Nat) (G : Option Nat) (L : List UInt8) (lo hi : Nat) (w : World) (hf : q.1.Ok) (hw : RWt w pw G L) (hlim : L.length ≤ 1000000) (hD : Rd w lo hi p.A q.1.data) (hh : hi ≤ w.heap.size) (hpn : ∀ k, lo ≤ k → k < hi → ¬ WF pw G k) :
    Calls Tryd.prog 34 #[.pointer (some ⟨pw, 0, none⟩), aval q.1 p q.2] w fun e w' => e = .returned (.tuple #[]) ∧ RPut pw G (L ++ bodyA q.1) w w' := by
  obtain ⟨f, np⟩ := q
  obtain ⟨⟨-, -, hl1, hl2, -⟩, hk, -⟩ := hq
  simp only at *
  rcases (show f.k = 3 ∨ f.k = 4 ∨ f.k = 5 ∨ f.k = 6 by omega) with h | h | h | h
  · exact rabody3_calls f p np pw G L lo hi w hf hw ⟨by omega, by omega⟩ hlim hD hh hpn h
  · exact rabody4_calls f p np pw G L lo hi w hf hw ⟨by omega, by omega⟩ hlim hD hh hpn h
  · exact rabody5_calls f p np pw G L lo hi w hf hw ⟨by omega, by omega⟩ hlim hD hh hpn h
  · exact rabody6_calls f p np pw G L lo hi w hf hw ⟨by omega, by omega⟩ hlim hD hh hpn h
set_option maxHeartbeats 3200000 in
set_option maxRecDepth 8000 in
theorem rabody12_calls (f : Fa) (p : Pl) (np pw : Nat) (G : Option Nat) (L : List UInt8) (lo hi : Nat) (w : World) (hf : f.Ok) (hms : f.OkMs) (hw : RWt w pw G L) (hlim : L.length ≤ 100000) (hM : RdM w lo hi p.B f.ms) (hl : f.ms.length ≤ 7) (hh : hi ≤ w.heap.size) (hpn : ∀ k, lo ≤ k → k < hi → ¬ WF pw G k) (hk : f.k = 12) :
    Calls Tryd.prog 34 #[.pointer (some ⟨pw, 0, none⟩), aval f p np] w fun e w' => e = .returned (.tuple #[]) ∧ RPut pw G (L ++ bodyA f) w w' := by
  have HL := Lib.hid hlim
  have HPN := Lib.hid hpn
  have HM := Lib.hid hM
  have HOK := Lib.hid hms
  have HFR := Lib.hid hf.fr
  obtain ⟨k, x, s, t, path, data, fl, ve, wa, so, la, ti, fr, ms⟩ := f
  obtain ⟨A, c, B, d, P, e'⟩ := p
  simp only at hk
  subst hk
  simp only at HM hl HFR
  unfold Fa.OkMs at HOK
  simp only at HOK
  simp only [aval, acells] at *
  clear hlim hM hms hpn hf
  have c0 := (cells_of (heap_alloc_new w (.cells #[.int .u8 12, .int .i64 x, .int .i64 s, .int .i64 t, .string ⟨path.toArray⟩, .slice A data.length c, .int .i64 fl, .int .i64 ve, .bool wa, .int .u8 so, .int .i64 la, .int .i64 ti, .int .i64 fr, .slice B ms.length d, .slice P np e'] 29)) 0).1
  simp only [List.getElem?_toArray, List.getElem?_cons_zero] at c0
  go_enter Tryd.func34, Tryd.ntmps34
  go_wp2_with (fail)
  refine (rof12 _).mono ?_
  rintro e u1 ⟨rfl, f1⟩
  go_wp2_with (first | (with_reducible refine held_store (ty := 111) ?_) | fail)
  unfold Held
  refine wpList_store_row rfl 111 _ _ rfl u1.heap.size #[.bool false, .bool false, .bool false, .bool false, .bool false, .bool false, .bool false, .bool false, .bool true, .bool false] ?_ ?_ _ _ (heap_alloc_new u1 _) hsize10 rfl (by simp [Value.oneCell']) ?_
  · rfl
  · rfl
  rw [World.setRow_alloc_new]
  have t0 := RA.start hw #[.int .u8 12, .int .i64 x, .int .i64 s, .int .i64 t, .string ⟨path.toArray⟩, .slice A data.length c, .int .i64 fl, .int .i64 ve, .bool wa, .int .u8 so, .int .i64 la, .int .i64 ti, .int .i64 fr, .slice B ms.length d, .slice P np e'] #[.bool false, .bool false, .bool false, .bool false, .bool false, .bool false, .bool false, .bool false, .bool true, .bool false] f1
  generalize u1.alloc (.cells #[.bool false, .bool false, .bool false, .bool false, .bool false, .bool false, .bool false, .bool false, .bool true, .bool false] 111) = w0 at t0 ⊢
  generalize u1.heap.size = NH at t0 ⊢
  generalize hNA : w.heap.size = NA at t0 ⊢
  have HNA := Lib.hid hNA
  clear hNA c0
  have T0 := Lib.hid t0
  clear t0 hw f1
  obtain ⟨e0, e1, e2, e3, e4, e5, e6, e7, e8, e9⟩ := T0.out.has
  have q := T0.out.cell 12 _ rfl
  go_wp2_with (fail)
  refine (rwInt pw G L fr _ HFR.out.1 HFR.out.2 T0.out.a (by have := HL.out; omega)).mono ?_
  rintro e w1 ⟨rfl, G1, a1, f1, g1⟩
  have T1 := Lib.hid (T0.out.next a1 f1 g1)
  clear a1 f1 g1 T0 e0 e1 e2 e3 e4 e5 e6 e7 e8 e9 q
  have q := T1.out.cell 13 _ rfl
  go_wp2_with (fail)
  refine (rwInt pw G1 _ (ms.length : Int) _ (by omega) (by omega) T1.out.a (by have := HL.out; have := intB_len fr; simp only [List.length_append]; omega)).mono ?_
  rintro e w2 ⟨rfl, G2, a2, f2, g2⟩
  have T2 := Lib.hid (T1.out.next a2 f2 g2)
  clear a2 f2 g2 T1 q
  go_wp2
  have HL0 : Hid ((L ++ intB fr ++ intB (ms.length : Int)).length ≤ 100030) := by
    have := HL.out
    have l1 := intB_len fr
    have l2 := intB_len (ms.length : Int)
    show _ ≤ _
    simp only [List.length_append]
    omega
  have HLL : Hid (L ++ bodyA ⟨12, x, s, t, path, data, fl, ve, wa, so, la, ti, fr, ms⟩ = (L ++ intB fr ++ intB (ms.length : Int)) ++ memsB ms) := by
    show _ = _
    simp [bodyA]
  generalize L ++ intB fr ++ intB (ms.length : Int) = L0 at T2 HL0 HLL
  go_loopw [6] (fun i W => ∃ (k : Nat) (Gk : Option Nat), k ≤ ms.length ∧ i = .int .i64 (k : Int) ∧ RA w W pw G Gk (L0 ++ memsB (ms.take k)) NA #[.int .u8 12, .int .i64 x, .int .i64 s, .int .i64 t, .string ⟨path.toArray⟩, .slice A data.length c, .int .i64 fl, .int .i64 ve, .bool wa, .int .u8 so, .int .i64 la, .int .i64 ti, .int .i64 fr, .slice B ms.length d, .slice P np e'] NH #[.bool false, .bool false, .bool false, .bool false, .bool false, .bool false, .bool false, .bool false, .bool true, .bool false]) (fun i _ => ms.length - (intOf i).toNat)
  case atStart => exact ⟨0, G2, Nat.zero_le _, rfl, T2.out.cast (by simp [memsB])⟩
  case round =>
    obtain ⟨k, Gk, hk, rfl, ht⟩ := hrel
    have T := Lib.hid ht
    clear ht T2
    have q := T.out.cell 13 _ rfl
    by_cases hlt : k < ms.length
    · have hki : (k : Int) < (ms.length : Int) := by omega
      have hk0 : (0 : Int) ≤ (k : Int) := by omega
      obtain ⟨b, o, rfl, hb1, hb2, hcs⟩ := HM.out (by omega)
      obtain ⟨d0, d1, d2, d3⟩ := hcs k ms[k] (List.getElem?_eq_getElem hlt)
      have hom := HOK.out ms[k] (List.getElem_mem hlt)
      have htk : L0 ++ memsB (ms.take (k + 1)) = (L0 ++ memsB (ms.take k)) ++ memB ms[k] := by rw [List.take_succ_eq_append_getElem hlt, memsB_append, List.append_assoc]; simp [memsB]
      have hlen : (L0 ++ memsB (ms.take k)).length ≤ 721000 := by
        have h1 := memsB_len (ms.take k)
        have h2 := HL0.out
        rw [List.length_take] at h1
        rw [List.length_append]
        omega
      have HLEN := Lib.hid hlen
      have HTK := Lib.hid htk
      clear hlen htk
      generalize ms[k] = m at d0 d1 d2 d3 hom HTK
      obtain ⟨m0, m1, m2, m3⟩ := m
      obtain ⟨om0, om1, om2, om3⟩ := hom
      simp only at d0 d1 d2 d3 om0 om1 om2 om3
      have HO0 := Lib.hid om0
      have HO1 := Lib.hid om1
      have HO2 := Lib.hid om2
      have HO3 := Lib.hid om3
      generalize L0 ++ memsB (ms.take k) = Lk at *
      have hbl : b < w.heap.size := by omega
      have y0 := (T.out.fr.cell (p := ⟨b, o + k * 4, none⟩) hbl (HPN.out b hb1 hb2)).trans d0
      have y1 := (T.out.fr.cell (p := ⟨b, o + k * 4 + 1, none⟩) hbl (HPN.out b hb1 hb2)).trans d1
      have y2 := (T.out.fr.cell (p := ⟨b, o + k * 4 + 2, none⟩) hbl (HPN.out b hb1 hb2)).trans d2
      have y3 := (T.out.fr.cell (p := ⟨b, o + k * 4 + 3, none⟩) hbl (HPN.out b hb1 hb2)).trans d3
      clear d0 d1 d2 d3 hcs om0 om1 om2 om3
      go_wp2_with (fail)
      have TA := Lib.hid (T.out.keep ((Fr.refl NoB wr).alloc (.cells #[.int .i64 m0, .int .u8 m1, .int .i64 m2, .int .i64 m3] 106)))
      have hm := heap_alloc_new wr (.cells #[.int .i64 m0, .int .u8 m1, .int .i64 m2, .int .i64 m3] 106)
      have hnw : ¬ WF pw Gk wr.heap.size := fun h => Nat.lt_irrefl _ (T.out.a.lt h)
      clear y0 y1 y2 y3 T q
      generalize wr.alloc (.cells #[.int .i64 m0, .int .u8 m1, .int .i64 m2, .int .i64 m3] 106) = wq at TA hm ⊢
      generalize wr.heap.size = MB at hm hnw ⊢
      have HMB := Lib.hid hm
      have HNW := Lib.hid hnw
      clear hm hnw
      refine (rwInt pw Gk Lk m0 _ HO0.out.1 HO0.out.2 TA.out.a (by have := HLEN.out; omega)).mono ?_
      rintro e w3 ⟨rfl, G3, a3, f3, g3⟩
      have T3 := Lib.hid (TA.out.next a3 f3 g3)
      have HM3 := Lib.hid (f3.at_ HMB.out HNW.out)
      have HN3 := Lib.hid (fun (h : WF pw G3 MB) => (g3 _ h).elim HNW.out (fun h => absurd (Lib.lt_of_heap HMB.out) (by omega)))
      clear a3 f3 g3 TA HMB HNW
      have c1 := (cells_of HM3.out 1).1
      simp only [List.getElem?_toArray, List.getElem?_cons_zero, List.getElem?_cons_succ] at c1
      have hwr : IntKind.i64.wrap m1 = m1 := by have := HO1.out; unfold IntKind.wrap; simp [IntKind.signed, IntKind.bits]; omega
      go_wp2_with (fail)
      refine (rwInt pw G3 _ m1 _ (by have := HO1.out; omega) (by have := HO1.out; omega) T3.out.a (by have := HLEN.out; have := intB_len m0; simp only [List.length_append]; omega)).mono ?_
      rintro e w4 ⟨rfl, G4, a4, f4, g4⟩
      have T4 := Lib.hid (T3.out.next a4 f4 g4)
      have HM4 := Lib.hid (f4.at_ HM3.out HN3.out)
      have HN4 := Lib.hid (fun (h : WF pw G4 MB) => (g4 _ h).elim HN3.out (fun h => absurd (Lib.lt_of_heap HM3.out) (by omega)))
      clear a4 f4 g4 T3 HM3 HN3 c1 hwr
      have c2 := (cells_of HM4.out 2).1
      simp only [List.getElem?_toArray, List.getElem?_cons_zero, List.getElem?_cons_succ] at c2
      go_wp2_with (fail)
      refine (rwInt pw G4 _ m2 _ HO2.out.1 HO2.out.2 T4.out.a (by have := HLEN.out; have := intB_len m0; have := intB_len m1; simp only [List.length_append]; omega)).mono ?_
      rintro e w5 ⟨rfl, G5, a5, f5, g5⟩
      have T5 := Lib.hid (T4.out.next a5 f5 g5)
      have HM5 := Lib.hid (f5.at_ HM4.out HN4.out)
      clear a5 f5 g5 T4 HM4 HN4 c2
      have c3 := (cells_of HM5.out 3).1
      simp only [List.getElem?_toArray, List.getElem?_cons_zero, List.getElem?_cons_succ] at c3
      go_wp2_with (fail)
      refine (rwInt pw G5 _ m3 _ HO3.out.1 HO3.out.2 T5.out.a (by have := HLEN.out; have := intB_len m0; have := intB_len m1; have := intB_len m2; simp only [List.length_append]; omega)).mono ?_
      rintro e w6 ⟨rfl, G6, a6, f6, g6⟩
      have T6 := Lib.hid (T5.out.next a6 f6 g6)
      clear a6 f6 g6 T5 HM5 c3
      go_wp2
      go_roundw
      case rel => exact ⟨k + 1, G6, by omega, by go_num, T6.out.cast (by rw [HTK.out]; simp [memB])⟩
      case measure => simp [intOf]; omega
    · obtain rfl : k = ms.length := by omega
      have T9 := T.out
      rw [List.take_length] at T9
      have TE := Lib.hid T9
      obtain ⟨e0, e1, e2, e3, e4, e5, e6, e7, e8, e9⟩ := TE.out.has
      clear T9 T
      go_wp2
      go_end0
      exact ⟨rfl, TE.out.put.cast HLL.out.symm⟩
set_option maxHeartbeats 3200000 in
set_option maxRecDepth 8000 in
theorem rabody11_calls (f : Fa) (p : Pl) (l : List (Fa × Nat)) (pw : Nat) (G : Option Nat) (L : List UInt8) (lo hi : Nat) (w : World) (hok : ∀ q ∈ l, q.1.Ok) (hw : RWt w pw G L) (hlim : L.length ≤ 100000) (hP : RdPa w lo hi p.P l) (hl : l.length ≤ 16) (hps : ∀ q ∈ l, PartA q) (hh : hi ≤ w.heap.size) (hpn : ∀ k, lo ≤ k → k < hi → ¬ WF pw G k) (hk : f.k = 11) :
    Calls Tryd.prog 34 #[.pointer (some ⟨pw, 0, none⟩), aval f p l.length] w fun e w' => e = .returned (.tuple #[]) ∧ RPut pw G (L ++ (intB l.length ++ partsA l)) w w' := by
  have HL := Lib.hid hlim
  have HP := Lib.hid hP
  have HPN := Lib.hid hpn
  have HPS := Lib.hid hps
  have HOK := Lib.hid hok
  obtain ⟨k, x, s, t, path, data, fl, ve, wa, so, la, ti, fr, ms⟩ := f
  obtain ⟨A, c, B, d, P, e'⟩ := p
  simp only at hk
  subst hk
  simp only at HP
  simp only [aval, acells] at *
  clear hok hlim hP hps hpn
  have c0 := (cells_of (heap_alloc_new w (.cells #[.int .u8 11, .int .i64 x, .int .i64 s, .int .i64 t, .string ⟨path.toArray⟩, .slice A data.length c, .int .i64 fl, .int .i64 ve, .bool wa, .int .u8 so, .int .i64 la, .int .i64 ti, .int .i64 fr, .slice B ms.length d, .slice P l.length e'] 29)) 0).1
  simp only [List.getElem?_toArray, List.getElem?_cons_zero] at c0
  go_enter Tryd.func34, Tryd.ntmps34
  go_wp2_with (fail)
  refine (rof11 _).mono ?_
  rintro e u1 ⟨rfl, f1⟩
  go_wp2_with (first | (with_reducible refine held_store (ty := 111) ?_) | fail)
  unfold Held
  refine wpList_store_row rfl 111 _ _ rfl u1.heap.size #[.bool false, .bool false, .bool false, .bool false, .bool false, .bool false, .bool false, .bool false, .bool false, .bool true] ?_ ?_ _ _ (heap_alloc_new u1 _) hsize10 rfl (by simp [Value.oneCell']) ?_
  · rfl
  · rfl
  rw [World.setRow_alloc_new]
  have t0 := RA.start hw #[.int .u8 11, .int .i64 x, .int .i64 s, .int .i64 t, .string ⟨path.toArray⟩, .slice A data.length c, .int .i64 fl, .int .i64 ve, .bool wa, .int .u8 so, .int .i64 la, .int .i64 ti, .int .i64 fr, .slice B ms.length d, .slice P l.length e'] #[.bool false, .bool false, .bool false, .bool false, .bool false, .bool false, .bool false, .bool false, .bool false, .bool true] f1
  generalize u1.alloc (.cells #[.bool false, .bool false, .bool false, .bool false, .bool false, .bool false, .bool false, .bool false, .bool false, .bool true] 111) = w0 at t0 ⊢
  generalize u1.heap.size = NH at t0 ⊢
  generalize hNA : w.heap.size = NA at t0 ⊢
  have HNA := Lib.hid hNA
  clear hNA c0
  have T0 := Lib.hid t0
  clear t0 hw f1
  obtain ⟨e0, e1, e2, e3, e4, e5, e6, e7, e8, e9⟩ := T0.out.has
  have q := T0.out.cell 14 _ rfl
  go_wp2_with (fail)
  refine (rwInt pw G L (l.length : Int) _ (by omega) (by omega) T0.out.a (by have := HL.out; omega)).mono ?_
  rintro e w2 ⟨rfl, G2, a2, f2, g2⟩
  have T2 := Lib.hid (T0.out.next a2 f2 g2)
  clear a2 f2 g2 T0 e0 e1 e2 e3 e4 e5 e6 e7 e8 e9 q
  go_wp2
  have HL0 : Hid ((L ++ intB (l.length : Int)).length ≤ 100020) := by
    have := HL.out
    have l1 := intB_len (l.length : Int)
    show _ ≤ _
    simp only [List.length_append]
    omega
  have HLL : Hid (L ++ (intB l.length ++ partsA l) = (L ++ intB (l.length : Int)) ++ partsA l) := by
    show _ = _
    simp
  generalize L ++ intB (l.length : Int) = L0 at T2 HL0 HLL
  go_loopw [8] (fun i W => ∃ (k : Nat) (Gk : Option Nat), k ≤ l.length ∧ i = .int .i64 (k : Int) ∧ RA w W pw G Gk (L0 ++ partsA (l.take k)) NA #[.int .u8 11, .int .i64 x, .int .i64 s, .int .i64 t, .string ⟨path.toArray⟩, .slice A data.length c, .int .i64 fl, .int .i64 ve, .bool wa, .int .u8 so, .int .i64 la, .int .i64 ti, .int .i64 fr, .slice B ms.length d, .slice P l.length e'] NH #[.bool false, .bool false, .bool false, .bool false, .bool false, .bool false, .bool false, .bool false, .bool false, .bool true]) (fun i _ => l.length - (intOf i).toNat)
  case atStart => exact ⟨0, G2, Nat.zero_le _, rfl, T2.out.cast (by simp [partsA])⟩
  case round =>
    obtain ⟨k, Gk, hk, rfl, ht⟩ := hrel
    have T := Lib.hid ht
    clear ht T2
    have d14 := T.out.cell 14 _ rfl
    by_cases hlt : k < l.length
    · have hki : (k : Int) < (l.length : Int) := by omega
      have hk0 : (0 : Int) ≤ (k : Int) := by omega
      obtain ⟨b, o, rfl, hb1, hb2, h4⟩ := HP.out (by omega)
      obtain ⟨pl, hcs, hrd, -⟩ := h4 k l[k] (List.getElem?_eq_getElem hlt)
      have hq := HOK.out l[k] (List.getElem_mem hlt)
      have hpq := HPS.out l[k] (List.getElem_mem hlt)
      have htk : L0 ++ partsA (l.take (k + 1)) = (L0 ++ partsA (l.take k)) ++ (kindB l[k].1.k :: bodyA l[k].1) := by rw [partsA_snoc hlt, List.append_assoc]
      have hlen : (L0 ++ partsA (l.take k)).length ≤ 721000 := by
        have h1 := partsA_len (l := l.take k) (fun q hq => HPS.out q (List.mem_of_mem_take hq))
        have h2 := HL0.out
        rw [List.length_take] at h1
        rw [List.length_append]
        omega
      have HLEN := Lib.hid hlen
      have HTK := Lib.hid htk
      clear h4 hlen htk
      generalize l[k] = q at hcs hrd hq hpq HTK
      generalize L0 ++ partsA (l.take k) = Lk at *
      have HRD := Lib.hid (hrd.fr T.out.fr hh HPN.out)
      have HKR := Lib.hid hq.k
      have HQ := Lib.hid hq
      have HPQ := Lib.hid hpq
      have HC : ∀ j v, (acells q.1 pl q.2)[j]? = some v → wr.cell? ⟨b, o + k * 15 + j, none⟩ = some v := fun j v hv => (T.out.fr.cell (p := ⟨b, o + k * 15 + j, none⟩) (by simp only; omega) (HPN.out b hb1 hb2)).trans (hcs j v hv)
      have y0 := HC 0 _ rfl
      rw [Nat.add_zero] at y0
      have HBW : Hid (b < wr.heap.size) := Lib.hid (Nat.lt_of_lt_of_le (by omega) T.out.fr.size)
      have HBG : Hid (¬ WF pw Gk b) := Lib.hid (fun h => (T.out.g _ h).elim (HPN.out b hb1 hb2) (fun h => by omega))
      have HCH := Lib.hid HC
      clear hrd hq hpq hcs HC
      go_wp2_with (fail)
      refine (rwByteI pw Gk Lk q.1.k _ HKR.out T.out.a (by have := HLEN.out; omega)).mono ?_
      rintro e w3 ⟨rfl, G3, a3, f3, g3⟩
      have T3 := Lib.hid (T.out.next a3 f3 g3)
      have HRD3 := Lib.hid (HRD.out.fr f3 (Nat.le_trans hh T.out.fr.size) (fun k h1 h2 h3 => (T.out.g k h3).elim (HPN.out k h1 h2) (fun h => by omega)))
      have hL := Lib.hid (apart_range (w := w3) (b := b) (a := o + k * 15) (f := q.1) (p := pl) (np := q.2) (fun j v hv => (f3.cell (p := ⟨b, o + k * 15 + j, none⟩) HBW.out HBG.out).trans (HCH.out j v hv)))
      clear a3 f3 g3 HRD y0 d14 HCH T
      have d14 := T3.out.cell 14 _ rfl
      go_wp2_with (first | (with_reducible refine held_load (ty := 29) ?_) | fail)
      unfold Held
      refine wpList_load_mid rfl 29 (.tmp 135) rfl b (o + k * 15) rfl _ _ hL.out Tryd.underlying29 rfl (size_ask _ _ _) ?_
      go_wp2_with (fail)
      refine (rabodyp_calls q HPQ.out pl pw G3 _ lo hi _ HQ.out T3.out.a (by have := HLEN.out; simp only [List.length_append, List.length_cons, List.length_nil]; omega) HRD3.out (Nat.le_trans hh T3.out.fr.size) (fun k h1 h2 h3 => (T3.out.g k h3).elim (HPN.out k h1 h2) (fun h => by omega))).mono ?_
      rintro e w4 ⟨rfl, G4, a4, f4, g4⟩
      have T4 := Lib.hid (T3.out.next a4 f4 g4)
      clear a4 f4 g4 T3 d14
      go_wp2
      go_roundw
      case rel => exact ⟨k + 1, G4, by omega, by go_num, T4.out.cast (by rw [HTK.out]; simp)⟩
      case measure => simp [intOf]; omega
    · obtain rfl : k = l.length := by omega
      have T9 := T.out
      rw [List.take_length] at T9
      have TE := Lib.hid T9
      clear T9 T
      go_wp2
      go_end0
      exact ⟨rfl, TE.out.put.cast HLL.out.symm⟩
end Go.Proofs.YtlckgkpgllhpbaaDoor
