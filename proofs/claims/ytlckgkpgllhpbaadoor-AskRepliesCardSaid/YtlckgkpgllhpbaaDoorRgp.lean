/-
  Rgp: the reference's Write and Put.
-/
import Derived.Test.YtlckgkpgllhpbaaDoorRec
import Derived.Test.YtlckgkpgllhpbaaDoorRfw
namespace Go.Proofs.YtlckgkpgllhpbaaDoor
open Go.RowKit

/-- A reference's writer that the call made, and what stands in it. -/
structure WR (w0 w : World) (p : Nat) (L : List UInt8) (G : Option Nat) : Prop where
  a : RWt w p G L
  fr : Fr NoB w0 w
  i : ∀ k, WF p G k → w0.heap.size ≤ k
/-- A block that the writer doesn't touch. -/
structure Prot (w : World) (p : Nat) (G : Option Nat) (k : Nat) (o : Obj) : Prop where
  at_ : w.heap[k]? = some o
  no : ¬ WF p G k
theorem WR.next {w0 w w1 : World} {p : Nat} {L L' : List UInt8} {G : Option Nat} (h : WR w0 w p L G) (q : RPut p G L' w w1) : ∃ G1, WR w0 w1 p L' G1 ∧ ∀ k o, Prot w p G k o → Prot w1 p G1 k o := by
  obtain ⟨G1, a, f, g⟩ := q
  refine ⟨G1, ⟨a, h.fr.upE f h.i, fun k hk => (g k hk).elim (h.i k) (fun x => Nat.le_trans h.fr.size x)⟩, fun k o hp => ⟨f.at_ hp.at_ hp.no, fun hx => ?_⟩⟩
  rcases g k hx with hy | hy
  · exact hp.no hy
  · have := Lib.lt_of_heap hp.at_
    omega
theorem Prot.keep {w w1 : World} {p k : Nat} {G : Option Nat} {o : Obj} (h : Prot w p G k o) (f : Fr NoB w w1) : Prot w1 p G k o := ⟨f.at_ h.at_ (fun x => x), h.no⟩
theorem Prot.new {w w0 : World} {p : Nat} {L : List UInt8} {G : Option Nat} (h : WR w0 w p L G) (cs : Array Value) (t : TypeId) : Prot (w.alloc (.cells cs t)) p G w.heap.size (.cells cs t (0, 0)) :=
  ⟨heap_alloc_new w _, fun hx => by have := h.a.lt hx; omega⟩
theorem WR.keep {w0 w w1 : World} {p : Nat} {L : List UInt8} {G : Option Nat} (h : WR w0 w p L G) (f : Fr NoB w w1) : WR w0 w1 p L G :=
  ⟨h.a.fr f (fun _ _ x => x), h.fr.then f, h.i⟩

set_option maxRecDepth 8000 in
set_option maxHeartbeats 6400000 in
theorem rwrite_calls (v : Int) (A : Option Addr) (ms : List Mem) (c lo hi p : Nat) (w0 w : World) (t : WR w0 w p [] none) (h : RdM w0 lo hi A ms) (hh : hi ≤ w0.heap.size) (hok : chk v ms = 0) :
    Calls Tryd.prog 100 #[.pointer (some ⟨p, 0, none⟩), .agg #[.int .i64 v, .slice A ms.length c]] w fun e w' => e = .returned (.tuple #[]) ∧ ∃ G, WR w0 w' p (ensB v ms) G := by
  obtain ⟨v0, v1, hn7⟩ := chk_ver hok
  have hgood := chk_good hok
  have HM := Lib.hid h
  have hvl := intB_len v
  have hnl := intB_len (ms.length : Int)
  have hml : ∀ k, (memsB (ms.take k)).length ≤ 280 := fun k => by
    have h1 := memsB_len (ms.take k)
    rw [List.length_take] at h1
    omega
  have HL := Lib.hid hml
  have HV := Lib.hid hvl
  have HNL := Lib.hid hnl
  have HG := Lib.hid hgood
  have HT := Lib.hid t
  clear h hok hml hvl hnl hgood t
  have hn7i : (ms.length : Int) ≤ 7 := by omega
  go_enter Tryd.func100, Tryd.ntmps100
  go_wp2_with (fail)
  have T0 := Lib.hid (HT.out.keep ((Fr.refl NoB w).alloc (.cells #[.int .i64 v, .slice A ms.length c] 40)))
  have P0 := Lib.hid (Prot.new HT.out #[.int .i64 v, .slice A ms.length c] 40)
  clear HT
  generalize w.alloc (.cells #[.int .i64 v, .slice A ms.length c] 40) = wb at T0 P0 ⊢
  generalize w.heap.size = B at P0 ⊢
  refine (rwInt p none [] v _ (by omega) (by omega) T0.out.a (by simp)).mono ?_
  rintro e w1 ⟨rfl, q1⟩
  rw [List.nil_append] at q1
  obtain ⟨G1, t1, p1⟩ := T0.out.next q1
  have T1 := Lib.hid t1
  have P1 := Lib.hid (p1 _ _ P0.out)
  clear q1 t1 p1 T0 P0
  have hb1 := (cfg_cells P1.out.at_).2
  go_wp2_with (fail)
  refine (rwInt p G1 (intB v) ms.length _ (by omega) (by omega) T1.out.a (by have := HV.out; omega)).mono ?_
  rintro e w2 ⟨rfl, q2⟩
  obtain ⟨G2, t2, p2⟩ := T1.out.next q2
  have T2 := Lib.hid t2
  have P2 := Lib.hid (p2 _ _ P1.out)
  clear q2 t2 p2 T1 P1 hb1
  go_wp2
  go_loopw [4, 5] (fun i _ wr => ∃ (k : Nat) (G : Option Nat), k ≤ ms.length ∧ i = .int .i64 (k : Int) ∧ WR w0 wr p (intB v ++ intB ms.length ++ memsB (ms.take k)) G ∧ Prot wr p G B (.cells #[.int .i64 v, .slice A ms.length c] 40 (0, 0))) (fun i _ _ => ms.length - (intOf i).toNat)
  case atStart => exact ⟨0, G2, Nat.zero_le _, rfl, by simpa [memsB] using T2.out, P2.out⟩
  case round =>
    obtain ⟨k, G, hk, rfl, ht, hp⟩ := hrel
    have TK := Lib.hid ht
    have PK := Lib.hid hp
    clear ht hp T2 P2
    have hb1 := (cfg_cells PK.out.at_).2
    by_cases hlt : k < ms.length
    · obtain ⟨b, o, rfl, hb1', hb2', hcs⟩ := HM.out (by omega)
      obtain ⟨d0, d1, d2, d3⟩ := hcs k ms[k] (List.getElem?_eq_getElem hlt)
      have hgm := HG.out ms[k] (List.getElem_mem hlt)
      have hts : memsB (ms.take (k + 1)) = memsB (ms.take k) ++ memB ms[k] := by
        rw [List.take_add_one, List.getElem?_eq_getElem hlt, memsB_append]
        simp [memsB]
      have HTS := Lib.hid hts
      clear hcs hts
      generalize ms[k] = m at d0 d1 d2 d3 hgm HTS
      obtain ⟨m0, m1, m2, m3⟩ := m
      unfold GoodM at hgm
      simp only at d0 d1 d2 d3 hgm
      have e0 := (TK.out.fr.cell (p := ⟨b, o + k * 4, none⟩) (by simp only; omega) (fun x => x)).trans d0
      have e1 := (TK.out.fr.cell (p := ⟨b, o + k * 4 + 1, none⟩) (by simp only; omega) (fun x => x)).trans d1
      have e2 := (TK.out.fr.cell (p := ⟨b, o + k * 4 + 2, none⟩) (by simp only; omega) (fun x => x)).trans d2
      have e3 := (TK.out.fr.cell (p := ⟨b, o + k * 4 + 3, none⟩) (by simp only; omega) (fun x => x)).trans d3
      have hi2 : (k : Int) < (ms.length : Int) := by omega
      have HGM := Lib.hid hgm
      clear d0 d1 d2 d3 hgm
      have hw1 : wrap64 m1 = m1 := by have := HGM.out; unfold wrap64; omega
      have hw2 : IntKind.i64.wrap m1 = m1 := by have := HGM.out; rw [IntKind.wrap_i64]; omega
      have hLL : (intB v ++ intB ms.length ++ memsB (ms.take k)).length ≤ 300 := by
        rw [List.length_append, List.length_append]
        have := HV.out; have := HNL.out; have := HL.out k; omega
      have HLL := Lib.hid hLL
      clear hLL
      obtain ⟨L, hLQ⟩ : ∃ L, intB v ++ intB ms.length ++ memsB (ms.take k) = L := ⟨_, rfl⟩
      have HLQ := Lib.hid hLQ
      rw [hLQ] at TK HLL
      clear hLQ
      have TA := Lib.hid (TK.out.keep ((Fr.refl NoB wr).alloc (.cells #[.int .i64 m0, .int .u8 m1, .int .i64 m2, .int .i64 m3] 106)))
      have PA := Lib.hid (PK.out.keep ((Fr.refl NoB wr).alloc (.cells #[.int .i64 m0, .int .u8 m1, .int .i64 m2, .int .i64 m3] 106)))
      have QA := Lib.hid (Prot.new TK.out #[.int .i64 m0, .int .u8 m1, .int .i64 m2, .int .i64 m3] 106)
      clear TK PK
      have i0 := intB_len m0
      have i1 := intB_len m1
      have i2 := intB_len m2
      have i3 := intB_len m3
      have HI0 := Lib.hid i0
      have HI1 := Lib.hid i1
      have HI2 := Lib.hid i2
      clear i0 i1 i2 i3
      go_wp2_with (fail)
      clear e0 e1 e2 e3 hb1
      generalize wr.alloc (.cells #[.int .i64 m0, .int .u8 m1, .int .i64 m2, .int .i64 m3] 106) = wa at TA PA QA ⊢
      generalize wr.heap.size = K at QA ⊢
      refine (rwInt p G L m0 _ (by have := HGM.out; omega) (by have := HGM.out; omega) TA.out.a (by have := HLL.out; omega)).mono ?_
      rintro e x1 ⟨rfl, q1⟩
      obtain ⟨G3, t3, p3⟩ := TA.out.next q1
      have T3 := Lib.hid t3
      have P3 := Lib.hid (p3 _ _ PA.out)
      have Q3 := Lib.hid (p3 _ _ QA.out)
      clear q1 t3 p3 TA PA QA
      have u1 := (cells_of Q3.out.at_ 1).1
      simp only [List.getElem?_toArray, List.getElem?_cons_zero, List.getElem?_cons_succ] at u1
      go_wp2_with (fail)
      clear u1
      refine (rwInt p G3 (L ++ intB m0) m1 _ (by have := HGM.out; omega) (by have := HGM.out; omega) T3.out.a (by rw [List.length_append]; have := HLL.out; have := HI0.out; omega)).mono ?_
      rintro e x2 ⟨rfl, q1⟩
      obtain ⟨G4, t3, p3⟩ := T3.out.next q1
      have T4 := Lib.hid t3
      have P4 := Lib.hid (p3 _ _ P3.out)
      have Q4 := Lib.hid (p3 _ _ Q3.out)
      clear q1 t3 p3 T3 P3 Q3
      have u2 := (cells_of Q4.out.at_ 2).1
      simp only [List.getElem?_toArray, List.getElem?_cons_zero, List.getElem?_cons_succ] at u2
      go_wp2_with (fail)
      clear u2
      refine (rwInt p G4 (L ++ intB m0 ++ intB m1) m2 _ (by have := HGM.out; omega) (by have := HGM.out; omega) T4.out.a (by rw [List.length_append, List.length_append]; have := HLL.out; have := HI0.out; have := HI1.out; omega)).mono ?_
      rintro e x3 ⟨rfl, q1⟩
      obtain ⟨G5, t3, p3⟩ := T4.out.next q1
      have T5 := Lib.hid t3
      have P5 := Lib.hid (p3 _ _ P4.out)
      have Q5 := Lib.hid (p3 _ _ Q4.out)
      clear q1 t3 p3 T4 P4 Q4
      have u3 := (cells_of Q5.out.at_ 3).1
      simp only [List.getElem?_toArray, List.getElem?_cons_zero, List.getElem?_cons_succ] at u3
      go_wp2_with (fail)
      clear u3
      refine (rwInt p G5 (L ++ intB m0 ++ intB m1 ++ intB m2) m3 _ (by have := HGM.out; omega) (by have := HGM.out; omega) T5.out.a (by rw [List.length_append, List.length_append, List.length_append]; have := HLL.out; have := HI0.out; have := HI1.out; have := HI2.out; omega)).mono ?_
      rintro e x4 ⟨rfl, q1⟩
      obtain ⟨G6, t3, p3⟩ := T5.out.next q1
      rw [show L ++ intB m0 ++ intB m1 ++ intB m2 ++ intB m3 = L ++ memB (m0, m1, m2, m3) by simp [memB]] at t3
      have T6 := Lib.hid t3
      have P6 := Lib.hid (p3 _ _ P5.out)
      clear q1 t3 p3 T5 P5 Q5
      go_wp2
      go_roundw
      case rel => exact ⟨k + 1, G6, by omega, by go_num, by rw [HTS.out, ← List.append_assoc, HLQ.out]; exact T6.out, P6.out⟩
      case measure => simp [intOf]; omega
    · obtain rfl : k = ms.length := by omega
      have ht := TK.out
      rw [List.take_length, show intB v ++ intB ms.length ++ memsB ms = ensB v ms by unfold ensB; rw [List.append_assoc]] at ht
      have TE := Lib.hid ht
      clear ht TK hlt hk
      go_wp2
      go_end0
      exact ⟨rfl, G, TE.out⟩

set_option maxRecDepth 4000 in
set_option maxHeartbeats 3200000 in
theorem rput_bad (v : Int) (A : Option Addr) (ms : List Mem) (c lo hi : Nat) (w : World) (h : RdM w lo hi A ms) (hh : hi ≤ w.heap.size) (hl : ms.length ≤ 140737488355328) (hbad : chk v ms ≠ 0) :
    Calls Tryd.prog 83 #[.agg #[.int .i64 v, .slice A ms.length c]] w fun e w' => e = .returned (.tuple #[.slice none 0 0, .int .i64 (chk v ms)]) ∧ Fr NoB w w' := by
  have HC := Lib.hid (fun W (f : Fr NoB w W) => rcheck_calls v A ms c lo hi W (h.fr f hh (fun _ _ _ x => x)) (Nat.le_trans hh f.size) hl)
  have hckb : (chk v ms != 0) = true := by simp [hbad]
  clear h hbad
  go_enter Tryd.func83, Tryd.ntmps83
  go_wp2_with (fail)
  refine (HC.out _ ((Fr.refl NoB w).alloc _)).mono ?_
  rintro e w1 ⟨rfl, f1⟩
  have F1 := Lib.hid (((Fr.refl NoB w).alloc _).then f1)
  clear f1 HC
  go_wp2
  go_ret2
  exact ⟨rfl, F1.out⟩

set_option maxRecDepth 4000 in
set_option maxHeartbeats 3200000 in
theorem rput_config (v : Int) (A : Option Addr) (ms : List Mem) (c lo hi : Nat) (w : World) (h : RdM w lo hi A ms) (hh : hi ≤ w.heap.size) (hl : ms.length ≤ 140737488355328) (hok : chk v ms = 0) :
    Calls Tryd.prog 83 #[.agg #[.int .i64 v, .slice A ms.length c]] w fun e w' => ∃ A' c', e = .returned (.tuple #[.slice A' (ensB v ms).length c', .int .i64 0]) ∧ (ensB v ms).length ≤ c' ∧ c' ≤ maxLen ∧ Rd w' w.heap.size w'.heap.size A' (ensB v ms) ∧ Fr NoB w w' := by
  have hc := fun W (f : Fr NoB w W) => rcheck_calls v A ms c lo hi W (h.fr f hh (fun _ _ _ x => x)) (Nat.le_trans hh f.size) hl
  rw [hok] at hc
  have HC := Lib.hid hc
  have HM := Lib.hid h
  have HLE : Hid ((ensB v ms).length ≤ 140737488355328) := by
    obtain ⟨v0, v1, hn7⟩ := chk_ver hok
    have h1 := memsB_len ms
    have h2 := intB_len v
    have h3 := intB_len (ms.length : Int)
    show (ensB v ms).length ≤ 140737488355328
    unfold ensB
    rw [List.length_append, List.length_append]
    omega
  have HOK := Lib.hid hok
  clear h hc hok
  go_enter Tryd.func83, Tryd.ntmps83
  go_wp2_with (fail)
  have F0 := Lib.hid ((Fr.refl NoB w).alloc (.cells #[.int .i64 v, .slice A ms.length c] 40))
  have HBX := Lib.hid (heap_alloc_new w (.cells #[.int .i64 v, .slice A ms.length c] 40))
  generalize w.alloc (.cells #[.int .i64 v, .slice A ms.length c] 40) = wb at F0 HBX ⊢
  refine (HC.out _ F0.out).mono ?_
  rintro e w1 ⟨rfl, f1⟩
  have F1 := Lib.hid f1
  clear f1 HC
  go_wp2_with (fail)
  refine (rwNew _).mono ?_
  rintro e w2 ⟨rfl, a2, f2, -⟩
  have t2 : WR wb w2 w1.heap.size [] none := ⟨a2, F1.out.then f2, fun k hk => by
    rcases hk with rfl | hk
    · exact F1.out.size
    · cases hk⟩
  have T2 := Lib.hid t2
  have hb0 := (cfg_cells (T2.out.fr.at_ HBX.out (fun x => x))).1
  have hb1 := (cfg_cells (T2.out.fr.at_ HBX.out (fun x => x))).2
  clear a2 f2 t2
  go_wp2_with (fail)
  clear hb0 hb1
  generalize w1.heap.size = p at T2 ⊢
  refine (rwrite_calls v A ms c lo hi p wb w2 T2.out (HM.out.fr F0.out hh (fun _ _ _ x => x)) (Nat.le_trans hh F0.out.size) HOK.out).mono ?_
  rintro e w3 ⟨rfl, G, t3⟩
  have TE := Lib.hid t3
  clear t3 T2 HOK
  obtain ⟨Z, hZZ⟩ : ∃ Z, ensB v ms = Z := ⟨_, rfl⟩
  have HZZ := Lib.hid hZZ
  rw [hZZ] at TE HLE
  clear hZZ
  go_wp2_with (fail)
  refine (rwDone p G _ _ TE.out.a HLE.out).mono ?_
  rintro e w8 ⟨v8, rfl, o8, b8⟩
  obtain ⟨A8, c8, rfl, n1, n2⟩ := own_form o8
  have R8 := own_rd o8
  go_wp2
  go_ret2
  rw [HZZ.out]
  exact ⟨A8, c8, rfl, n1, n2, R8.wide (Nat.le_trans F0.out.size TE.out.fr.size) (Nat.le_refl _), (F0.out.then TE.out.fr).then (Fr.ofBelow b8)⟩

end Go.Proofs.YtlckgkpgllhpbaaDoor
