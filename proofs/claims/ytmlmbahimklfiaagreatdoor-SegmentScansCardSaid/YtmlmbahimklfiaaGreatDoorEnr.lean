/-
  Enr: Rgp, Rgt, Enr.
-/
import Derived.Test.YtmlmbahimklfiaaGreatDoorRec
import Derived.Test.YtmlmbahimklfiaaGreatDoorRfw
import Derived.Test.YtmlmbahimklfiaaGreatDoorRfs
import Derived.Test.YtmlmbahimklfiaaGreatDoorEnn
/- Rgp -/
namespace Go.Proofs.YtmlmbahimklfiaaGreatDoor
open Go.RowKit

/-- A reference's writer that the call made, and what stands in it. -/
structure WR (w0 w : World) (p : Nat) (L : List UInt8) (G : Option Nat) : Prop where
  a : RWt w p G L
  fr : Fr NoB w0 w
  i : ∀ k, WF p G k → w0.heap.size ≤ k
/-- A block that the writer doesn't touch. -/
structure Prot (w : World) (p : Nat) (G : Option Nat) (k : Nat) (o : Obj) : Prop where
  at_ : w.heap[k]? = some o
  no : ¬ WF p G k
theorem WR.next {w0 w w1 : World} {p : Nat} {L L' : List UInt8} {G : Option Nat} (h : WR w0 w p L G) (q : RPut p G L' w w1) : ∃ G1, WR w0 w1 p L' G1 ∧ ∀ k o, Prot w p G k o → Prot w1 p G1 k o := by
  obtain ⟨G1, a, f, g⟩ := q
  refine ⟨G1, ⟨a, h.fr.upE f h.i, fun k hk => (g k hk).elim (h.i k) (fun x => Nat.le_trans h.fr.size x)⟩, fun k o hp => ⟨f.at_ hp.at_ hp.no, fun hx => ?_⟩⟩
  rcases g k hx with hy | hy
  · exact hp.no hy
  · have := Lib.lt_of_heap hp.at_
    omega
theorem Prot.keep {w w1 : World} {p k : Nat} {G : Option Nat} {o : Obj} (h : Prot w p G k o) (f : Fr NoB w w1) : Prot w1 p G k o := ⟨f.at_ h.at_ (fun x => x), h.no⟩
theorem Prot.new {w w0 : World} {p : Nat} {L : List UInt8} {G : Option Nat} (h : WR w0 w p L G) (cs : Array Value) (t : TypeId) : Prot (w.alloc (.cells cs t)) p G w.heap.size (.cells cs t (0, 0)) :=
  ⟨heap_alloc_new w _, fun hx => by have := h.a.lt hx; omega⟩
theorem WR.keep {w0 w w1 : World} {p : Nat} {L : List UInt8} {G : Option Nat} (h : WR w0 w p L G) (f : Fr NoB w w1) : WR w0 w1 p L G :=
  ⟨h.a.fr f (fun _ _ x => x), h.fr.then f, h.i⟩

set_option maxRecDepth 8000 in
set_option maxHeartbeats 6400000 in
theorem rwrite_calls (v : Int) (A : Option Addr) (ms : List Mem) (c lo hi p : Nat) (w0 w : World) (t : WR w0 w p [] none) (h : RdM w0 lo hi A ms) (hh : hi ≤ w0.heap.size) (hok : chk v ms = 0) :
    Calls Tryz.prog 167 #[.pointer (some ⟨p, 0, none⟩), .agg #[.int .i64 v, .slice A ms.length c]] w fun e w' => e = .returned (.tuple #[]) ∧ ∃ G, WR w0 w' p (ensB v ms) G := by
  obtain ⟨v0, v1, hn7⟩ := chk_ver hok
  have hgood := chk_good hok
  have HM := Lib.hid h
  have hvl := intB_len v
  have hnl := intB_len (ms.length : Int)
  have hml : ∀ k, (memsB (ms.take k)).length ≤ 280 := fun k => by
    have h1 := memsB_len (ms.take k)
    rw [List.length_take] at h1
    omega
  have HL := Lib.hid hml
  have HV := Lib.hid hvl
  have HNL := Lib.hid hnl
  have HG := Lib.hid hgood
  have HT := Lib.hid t
  clear h hok hml hvl hnl hgood t
  have hn7i : (ms.length : Int) ≤ 7 := by omega
  go_enter Tryz.func167, Tryz.ntmps167
  go_wp2_with (fail)
  have T0 := Lib.hid (HT.out.keep ((Fr.refl NoB w).alloc (.cells #[.int .i64 v, .slice A ms.length c] 28)))
  have P0 := Lib.hid (Prot.new HT.out #[.int .i64 v, .slice A ms.length c] 28)
  clear HT
  generalize w.alloc (.cells #[.int .i64 v, .slice A ms.length c] 28) = wb at T0 P0 ⊢
  generalize w.heap.size = B at P0 ⊢
  refine (rwInt p none [] v _ (by omega) (by omega) T0.out.a (by simp)).mono ?_
  rintro e w1 ⟨rfl, q1⟩
  rw [List.nil_append] at q1
  obtain ⟨G1, t1, p1⟩ := T0.out.next q1
  have T1 := Lib.hid t1
  have P1 := Lib.hid (p1 _ _ P0.out)
  clear q1 t1 p1 T0 P0
  have hb1 := (cfg_cells P1.out.at_).2
  go_wp2_with (fail)
  refine (rwInt p G1 (intB v) ms.length _ (by omega) (by omega) T1.out.a (by have := HV.out; omega)).mono ?_
  rintro e w2 ⟨rfl, q2⟩
  obtain ⟨G2, t2, p2⟩ := T1.out.next q2
  have T2 := Lib.hid t2
  have P2 := Lib.hid (p2 _ _ P1.out)
  clear q2 t2 p2 T1 P1 hb1
  go_wp2
  go_loopw [4, 5] (fun i _ wr => ∃ (k : Nat) (G : Option Nat), k ≤ ms.length ∧ i = .int .i64 (k : Int) ∧ WR w0 wr p (intB v ++ intB ms.length ++ memsB (ms.take k)) G ∧ Prot wr p G B (.cells #[.int .i64 v, .slice A ms.length c] 28 (0, 0))) (fun i _ _ => ms.length - (intOf i).toNat)
  case atStart => exact ⟨0, G2, Nat.zero_le _, rfl, by simpa [memsB] using T2.out, P2.out⟩
  case round =>
    obtain ⟨k, G, hk, rfl, ht, hp⟩ := hrel
    have TK := Lib.hid ht
    have PK := Lib.hid hp
    clear ht hp T2 P2
    have hb1 := (cfg_cells PK.out.at_).2
    by_cases hlt : k < ms.length
    · obtain ⟨b, o, rfl, hb1', hb2', hcs⟩ := HM.out (by omega)
      obtain ⟨d0, d1, d2, d3⟩ := hcs k ms[k] (List.getElem?_eq_getElem hlt)
      have hgm := HG.out ms[k] (List.getElem_mem hlt)
      have hts : memsB (ms.take (k + 1)) = memsB (ms.take k) ++ memB ms[k] := by
        rw [List.take_add_one, List.getElem?_eq_getElem hlt, memsB_append]
        simp [memsB]
      have HTS := Lib.hid hts
      clear hcs hts
      generalize ms[k] = m at d0 d1 d2 d3 hgm HTS
      obtain ⟨m0, m1, m2, m3⟩ := m
      unfold GoodM at hgm
      simp only at d0 d1 d2 d3 hgm
      have e0 := (TK.out.fr.cell (p := ⟨b, o + k * 4, none⟩) (by simp only; omega) (fun x => x)).trans d0
      have e1 := (TK.out.fr.cell (p := ⟨b, o + k * 4 + 1, none⟩) (by simp only; omega) (fun x => x)).trans d1
      have e2 := (TK.out.fr.cell (p := ⟨b, o + k * 4 + 2, none⟩) (by simp only; omega) (fun x => x)).trans d2
      have e3 := (TK.out.fr.cell (p := ⟨b, o + k * 4 + 3, none⟩) (by simp only; omega) (fun x => x)).trans d3
      have hi2 : (k : Int) < (ms.length : Int) := by omega
      have HGM := Lib.hid hgm
      clear d0 d1 d2 d3 hgm
      have hw1 : wrap64 m1 = m1 := by have := HGM.out; unfold wrap64; omega
      have hw2 : IntKind.i64.wrap m1 = m1 := by have := HGM.out; rw [IntKind.wrap_i64]; omega
      have hLL : (intB v ++ intB ms.length ++ memsB (ms.take k)).length ≤ 300 := by
        rw [List.length_append, List.length_append]
        have := HV.out; have := HNL.out; have := HL.out k; omega
      have HLL := Lib.hid hLL
      clear hLL
      obtain ⟨L, hLQ⟩ : ∃ L, intB v ++ intB ms.length ++ memsB (ms.take k) = L := ⟨_, rfl⟩
      have HLQ := Lib.hid hLQ
      rw [hLQ] at TK HLL
      clear hLQ
      have TA := Lib.hid (TK.out.keep ((Fr.refl NoB wr).alloc (.cells #[.int .i64 m0, .int .u8 m1, .int .i64 m2, .int .i64 m3] 173)))
      have PA := Lib.hid (PK.out.keep ((Fr.refl NoB wr).alloc (.cells #[.int .i64 m0, .int .u8 m1, .int .i64 m2, .int .i64 m3] 173)))
      have QA := Lib.hid (Prot.new TK.out #[.int .i64 m0, .int .u8 m1, .int .i64 m2, .int .i64 m3] 173)
      clear TK PK
      have i0 := intB_len m0
      have i1 := intB_len m1
      have i2 := intB_len m2
      have i3 := intB_len m3
      have HI0 := Lib.hid i0
      have HI1 := Lib.hid i1
      have HI2 := Lib.hid i2
      clear i0 i1 i2 i3
      go_wp2_with (fail)
      clear e0 e1 e2 e3 hb1
      generalize wr.alloc (.cells #[.int .i64 m0, .int .u8 m1, .int .i64 m2, .int .i64 m3] 173) = wa at TA PA QA ⊢
      generalize wr.heap.size = K at QA ⊢
      refine (rwInt p G L m0 _ (by have := HGM.out; omega) (by have := HGM.out; omega) TA.out.a (by have := HLL.out; omega)).mono ?_
      rintro e x1 ⟨rfl, q1⟩
      obtain ⟨G3, t3, p3⟩ := TA.out.next q1
      have T3 := Lib.hid t3
      have P3 := Lib.hid (p3 _ _ PA.out)
      have Q3 := Lib.hid (p3 _ _ QA.out)
      clear q1 t3 p3 TA PA QA
      have u1 := (cells_of Q3.out.at_ 1).1
      simp only [List.getElem?_toArray, List.getElem?_cons_zero, List.getElem?_cons_succ] at u1
      go_wp2_with (fail)
      clear u1
      refine (rwInt p G3 (L ++ intB m0) m1 _ (by have := HGM.out; omega) (by have := HGM.out; omega) T3.out.a (by rw [List.length_append]; have := HLL.out; have := HI0.out; omega)).mono ?_
      rintro e x2 ⟨rfl, q1⟩
      obtain ⟨G4, t3, p3⟩ := T3.out.next q1
      have T4 := Lib.hid t3
      have P4 := Lib.hid (p3 _ _ P3.out)
      have Q4 := Lib.hid (p3 _ _ Q3.out)
      clear q1 t3 p3 T3 P3 Q3
      have u2 := (cells_of Q4.out.at_ 2).1
      simp only [List.getElem?_toArray, List.getElem?_cons_zero, List.getElem?_cons_succ] at u2
      go_wp2_with (fail)
      clear u2
      refine (rwInt p G4 (L ++ intB m0 ++ intB m1) m2 _ (by have := HGM.out; omega) (by have := HGM.out; omega) T4.out.a (by rw [List.length_append, List.length_append]; have := HLL.out; have := HI0.out; have := HI1.out; omega)).mono ?_
      rintro e x3 ⟨rfl, q1⟩
      obtain ⟨G5, t3, p3⟩ := T4.out.next q1
      have T5 := Lib.hid t3
      have P5 := Lib.hid (p3 _ _ P4.out)
      have Q5 := Lib.hid (p3 _ _ Q4.out)
      clear q1 t3 p3 T4 P4 Q4
      have u3 := (cells_of Q5.out.at_ 3).1
      simp only [List.getElem?_toArray, List.getElem?_cons_zero, List.getElem?_cons_succ] at u3
      go_wp2_with (fail)
      clear u3
      refine (rwInt p G5 (L ++ intB m0 ++ intB m1 ++ intB m2) m3 _ (by have := HGM.out; omega) (by have := HGM.out; omega) T5.out.a (by rw [List.length_append, List.length_append, List.length_append]; have := HLL.out; have := HI0.out; have := HI1.out; have := HI2.out; omega)).mono ?_
      rintro e x4 ⟨rfl, q1⟩
      obtain ⟨G6, t3, p3⟩ := T5.out.next q1
      rw [show L ++ intB m0 ++ intB m1 ++ intB m2 ++ intB m3 = L ++ memB (m0, m1, m2, m3) by simp [memB]] at t3
      have T6 := Lib.hid t3
      have P6 := Lib.hid (p3 _ _ P5.out)
      clear q1 t3 p3 T5 P5 Q5
      go_wp2
      go_roundw
      case rel => exact ⟨k + 1, G6, by omega, by go_num, by rw [HTS.out, ← List.append_assoc, HLQ.out]; exact T6.out, P6.out⟩
      case measure => simp [intOf]; omega
    · obtain rfl : k = ms.length := by omega
      have ht := TK.out
      rw [List.take_length, show intB v ++ intB ms.length ++ memsB ms = ensB v ms by unfold ensB; rw [List.append_assoc]] at ht
      have TE := Lib.hid ht
      clear ht TK hlt hk
      go_wp2
      go_end0
      exact ⟨rfl, G, TE.out⟩

set_option maxRecDepth 4000 in
set_option maxHeartbeats 3200000 in
theorem rput_bad (v : Int) (A : Option Addr) (ms : List Mem) (c lo hi : Nat) (w : World) (h : RdM w lo hi A ms) (hh : hi ≤ w.heap.size) (hl : ms.length ≤ 140737488355328) (hbad : chk v ms ≠ 0) :
    Calls Tryz.prog 120 #[.agg #[.int .i64 v, .slice A ms.length c]] w fun e w' => e = .returned (.tuple #[.slice none 0 0, .int .i64 (chk v ms)]) ∧ Fr NoB w w' := by
  have HC := Lib.hid (fun W (f : Fr NoB w W) => rcheck_calls v A ms c lo hi W (h.fr f hh (fun _ _ _ x => x)) (Nat.le_trans hh f.size) hl)
  have hckb : (chk v ms != 0) = true := by simp [hbad]
  clear h hbad
  go_enter Tryz.func120, Tryz.ntmps120
  go_wp2_with (fail)
  refine (HC.out _ ((Fr.refl NoB w).alloc _)).mono ?_
  rintro e w1 ⟨rfl, f1⟩
  have F1 := Lib.hid (((Fr.refl NoB w).alloc _).then f1)
  clear f1 HC
  go_wp2
  go_ret2
  exact ⟨rfl, F1.out⟩

set_option maxRecDepth 4000 in
set_option maxHeartbeats 3200000 in
theorem rput_config (v : Int) (A : Option Addr) (ms : List Mem) (c lo hi : Nat) (w : World) (h : RdM w lo hi A ms) (hh : hi ≤ w.heap.size) (hl : ms.length ≤ 140737488355328) (hok : chk v ms = 0) :
    Calls Tryz.prog 120 #[.agg #[.int .i64 v, .slice A ms.length c]] w fun e w' => ∃ A' c', e = .returned (.tuple #[.slice A' (ensB v ms).length c', .int .i64 0]) ∧ (ensB v ms).length ≤ c' ∧ c' ≤ maxLen ∧ Rd w' w.heap.size w'.heap.size A' (ensB v ms) ∧ Fr NoB w w' := by
  have hc := fun W (f : Fr NoB w W) => rcheck_calls v A ms c lo hi W (h.fr f hh (fun _ _ _ x => x)) (Nat.le_trans hh f.size) hl
  rw [hok] at hc
  have HC := Lib.hid hc
  have HM := Lib.hid h
  have HLE : Hid ((ensB v ms).length ≤ 140737488355328) := by
    obtain ⟨v0, v1, hn7⟩ := chk_ver hok
    have h1 := memsB_len ms
    have h2 := intB_len v
    have h3 := intB_len (ms.length : Int)
    show (ensB v ms).length ≤ 140737488355328
    unfold ensB
    rw [List.length_append, List.length_append]
    omega
  have HOK := Lib.hid hok
  clear h hc hok
  go_enter Tryz.func120, Tryz.ntmps120
  go_wp2_with (fail)
  have F0 := Lib.hid ((Fr.refl NoB w).alloc (.cells #[.int .i64 v, .slice A ms.length c] 28))
  have HBX := Lib.hid (heap_alloc_new w (.cells #[.int .i64 v, .slice A ms.length c] 28))
  generalize w.alloc (.cells #[.int .i64 v, .slice A ms.length c] 28) = wb at F0 HBX ⊢
  refine (HC.out _ F0.out).mono ?_
  rintro e w1 ⟨rfl, f1⟩
  have F1 := Lib.hid f1
  clear f1 HC
  go_wp2_with (fail)
  refine (rwNew _).mono ?_
  rintro e w2 ⟨rfl, a2, f2, -⟩
  have t2 : WR wb w2 w1.heap.size [] none := ⟨a2, F1.out.then f2, fun k hk => by
    rcases hk with rfl | hk
    · exact F1.out.size
    · cases hk⟩
  have T2 := Lib.hid t2
  have hb0 := (cfg_cells (T2.out.fr.at_ HBX.out (fun x => x))).1
  have hb1 := (cfg_cells (T2.out.fr.at_ HBX.out (fun x => x))).2
  clear a2 f2 t2
  go_wp2_with (fail)
  clear hb0 hb1
  generalize w1.heap.size = p at T2 ⊢
  refine (rwrite_calls v A ms c lo hi p wb w2 T2.out (HM.out.fr F0.out hh (fun _ _ _ x => x)) (Nat.le_trans hh F0.out.size) HOK.out).mono ?_
  rintro e w3 ⟨rfl, G, t3⟩
  have TE := Lib.hid t3
  clear t3 T2 HOK
  obtain ⟨Z, hZZ⟩ : ∃ Z, ensB v ms = Z := ⟨_, rfl⟩
  have HZZ := Lib.hid hZZ
  rw [hZZ] at TE HLE
  clear hZZ
  go_wp2_with (fail)
  refine (rwDone p G _ _ TE.out.a HLE.out).mono ?_
  rintro e w8 ⟨v8, rfl, o8, b8⟩
  obtain ⟨A8, c8, rfl, n1, n2⟩ := own_form o8
  have R8 := own_rd o8
  go_wp2
  go_ret2
  rw [HZZ.out]
  exact ⟨A8, c8, rfl, n1, n2, R8.wide (Nat.le_trans F0.out.size TE.out.fr.size) (Nat.le_refl _), (F0.out.then TE.out.fr).then (Fr.ofBelow b8)⟩

end Go.Proofs.YtmlmbahimklfiaaGreatDoor

/- Rgt -/
namespace Go.Proofs.YtmlmbahimklfiaaGreatDoor
open Go.RowKit

set_option maxHeartbeats 1600000 in
theorem rsmall_calls (lo p : Nat) (st : RSt) (m : Int) (hm0 : 0 ≤ m) (hm : m ≤ 1000) (w : World) (h : RRd w lo p st) :
    Calls Tryz.prog 182 #[.pointer (some ⟨p, 0, none⟩), .int .i64 m] w (RRres lo p (.int .i64 (smR st m).1) (smR st m).2 w) := by
  have HC := Lib.hid (rrInt lo p st w h)
  obtain ⟨x, hx⟩ : ∃ x, (rInt st).1 = x := ⟨_, rfl⟩
  have hy : (smR st m).1 = if x < 0 ∨ m < x then m + 1 else x := by rw [← hx]; rfl
  have ht : (rInt st).2 = (smR st m).2 := rfl
  rw [hx, ht] at HC
  obtain ⟨y, hyy⟩ : ∃ y, (smR st m).1 = y := ⟨_, rfl⟩
  rw [hyy] at hy ⊢
  generalize (smR st m).2 = t at HC ⊢
  have HY := Lib.hid hy
  clear hx ht h hy hyy
  go_enter Tryz.func182, Tryz.ntmps182
  go_wp2_with (fail)
  refine HC.out.mono ?_
  rintro e w1 ⟨rfl, a1, f1, s1⟩
  have HA := Lib.hid a1
  have HF := Lib.hid f1
  have HS := Lib.hid s1
  clear a1 f1 s1 HC
  by_cases h1 : x < 0
  · have hY := HY.out
    rw [if_pos (.inl h1)] at hY
    have HY2 := Lib.hid hY
    clear hY HY
    go_wp2
    go_ret
    exact ⟨by rw [HY2.out]; rfl, HA.out, HF.out, HS.out⟩
  · have h1' : 0 ≤ x := by omega
    have hd : decide (x < 0) = false := by simp; omega
    by_cases h2 : m < x
    · have hY := HY.out
      rw [if_pos (.inr h2)] at hY
      have HY2 := Lib.hid hY
      clear hY HY h1
      go_wp2
      go_ret
      exact ⟨by rw [HY2.out]; rfl, HA.out, HF.out, HS.out⟩
    · have h2' : x ≤ m := by omega
      have hd2 : decide (m < x) = false := by simp; omega
      have hY := HY.out
      rw [if_neg (by omega)] at hY
      have HY2 := Lib.hid hY
      clear hY HY h1 h2
      go_wp2
      go_ret
      exact ⟨by rw [HY2.out]; rfl, HA.out, HF.out, HS.out⟩

theorem smR_range (st : RSt) (m : Int) (hm : 0 ≤ m) : 0 ≤ (smR st m).1 ∧ (smR st m).1 ≤ m + 1 := by
  unfold smR
  simp only
  split
  · omega
  · omega
theorem rCount_range2 (st : RSt) (m : Int) (hm : 0 ≤ m) : 0 ≤ (rCount st m).1 ∧ (rCount st m).1 ≤ m := by
  unfold rCount
  simp only
  split
  · simp; exact hm
  · simp only; omega

/-- What Read holds in its loop: a reader, the config under way in block E, its members a row of the call's own. -/
structure ReW (wb w : World) (lo p E : Nat) (v : Int) (V : Value) (l : List Mem) (st : RSt) : Prop where
  a : RRd w lo p st
  fr : Fr (OneB p) wb w
  lo2 : lo ≤ p
  pb : p < wb.heap.size
  bE : wb.heap.size ≤ E
  bx : w.heap[E]? = some (.cells #[.int .i64 v, V] 28 (0, 0))
  own : w.ownsRow (E + 1) 173 4 V l.length (mv l)
section
variable {wb w w' : World} {lo p E : Nat} {v : Int} {V : Value} {l : List Mem} {st st' : RSt}
theorem ReW.read (h : ReW wb w lo p E v V l st) (a : RRd w' lo p st') (f : Fr (OneB p) w w') : ReW wb w' lo p E v V l st' :=
  ⟨a, h.fr.then f, h.lo2, h.pb, h.bE, f.at_ h.bx (by have := h.pb; have := h.bE; simp only [OneB]; omega),
    own_keep h.own fun g hg => f.block g (h.own.lt g hg).2 (by have := h.pb; have := h.bE; have := (h.own.lt g hg).1; simp only [OneB]; omega)⟩
theorem ReW.keep (h : ReW wb w lo p E v V l st) (f : Fr NoB w w') : ReW wb w' lo p E v V l st :=
  ⟨h.a.fr f (fun _ _ _ x => x) h.lo2, h.fr.then f.no, h.lo2, h.pb, h.bE, f.at_ h.bx (fun x => x), own_keep h.own fun g hg => f.block g (h.own.lt g hg).2 (fun x => x)⟩
theorem ReW.set (h : ReW wb w lo p E v V l st) (K i : Nat) (hK : E < K) (hV : ∀ g, V.ownBlock = some g → g ≠ K) (u : Value) : ReW wb (w.setCell ⟨K, i, none⟩ u) lo p E v V l st := by
  have f : Fr (OneB K) w (w.setCell ⟨K, i, none⟩ u) := (Fr.refl (OneB K) w).setCell (p := ⟨K, i, none⟩) (fun _ => rfl) u
  have h2 := h.lo2
  have h3 := h.pb
  have h4 := h.bE
  exact ⟨h.a.fr f (fun k _ hk hx => by simp only [OneB] at hx; omega) h.lo2, h.fr.setCell (p := ⟨K, i, none⟩) (fun k => absurd k (by simp only; omega)) u, h.lo2, h.pb, h.bE, f.at_ h.bx (by simp only [OneB]; omega), own_keep h.own fun g hg => f.block g (h.own.lt g hg).2 (hV g hg)⟩
theorem ReW.old {v' : Value} {m : Mem} {o : Obj} {wA : World} (h : ReW wb w lo p E v V l st) (hA : App (E + 1) 173 4 V (l.length + 1) (mv l ++ mv [m]) (w.alloc o) v' wA) : wA.heap[E]? = some (.cells #[.int .i64 v, V] 28 (0, 0)) :=
  hA.fr.at_ (((Fr.refl NoB w).alloc o).at_ h.bx (fun x => x)) (fun hx => by have := (h.own.lt E hx).1; omega)
theorem ReW.push {v' : Value} {m : Mem} {o : Obj} {wA : World} (h : ReW wb w lo p E v V l st) (hA : App (E + 1) 173 4 V (l.length + 1) (mv l ++ mv [m]) (w.alloc o) v' wA) : ReW wb (wA.setCell ⟨E, 1, none⟩ v') lo p E v v' (l ++ [m]) st := by
  have h2 := h.lo2
  have h3 := h.pb
  have h4 := h.bE
  have hV : ∀ k, V.ownBlock = some k → E + 1 ≤ k := fun k hk => (h.own.lt k hk).1
  have fa : Fr (OneB E) wA (wA.setCell ⟨E, 1, none⟩ v') := (Fr.refl (OneB E) wA).setCell (p := ⟨E, 1, none⟩) (fun _ => rfl) v'
  have fA : Fr (OneB p) wb wA := (h.fr.alloc o).trans hA.fr (fun k hk hx => by have := hV k hx; omega)
  refine ⟨?_, ?_, h2, h3, h4, ?_, ?_⟩
  · exact ((h.a.fr ((Fr.refl NoB w).alloc o) (fun _ _ _ x => x) h2).fr hA.fr (fun k _ hk hx => by have := hV k hx; omega) h2).fr fa (fun k _ hk hx => by simp only [OneB] at hx; omega) h2
  · exact fA.setCell (p := ⟨E, 1, none⟩) (fun k => absurd k (by simp only; omega)) v'
  · rw [heap_set (h.old hA)]; rfl
  · have := hA.own
    rw [← mv_append] at this
    rw [List.length_append]
    exact own_keep this fun g hg => Below.heap_setCell _ _ _ _ (by have := (this.lt g hg).1; simp only; omega)
end

set_option maxRecDepth 8000 in
set_option maxHeartbeats 6400000 in
theorem rread_calls (lo p : Nat) (b : List UInt8) (w : World) (hr : RRd w lo p (some b)) (hlo : lo ≤ p) (v : Int) (ms : List Mem) (fin : RSt) (hg : getR2 b = (v, ms, fin)) :
    Calls Tryz.prog 170 #[.pointer (some ⟨p, 0, none⟩)] w fun e w' => RRd w' lo p fin ∧ Fr (OneB p) w w' ∧
      ((∃ A' c', e = .returned (.tuple #[.agg #[.int .i64 v, .slice A' ms.length c'], .bool true]) ∧ ms.length ≤ c' ∧ c' ≤ maxLen ∧ RdM w' w.heap.size w'.heap.size A' ms ∧ (rGood fin = true ∧ chk v ms = 0)) ∨ (e = .returned (.tuple #[.agg #[.int .i64 0, .slice none 0 0], .bool false]) ∧ ¬ (rGood fin = true ∧ chk v ms = 0))) := by
  obtain ⟨e1, e2⟩ := Prod.mk.injEq _ _ _ _ ▸ hg
  obtain ⟨e2, e3⟩ := Prod.mk.injEq _ _ _ _ ▸ e2
  have hrc := rCount_range2 (rInt (some b)).2 7 (by omega)
  obtain ⟨n, hn⟩ : ∃ n : Nat, (rCount (rInt (some b)).2 7).1 = (n : Int) := ⟨((rCount (rInt (some b)).2 7).1).toNat, by omega⟩
  obtain ⟨s1, hs1⟩ : ∃ s1, (rCount (rInt (some b)).2 7).2 = s1 := ⟨_, rfl⟩
  obtain ⟨s0, hs0⟩ : ∃ s0, (rInt (some b)).2 = s0 := ⟨_, rfl⟩
  have hn7 : (n : Int) ≤ 7 := by omega
  have hm : (rdMems2 n s1).1 = ms := by rw [← e2]; simp only [getR2] at *; rw [hn, hs1]; rfl
  have hst : (rdMems2 n s1).2 = fin := by rw [← e3]; simp only [getR2] at *; rw [hn, hs1]; rfl
  have hv : (rInt (some b)).1 = v := e1
  rw [hs0] at hn hs1
  have hI := fun W (r : RRd W lo p (some b)) => rrInt lo p (some b) W r
  rw [hv, hs0] at hI
  have HI := Lib.hid hI
  have hC := fun W (r : RRd W lo p s0) => rrCount lo p s0 7 W r
  rw [hn, hs1] at hC
  have HC := Lib.hid hC
  have HM := Lib.hid hm
  have HST := Lib.hid hst
  have HR := Lib.hid hr
  have HLO := Lib.hid hlo
  clear hr hI hC hm hst hrc hs0 hs1 hn hv e1 e2 e3 hg hlo
  obtain ⟨i0, hi0, hz0, hz1, hz2⟩ := info_parts info_mem
  go_enter Tryz.func170, Tryz.ntmps170
  go_wp2_with (fail)
  have F0 := Lib.hid ((Fr.refl NoB w).alloc (.cells #[.int .i64 0, .slice none 0 0] 28))
  have HRV := Lib.hid (heap_alloc_new w (.cells #[.int .i64 0, .slice none 0 0] 28))
  have HPW := Lib.hid HR.out.lt
  have R0 := Lib.hid (HR.out.fr F0.out (fun _ _ _ x => x) HLO.out)
  clear HR
  generalize w.alloc (.cells #[.int .i64 0, .slice none 0 0] 28) = wb at F0 HRV R0 ⊢
  refine (HI.out _ R0.out).mono ?_
  rintro e w2 ⟨rfl, a2, f2, -⟩
  have HA2 := Lib.hid a2
  have F2 := Lib.hid f2
  clear a2 f2 R0 HI
  go_wp2_with (fail)
  have t3 : ReW wb (w2.alloc (.cells #[.int .i64 v, .slice none 0 0] 28)) lo p w2.heap.size v (.slice none 0 0) [] s0 :=
    ⟨HA2.out.fr ((Fr.refl NoB w2).alloc _) (fun _ _ _ x => x) HLO.out, F2.out.alloc _, HLO.out, by have h1 := HPW.out; have h2 := F0.out.size; omega, F2.out.size, heap_alloc_new w2 _, World.ownsRow_nil _ _ _ _⟩
  generalize w2.alloc (.cells #[.int .i64 v, .slice none 0 0] 28) = w3 at t3 ⊢
  generalize w2.heap.size = E at t3 ⊢
  refine (HC.out _ t3.a).mono ?_
  rintro e w4 ⟨rfl, a4, f4, -⟩
  have T4 := Lib.hid (t3.read a4 f4)
  clear t3 a4 f4 HC HA2 F2
  go_wp2
  go_loopw [6, 7] (fun i _ wr => ∃ (k : Nat) (V : Value), k ≤ n ∧ i = .int .i64 (k : Int) ∧ ReW wb wr lo p E v V (rdMems2 k s1).1 (rdMems2 k s1).2) (fun i _ _ => n - (intOf i).toNat)
  case atStart => exact ⟨0, _, Nat.zero_le _, rfl, T4.out⟩
  case round =>
    obtain ⟨k, V, hk, rfl, ht⟩ := hrel
    have TK := Lib.hid ht
    clear ht T4
    by_cases hlt : k < n
    · have hki : (k : Int) < (n : Int) := by omega
      have hll := rdMems2_len k s1
      have hstep : rdMems2 (k + 1) s1 = ((rdMems2 k s1).1 ++ [(rdMem2 (rdMems2 k s1).2).1], (rdMem2 (rdMems2 k s1).2).2) := rfl
      generalize (rdMems2 k s1).1 = l at TK hll hstep
      generalize (rdMems2 k s1).2 = st at TK hstep
      obtain ⟨x1, t1, g1⟩ : ∃ x t, smR st 7 = (x, t) := ⟨_, _, rfl⟩
      obtain ⟨x2, t2, g2⟩ : ∃ x t, smR t1 2 = (x, t) := ⟨_, _, rfl⟩
      obtain ⟨x3, t3, g3⟩ : ∃ x t, smR t2 1000 = (x, t) := ⟨_, _, rfl⟩
      obtain ⟨x4, t4, g4⟩ : ∃ x t, smR t3 7 = (x, t) := ⟨_, _, rfl⟩
      have hmem : rdMem2 st = ((x1, x2, x3, x4), t4) := by simp [rdMem2, g1, g2, g3, g4]
      rw [hmem] at hstep
      have r2 := smR_range t1 2 (by omega)
      rw [g2] at r2
      simp only at r2
      have hx2 : x2 % 256 = x2 := by omega
      have hC1 := fun W (r : RRd W lo p st) => rsmall_calls lo p st 7 (by omega) (by omega) W r
      have hC2 := fun W (r : RRd W lo p t1) => rsmall_calls lo p t1 2 (by omega) (by omega) W r
      have hC3 := fun W (r : RRd W lo p t2) => rsmall_calls lo p t2 1000 (by omega) (by omega) W r
      have hC4 := fun W (r : RRd W lo p t3) => rsmall_calls lo p t3 7 (by omega) (by omega) W r
      rw [g1] at hC1
      rw [g2] at hC2
      rw [g3] at hC3
      rw [g4] at hC4
      have HC1 := Lib.hid hC1
      have HC2 := Lib.hid hC2
      have HC3 := Lib.hid hC3
      have HC4 := Lib.hid hC4
      have HSTEP := Lib.hid hstep
      have HLL := Lib.hid hll
      clear hC1 hC2 hC3 hC4 hstep hmem g1 g2 g3 g4 r2 hll
      go_wp2_with (fail)
      refine (HC1.out _ TK.out.a).mono ?_
      rintro e w5 ⟨rfl, a5, f5, -⟩
      have T5 := Lib.hid (TK.out.read a5 f5)
      have HBV := Lib.hid (fun g (hg : V.ownBlock = some g) => Nat.ne_of_lt (T5.out.own.lt g hg).2)
      have HEK := Lib.hid (Lib.lt_of_heap T5.out.bx)
      clear a5 f5 TK HC1
      go_wp2_with (fail)
      have hmk := heap_alloc_new w5 (.cells #[.int .i64 x1, .int .u8 0, .int .i64 0, .int .i64 0] 173)
      have T5b := Lib.hid (T5.out.keep ((Fr.refl NoB w5).alloc (.cells #[.int .i64 x1, .int .u8 0, .int .i64 0, .int .i64 0] 173)))
      generalize w5.alloc (.cells #[.int .i64 x1, .int .u8 0, .int .i64 0, .int .i64 0] 173) = w5b at hmk T5b ⊢
      generalize w5.heap.size = K at hmk HBV HEK ⊢
      refine (HC2.out _ T5b.out.a).mono ?_
      rintro e w6 ⟨rfl, a6, f6, -⟩
      have T6 := Lib.hid (T5b.out.read a6 f6)
      have hKp : ¬ OneB p K := by have := HEK.out; have := T5b.out.pb; have := T5b.out.bE; simp only [OneB]; omega
      have hm6 := f6.at_ hmk hKp
      have HM6 := Lib.hid hm6
      have y1 := (cells_of hm6 1).1
      have z1 := (cells_of hm6 1).2
      simp only [List.getElem?_toArray, List.getElem?_cons_zero, List.getElem?_cons_succ] at y1
      clear a6 f6 hmk T5b HC2 hm6
      go_wp2_with (fail)
      have T6b := Lib.hid (T6.out.set K 1 HEK.out HBV.out (.int .u8 x2))
      have hm6b : (w6.setCell ⟨K, 1, none⟩ (.int .u8 x2)).heap[K]? = some (.cells #[.int .i64 x1, .int .u8 x2, .int .i64 0, .int .i64 0] 173 (0, 0)) := by rw [heap_set HM6.out]; rfl
      generalize w6.setCell ⟨K, 1, none⟩ (.int .u8 x2) = w6b at hm6b T6b ⊢
      clear T6 HM6 y1 z1
      refine (HC3.out _ T6b.out.a).mono ?_
      rintro e w7 ⟨rfl, a7, f7, -⟩
      have T7 := Lib.hid (T6b.out.read a7 f7)
      have hm7 := f7.at_ hm6b hKp
      have HM7 := Lib.hid hm7
      have y2 := (cells_of hm7 2).1
      have z2 := (cells_of hm7 2).2
      simp only [List.getElem?_toArray, List.getElem?_cons_zero, List.getElem?_cons_succ] at y2
      clear a7 f7 T6b hm6b HC3 hm7
      go_wp2_with (fail)
      have T7b := Lib.hid (T7.out.set K 2 HEK.out HBV.out (.int .i64 x3))
      have hm7b : (w7.setCell ⟨K, 2, none⟩ (.int .i64 x3)).heap[K]? = some (.cells #[.int .i64 x1, .int .u8 x2, .int .i64 x3, .int .i64 0] 173 (0, 0)) := by rw [heap_set HM7.out]; rfl
      generalize w7.setCell ⟨K, 2, none⟩ (.int .i64 x3) = w7b at hm7b T7b ⊢
      clear T7 HM7 y2 z2
      refine (HC4.out _ T7b.out.a).mono ?_
      rintro e w8 ⟨rfl, a8, f8, -⟩
      have T8 := Lib.hid (T7b.out.read a8 f8)
      have hm8 := f8.at_ hm7b hKp
      clear a8 f8 T7b hm7b HC4
      obtain ⟨AV, cV, hVe, _, _⟩ := own_form4 T8.out.own
      subst hVe
      have y3 := (cells_of hm8 3).1
      have z3 := (cells_of hm8 3).2
      have T9 := Lib.hid (T8.out.set K 3 HEK.out HBV.out (.int .i64 x4))
      have hm9 : (w8.setCell ⟨K, 3, none⟩ (.int .i64 x4)).heap[K]? = some (.cells #[.int .i64 x1, .int .u8 x2, .int .i64 x3, .int .i64 x4] 173 (0, 0)) := by rw [heap_set hm8]; rfl
      have u0 := (cells_of hm9 0).1
      have u1 := (cells_of hm9 1).1
      have u2 := (cells_of hm9 2).1
      have u3 := (cells_of hm9 3).1
      have uE := (cells_of T9.out.bx 1).1
      simp only [List.getElem?_toArray, List.getElem?_cons_zero, List.getElem?_cons_succ] at y3 u0 u1 u2 u3 uE
      have hsrc : ∀ (t : TypeId) (j : Nat) (u : Value), (mv [(x1, x2, x3, x4)])[j]? = some u → ((w8.setCell ⟨K, 3, none⟩ (.int .i64 x4)).alloc (.cells #[.int .i64 x1, .int .u8 x2, .int .i64 x3, .int .i64 x4] t)).cell? ((⟨w8.heap.size, 0, none⟩ : Addr).add j) = some u := fun t j u hj => by
        obtain ⟨ad, h1, h2⟩ := src_block (w8.setCell ⟨K, 3, none⟩ (.int .i64 x4)) #[.int .i64 x1, .int .u8 x2, .int .i64 x3, .int .i64 x4] t (mv [(x1, x2, x3, x4)]) rfl
        have hsz : (w8.setCell ⟨K, 3, none⟩ (.int .i64 x4)).heap.size = w8.heap.size := by simp [World.setCell]
        rw [hsz] at h1
        cases h1
        exact h2 j u hj
      have HSRC := Lib.hid hsrc
      clear hm8 hm9 T8 hsrc
      go_wp2_with (at_builtin; go_loud (refine wpList_append_src _ rfl _ _ 26 rfl (E + 1) 173 i0 (.agg #[.int .i64 0, .int .u8 0, .int .i64 0, .int .i64 0]) 4 32 Tryz.underlying26 hi0 hz0 hz1 hz2 rfl (by decide) (.slice AV l.length cV) l.length (mv l) rfl (T9.out.own.alloc _) _ 1 _ (mv [(x1, x2, x3, x4)]) rfl rfl (fun _ => ⟨_, rfl, HSRC.out _⟩) (mv_one _) (by have := HLL.out; unfold maxLen; omega) (by have := HLL.out; omega) (by have := Lib.lt_of_heap T9.out.bx; simp at this ⊢; omega) ?_))
      intro v' wA hA
      obtain ⟨A2, c2, hv2, _, _⟩ := own_form4 hA.own
      subst hv2
      have T10 := Lib.hid (T9.out.push hA)
      have hold := T9.out.old hA
      have q1 := (cells_of hold 1).1
      have q2 := (cells_of hold 1).2
      simp only [List.getElem?_toArray, List.getElem?_cons_zero, List.getElem?_cons_succ] at q1
      clear hA hold T9 HSRC u0 u1 u2 u3 uE y3 z3
      go_wp2
      go_roundw
      case rel => exact ⟨k + 1, _, by omega, by go_num, by rw [HSTEP.out]; exact T10.out⟩
      case measure => simp [intOf]; omega
    · obtain rfl : k = n := by omega
      have ht := TK.out
      rw [HM.out, HST.out] at ht
      obtain ⟨AV, cV, hVe, hl1, hl2⟩ := own_form4 ht.own
      subst hVe
      have TE := Lib.hid ht
      have hrdm := own_rdm ht.own
      have hml : ms.length = k := by rw [← HM.out, rdMems2_len]
      have hgd := rrGood lo p fin wr ht.a
      have hcc := rcheck_calls v AV ms cV (E + 1) wr.heap.size wr hrdm (Nat.le_refl _) (by omega)
      have HCC := Lib.hid hcc
      have HRD := Lib.hid hrdm
      have b0 := (cells_of ht.bx 0).1
      have b1 := (cells_of ht.bx 1).1
      simp only [List.getElem?_toArray, List.getElem?_cons_zero, List.getElem?_cons_succ] at b0 b1
      have HwE : Hid (w.heap.size < E) := by
        have h3 := TE.out.bE
        have h4 := Lib.lt_of_heap HRV.out
        show w.heap.size < E
        omega
      clear ht hcc hrdm TK HM HST hlt hk hi0 hz0 hz1 hz2 hml
      have hwp : ¬ OneB p w.heap.size := by have := HPW.out; simp only [OneB]; omega
      have HWP := Lib.hid hwp
      clear hwp
      cases hW : rGood fin
      · rw [hW] at hgd
        have HGD := Lib.hid hgd
        have hres := TE.out.fr.at_ HRV.out HWP.out
        have HRES := Lib.hid hres
        have r0 := (cells_of hres 0).1
        have r1 := (cells_of hres 1).1
        have z0 := (cells_of hres 0).2
        have z1 := (cells_of hres 1).2
        simp only [List.getElem?_toArray, List.getElem?_cons_zero, List.getElem?_cons_succ] at r0 r1
        have HWF := Lib.hid hW
        clear hgd hres hW HCC
        go_wp2_with (fail)
        refine HGD.out.mono ?_
        rintro e w5 ⟨rfl, rfl⟩
        go_wp2
        have hf : Fr (OneB w.heap.size) wr ((wr.setCell ⟨w.heap.size, 0, none⟩ (.int .i64 0)).setCell ⟨w.heap.size, 1, none⟩ (.slice none 0 0)) := ((Fr.refl (OneB w.heap.size) wr).setCell (p := ⟨w.heap.size, 0, none⟩) (fun _ => rfl) _).setCell (p := ⟨w.heap.size, 1, none⟩) (fun _ => rfl) _
        refine bodyPost_ret (v := .tuple #[.agg #[.int .i64 0, .slice none 0 0], .bool false]) (results_row_tmp (fn := Tryz.f170) (p := 2) (u := 3) (ty := 28) (by kernel_rfl) _ _ w.heap.size 28 _ _ _ rfl (two_set HRES.out) Tryz.underlying28 rfl (by kernel_rfl)) rfl ⟨TE.out.a.fr hf (fun k _ hk hx => by have := HPW.out; simp only [OneB] at hx; omega) HLO.out, ?_, .inr ⟨rfl, fun hx => by have h1 := hx.1; first | cases h1 | (rw [HWF.out] at h1; cases h1)⟩⟩
        exact ((F0.out.no.then TE.out.fr).setCell (p := ⟨w.heap.size, 0, none⟩) (fun k => absurd k (by simp)) _).setCell (p := ⟨w.heap.size, 1, none⟩) (fun k => absurd k (by simp)) _
      · rw [hW] at hgd
        have HGD := Lib.hid hgd
        have HWF := Lib.hid hW
        clear hgd hW
        go_wp2_with (fail)
        refine HGD.out.mono ?_
        rintro e w5 ⟨rfl, rfl⟩
        go_wp2_with (fail)
        refine HCC.out.mono ?_
        rintro e w9 ⟨rfl, f9⟩
        have T9 := Lib.hid (TE.out.keep f9)
        have hres := T9.out.fr.at_ HRV.out HWP.out
        have HRES := Lib.hid hres
        have c0 := (cells_of T9.out.bx 0).1
        have c1 := (cells_of T9.out.bx 1).1
        have r0 := (cells_of hres 0).1
        have r1 := (cells_of hres 1).1
        have z0 := (cells_of hres 0).2
        have z1 := (cells_of hres 1).2
        simp only [List.getElem?_toArray, List.getElem?_cons_zero, List.getElem?_cons_succ] at c0 c1 r0 r1
        have F9 := Lib.hid f9
        clear f9 hres HCC HGD
        by_cases hck : chk v ms = 0
        · have HCK := Lib.hid hck
          rw [hck]
          clear hck
          go_wp2
          have hf9 : Fr (OneB w.heap.size) w9 ((w9.setCell ⟨w.heap.size, 0, none⟩ (.int .i64 v)).setCell ⟨w.heap.size, 1, none⟩ (.slice AV ms.length cV)) := ((Fr.refl (OneB w.heap.size) w9).setCell (p := ⟨w.heap.size, 0, none⟩) (fun _ => rfl) _).setCell (p := ⟨w.heap.size, 1, none⟩) (fun _ => rfl) _
          refine bodyPost_ret (v := .tuple #[.agg #[.int .i64 v, .slice AV ms.length cV], .bool true]) (results_row_tmp (fn := Tryz.f170) (p := 2) (u := 3) (ty := 28) (by kernel_rfl) _ _ w.heap.size 28 _ _ _ rfl (two_set HRES.out) Tryz.underlying28 rfl (by kernel_rfl)) rfl ⟨T9.out.a.fr hf9 (fun k _ hk hx => by have := HPW.out; simp only [OneB] at hx; omega) HLO.out, ?_, .inl ⟨AV, cV, rfl, hl1, hl2, ?_, by first | rfl | exact HWF.out, by first | rfl | exact HCK.out⟩⟩
          · exact ((F0.out.no.then T9.out.fr).setCell (p := ⟨w.heap.size, 0, none⟩) (fun k => absurd k (by simp)) _).setCell (p := ⟨w.heap.size, 1, none⟩) (fun k => absurd k (by simp)) _
          · have hf := (F9.out.no (M := OneB w.heap.size)).then hf9
            exact (HRD.out.fr hf (Nat.le_refl _) (fun k hk _ hx => by simp only [OneB] at hx; have := HwE.out; omega)).wide (by have := HwE.out; omega) hf.size
        · have hckb : (chk v ms != 0) = true := by simp [hck]
          have HN := Lib.hid hck
          clear hck
          go_wp2
          have hf9 : Fr (OneB w.heap.size) w9 ((w9.setCell ⟨w.heap.size, 0, none⟩ (.int .i64 0)).setCell ⟨w.heap.size, 1, none⟩ (.slice none 0 0)) := ((Fr.refl (OneB w.heap.size) w9).setCell (p := ⟨w.heap.size, 0, none⟩) (fun _ => rfl) _).setCell (p := ⟨w.heap.size, 1, none⟩) (fun _ => rfl) _
          refine bodyPost_ret (v := .tuple #[.agg #[.int .i64 0, .slice none 0 0], .bool false]) (results_row_tmp (fn := Tryz.f170) (p := 2) (u := 3) (ty := 28) (by kernel_rfl) _ _ w.heap.size 28 _ _ _ rfl (two_set HRES.out) Tryz.underlying28 rfl (by kernel_rfl)) rfl ⟨T9.out.a.fr hf9 (fun k _ hk hx => by have := HPW.out; simp only [OneB] at hx; omega) HLO.out, ?_, .inr ⟨rfl, fun hx => HN.out hx.2⟩⟩
          exact ((F0.out.no.then T9.out.fr).setCell (p := ⟨w.heap.size, 0, none⟩) (fun k => absurd k (by simp)) _).setCell (p := ⟨w.heap.size, 1, none⟩) (fun k => absurd k (by simp)) _

set_option maxRecDepth 8000 in
set_option maxHeartbeats 3200000 in
/-- The reference's Get of any bytes. -/
theorem rget_calls (A : Option Addr) (b : List UInt8) (c lo hi : Nat) (w : World) (h : Rd w lo hi A b) (hh : hi ≤ w.heap.size) (hl : b.length ≤ 140737488355328) :
    Calls Tryz.prog 133 #[.slice A b.length c] w fun e w' => ∃ (v : Int) (A' : Option Addr) (ms : List Mem) (c' : Nat) (z : Int), e = .returned (.tuple #[.agg #[.int .i64 v, .slice A' ms.length c'], .int .i64 z]) ∧ RdM w' w.heap.size w'.heap.size A' ms ∧ Fr NoB w w' ∧ ((getE b = some (v, ms) ∧ z = 0) ∨ (getE b = none ∧ v = 0 ∧ ms = [] ∧ z = 4)) := by
  obtain ⟨v, ms, fin, hg⟩ : ∃ v ms fin, getR2 b = (v, ms, fin) := ⟨_, _, _, rfl⟩
  have hyes : rWhole fin = true ∧ chk v ms = 0 → getE b = some (v, ms) := fun hx => by rw [← ref_get]; unfold getE2; rw [hg]; exact if_pos hx
  have hno : ¬ (rWhole fin = true ∧ chk v ms = 0) → getE b = none := fun hx => by rw [← ref_get]; unfold getE2; rw [hg]; exact if_neg hx
  have hgw : rWhole fin = true → rGood fin = true := fun hx => by
    cases fin with
    | none => cases hx
    | some _ => rfl
  have HYES := Lib.hid hyes
  have HNO := Lib.hid hno
  have HGW := Lib.hid hgw
  have HGG := Lib.hid (fun W lo p (r : RRd W lo p (some b)) (hlo : lo ≤ p) => rread_calls lo p b W r hlo v ms fin hg)
  have HR := Lib.hid h
  clear h hyes hno hgw hg
  go_enter Tryz.func133, Tryz.ntmps133
  go_wp2_with (fail)
  have F0 := Lib.hid ((Fr.refl NoB w).alloc (.cells #[.int .i64 0, .slice none 0 0] 28))
  have HRV := Lib.hid (heap_alloc_new w (.cells #[.int .i64 0, .slice none 0 0] 28))
  generalize w.alloc (.cells #[.int .i64 0, .slice none 0 0] 28) = wb at F0 HRV ⊢
  refine (rrNew A b c lo hi wb (HR.out.fr F0.out hh (fun _ _ _ x => x)) (Nat.le_trans hh F0.out.size) hl).mono ?_
  rintro e w1 ⟨p, rfl, q1, q2, q3, -⟩
  have Q1 := Lib.hid q1
  have Q2 := Lib.hid q2
  have Q3 := Lib.hid q3
  clear q1 q2 q3 HR
  have HwR := Lib.hid (Lib.lt_of_heap HRV.out)
  go_wp2_with (fail)
  refine (HGG.out _ _ _ Q2.out Q1.out).mono ?_
  rintro e w2 ⟨a2, f2, h2⟩
  have HA2 := Lib.hid a2
  have F2 := Lib.hid (Q3.out.upE f2 (fun k hk => by simp only [OneB] at hk; have := Q1.out; omega))
  have HS := Lib.hid (Q3.out.size)
  clear a2 f2 Q2 HGG
  rcases h2 with ⟨A', c', rfl, hc1, hc2, hrm, hgc⟩ | ⟨rfl, hgc⟩
  · have HRM := Lib.hid hrm
    have HGC := Lib.hid hgc
    have FA := Lib.hid (F2.out.alloc (.cells #[.int .i64 v, .slice A' ms.length c'] 28))
    have HB := Lib.hid (heap_alloc_new w2 (.cells #[.int .i64 v, .slice A' ms.length c'] 28))
    have HW := Lib.hid (rrWhole _ p fin _ (HA2.out.fr ((Fr.refl NoB w2).alloc (.cells #[.int .i64 v, .slice A' ms.length c'] 28)) (fun _ _ _ x => x) Q1.out))
    have hres := FA.out.at_ HRV.out (fun x => x)
    have HRES := Lib.hid hres
    have r0 := (cells_of hres 0).1
    have r1 := (cells_of hres 1).1
    have z0 := (cells_of hres 0).2
    have z1 := (cells_of hres 1).2
    have b0 := (cells_of HB.out 0).1
    have b1 := (cells_of HB.out 1).1
    simp only [List.getElem?_toArray, List.getElem?_cons_zero, List.getElem?_cons_succ] at r0 r1 b0 b1
    clear hrm hgc hres
    cases hW : rWhole fin
    · have hw := HW.out
      rw [hW] at hw
      have HW2 := Lib.hid hw
      have HN := Lib.hid (HNO.out (fun hx => by rw [hW] at hx; cases hx.1))
      clear hw HW hW
      go_wp2_with (fail)
      refine HW2.out.mono ?_
      rintro e w5 ⟨rfl, rfl⟩
      go_wp2
      refine bodyPost_ret (v := .tuple #[.agg #[.int .i64 0, .slice none 0 0], .int .i64 4]) (results_row_tmp (fn := Tryz.f133) (p := 2) (u := 3) (ty := 28) (by kernel_rfl) _ _ w.heap.size 28 _ _ _ rfl (two_set HRES.out) Tryz.underlying28 rfl (by kernel_rfl)) rfl ⟨0, none, [], 0, 4, rfl, RdM.nil _ _ _ _, ?_, .inr ⟨HN.out, rfl, rfl, rfl⟩⟩
      exact ((F0.out.then FA.out).setCell (p := ⟨w.heap.size, 0, none⟩) (fun k => absurd k (by simp)) _).setCell (p := ⟨w.heap.size, 1, none⟩) (fun k => absurd k (by simp)) _
    · have hw := HW.out
      rw [hW] at hw
      have HW2 := Lib.hid hw
      have HN := Lib.hid (HYES.out ⟨hW, HGC.out.2⟩)
      clear hw HW hW
      go_wp2_with (fail)
      refine HW2.out.mono ?_
      rintro e w5 ⟨rfl, rfl⟩
      go_wp2
      refine bodyPost_ret (v := .tuple #[.agg #[.int .i64 v, .slice A' ms.length c'], .int .i64 0]) (results_row_tmp (fn := Tryz.f133) (p := 2) (u := 3) (ty := 28) (by kernel_rfl) _ _ w.heap.size 28 _ _ _ rfl (two_set HRES.out) Tryz.underlying28 rfl (by kernel_rfl)) rfl ⟨v, A', ms, c', 0, rfl, ?_, ?_, .inl ⟨HN.out, rfl⟩⟩
      · have hf : Fr (OneB w.heap.size) w2 (((w2.alloc (.cells #[.int .i64 v, .slice A' ms.length c'] 28)).setCell ⟨w.heap.size, 0, none⟩ (.int .i64 v)).setCell ⟨w.heap.size, 1, none⟩ (.slice A' ms.length c')) := (((Fr.refl (OneB w.heap.size) w2).alloc _).setCell (p := ⟨w.heap.size, 0, none⟩) (fun _ => rfl) _).setCell (p := ⟨w.heap.size, 1, none⟩) (fun _ => rfl) _
        exact (HRM.out.fr hf (Nat.le_refl _) (fun k hk _ hx => by simp only [OneB] at hx; have := HwR.out; have := HS.out; omega)).wide (by have := F0.out.size; have := HS.out; omega) hf.size
      · exact ((F0.out.then FA.out).setCell (p := ⟨w.heap.size, 0, none⟩) (fun k => absurd k (by simp)) _).setCell (p := ⟨w.heap.size, 1, none⟩) (fun k => absurd k (by simp)) _
  · have HN := Lib.hid (HNO.out (fun hx => hgc ⟨HGW.out hx.1, hx.2⟩))
    have FA := Lib.hid (F2.out.alloc (.cells #[.int .i64 0, .slice none 0 0] 28))
    have hres := FA.out.at_ HRV.out (fun x => x)
    have HRES := Lib.hid hres
    have r0 := (cells_of hres 0).1
    have r1 := (cells_of hres 1).1
    have z0 := (cells_of hres 0).2
    have z1 := (cells_of hres 1).2
    simp only [List.getElem?_toArray, List.getElem?_cons_zero, List.getElem?_cons_succ] at r0 r1
    clear hgc hres
    go_wp2
    refine bodyPost_ret (v := .tuple #[.agg #[.int .i64 0, .slice none 0 0], .int .i64 4]) (results_row_tmp (fn := Tryz.f133) (p := 2) (u := 3) (ty := 28) (by kernel_rfl) _ _ w.heap.size 28 _ _ _ rfl (two_set HRES.out) Tryz.underlying28 rfl (by kernel_rfl)) rfl ⟨0, none, [], 0, 4, rfl, RdM.nil _ _ _ _, ?_, .inr ⟨HN.out, rfl, rfl, rfl⟩⟩
    exact ((F0.out.then FA.out).setCell (p := ⟨w.heap.size, 0, none⟩) (fun k => absurd k (by simp)) _).setCell (p := ⟨w.heap.size, 1, none⟩) (fun k => absurd k (by simp)) _

end Go.Proofs.YtmlmbahimklfiaaGreatDoor

/- Enr -/
namespace Go.Proofs.YtmlmbahimklfiaaGreatDoor
open Go.RowKit

theorem rput_calls (v : Int) (A : Option Addr) (ms : List Mem) (c lo hi : Nat) (w : World) (h : RdM w lo hi A ms) (hh : hi ≤ w.heap.size) (hl : ms.length ≤ 140737488355328) :
    Calls Tryz.prog 120 #[.agg #[.int .i64 v, .slice A ms.length c]] w fun e w' => ∃ A' c', e = .returned (.tuple #[.slice A' (putE v ms).1.length c', .int .i64 (putE v ms).2]) ∧ Rd w' w.heap.size w'.heap.size A' (putE v ms).1 ∧ Fr NoB w w' := by
  unfold putE
  by_cases hc : chk v ms = 0
  · rw [if_pos hc]
    refine (rput_config v A ms c lo hi w h hh hl hc).mono ?_
    rintro e w' ⟨A', c', rfl, -, -, h1, h2⟩
    exact ⟨A', c', rfl, h1, h2⟩
  · rw [if_neg hc]
    refine (rput_bad v A ms c lo hi w h hh hl hc).mono ?_
    rintro e w' ⟨rfl, h2⟩
    exact ⟨none, 0, rfl, Rd.nil _ _ _ _, h2⟩
/-- What Get answers: a version, members and an error. -/
theorem rget_any2 (A : Option Addr) (b : List UInt8) (c lo hi : Nat) (w : World) (h : Rd w lo hi A b) (hh : hi ≤ w.heap.size) (hl : b.length ≤ 140737488355328) :
    Calls Tryz.prog 133 #[.slice A b.length c] w fun e w' => ∃ A' c', e = .returned (.tuple #[.agg #[.int .i64 (getV b).1, .slice A' (getV b).2.1.length c'], .int .i64 (getV b).2.2]) ∧ RdM w' w.heap.size w'.heap.size A' (getV b).2.1 ∧ Fr NoB w w' := by
  refine (rget_calls A b c lo hi w h hh hl).mono ?_
  rintro e w' ⟨v, A', ms, c', z, rfl, h1, h2, h3⟩
  obtain ⟨rfl, rfl, rfl⟩ := getV_of h3
  exact ⟨A', c', rfl, h1, h2⟩
end Go.Proofs.YtmlmbahimklfiaaGreatDoor
