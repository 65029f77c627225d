/-
  Ene: ensemble.Put.
-/
import Derived.Test.YtlckgkpgllhpbaaDoorEnb
import Derived.Test.YtlckgkpgllhpbaaDoorWtr
namespace Go.Proofs.YtlckgkpgllhpbaaDoor
open Go.RowKit

theorem Fr.upE {M : Nat → Prop} {w w1 w2 : World} (h : Fr NoB w w1) (h2 : Fr M w1 w2) (hm : ∀ k, M k → w.heap.size ≤ k) : Fr NoB w w2 :=
  h.trans h2 fun k hk hx => absurd (hm k hx) (by omega)
/-- A writer that the call made, and what stands in it. -/
structure WE (w0 w : World) (p : Nat) (L : List UInt8) (G : Option Nat) : Prop where
  a : Wtr w p G L
  fr : Fr NoB w0 w
  i : ∀ k, WF p G k → w0.heap.size ≤ k
theorem WE.next {w0 w w1 : World} {p : Nat} {L L' : List UInt8} {G G1 : Option Nat} (h : WE w0 w p L G) (a : Wtr w1 p G1 L') (f : Fr (WF p G) w w1) (g : ∀ k, WF p G1 k → WF p G k ∨ w.heap.size ≤ k) : WE w0 w1 p L' G1 :=
  ⟨a, h.fr.upE f h.i, fun k hk => (g k hk).elim (h.i k) (fun x => Nat.le_trans h.fr.size x)⟩
theorem WE.keep {w0 w w1 : World} {p : Nat} {L : List UInt8} {G : Option Nat} (h : WE w0 w p L G) (f : Fr NoB w w1) : WE w0 w1 p L G :=
  ⟨h.a.fr f (fun _ _ x => x), h.fr.then f, h.i⟩
def memV (m : Mem) : Nat → Int
  | 0 => m.1
  | 1 => m.2.1
  | 2 => m.2.2.1
  | _ => m.2.2.2
def memP (m : Mem) : Nat → List UInt8
  | 0 => []
  | j + 1 => memP m j ++ intB (memV m j)
theorem memP_four (m : Mem) : memP m 4 = memB m := by simp [memP, memV, memB]
theorem memP_len (m : Mem) (j : Nat) : (memP m j).length ≤ 10 * j := by
  induction j with
  | zero => simp [memP]
  | succ j ih => have := intB_len (memV m j); simp [memP]; omega
theorem chk_ver {v : Int} {ms : List Mem} (h : chk v ms = 0) : 0 ≤ v ∧ v ≤ 4611686018427387904 ∧ ms.length ≤ 7 := by
  unfold chk at h
  split at h
  · omega
  · split at h
    · omega
    · split at h
      · omega
      · omega

theorem idx_four (x0 x1 x2 x3 : Int) (w : World) :
    (Instr.index 146 (.agg #[.int .i64 x0, .int .i64 x1, .int .i64 x2, .int .i64 x3]) (.int .i64 0)).run Tryd.prog w = .ok (.int .i64 x0) w ∧ (Instr.index 146 (.agg #[.int .i64 x0, .int .i64 x1, .int .i64 x2, .int .i64 x3]) (.int .i64 1)).run Tryd.prog w = .ok (.int .i64 x1) w ∧
    (Instr.index 146 (.agg #[.int .i64 x0, .int .i64 x1, .int .i64 x2, .int .i64 x3]) (.int .i64 2)).run Tryd.prog w = .ok (.int .i64 x2) w ∧ (Instr.index 146 (.agg #[.int .i64 x0, .int .i64 x1, .int .i64 x2, .int .i64 x3]) (.int .i64 3)).run Tryd.prog w = .ok (.int .i64 x3) w := by
  refine ⟨?_, ?_, ?_, ?_⟩ <;> simp [Instr.index, run_underlying Tryd.underlying146, asIntOf, go_sem]

set_option maxRecDepth 8000 in
set_option maxHeartbeats 6400000 in
theorem put_config (v : Int) (A : Option Addr) (ms : List Mem) (c lo hi : Nat) (w : World) (h : RdM w lo hi A ms) (hh : hi ≤ w.heap.size) (hl : ms.length ≤ 140737488355328) (hok : chk v ms = 0) :
    Calls Tryd.prog 80 #[.agg #[.int .i64 v, .slice A ms.length c]] w fun e w' => ∃ A' c', e = .returned (.tuple #[.slice A' (ensB v ms).length c', .int .i64 0]) ∧ (ensB v ms).length ≤ c' ∧ c' ≤ maxLen ∧ Rd w' w.heap.size w'.heap.size A' (ensB v ms) ∧ Fr NoB w w' := by
  have HCK := Lib.hid (fun W (f : Fr NoB w W) => check_calls v A ms c lo hi W (h.fr f hh (fun _ _ _ x => x)) (Nat.le_trans hh f.size) hl)
  rw [hok] at HCK
  obtain ⟨v0, v1, hn7⟩ := chk_ver hok
  have hgood := chk_good hok
  have HM := Lib.hid h
  have hvl := intB_len v
  have hnl := intB_len (ms.length : Int)
  have hml : ∀ k, (memsB (ms.take k)).length ≤ 280 := fun k => by
    have h1 := memsB_len (ms.take k)
    rw [List.length_take] at h1
    omega
  have HL := Lib.hid hml
  have HV := Lib.hid hvl
  have HNL := Lib.hid hnl
  have HG := Lib.hid hgood
  have H7 := Lib.hid hn7
  clear h hok hml hvl hnl hgood
  have hn7i : (ms.length : Int) ≤ 7 := by omega
  go_enter Tryd.func80, Tryd.ntmps80
  go_wp2_with (fail)
  have F0 := Lib.hid ((Fr.refl NoB w).alloc (.cells #[.int .i64 v, .slice A ms.length c] 40))
  have HBX := Lib.hid (heap_alloc_new w (.cells #[.int .i64 v, .slice A ms.length c] 40))
  generalize w.alloc (.cells #[.int .i64 v, .slice A ms.length c] 40) = wb at F0 HBX ⊢
  refine (HCK.out _ F0.out).mono ?_
  rintro e w1 ⟨rfl, f1⟩
  have F1 := Lib.hid f1
  clear f1 HCK
  go_wp2_with (fail)
  refine (wNew _).mono ?_
  rintro e w2 ⟨rfl, a2, f2, -⟩
  have t2 : WE wb w2 w1.heap.size [] none := ⟨a2, F1.out.then f2, fun k hk => by
    rcases hk with rfl | hk
    · exact F1.out.size
    · cases hk⟩
  have HB2 := Lib.hid (t2.fr.at_ HBX.out (fun x => x))
  have hb0 := (cells_of HB2.out 0).1
  simp only [List.getElem?_toArray, List.getElem?_cons_zero] at hb0
  generalize w1.heap.size = p at t2 ⊢
  clear a2 f2
  go_wp2_with (fail)
  refine (wInt p none [] v _ (by omega) (by omega) t2.a (by simp)).mono ?_
  rintro e w3 ⟨rfl, G3, a3, f3, g3⟩
  rw [List.nil_append] at a3
  have T3 := Lib.hid (t2.next a3 f3 g3)
  clear t2 a3 f3 g3 hb0
  have hb1 := (cells_of (T3.out.fr.at_ HBX.out (fun x => x)) 1).1
  simp only [List.getElem?_toArray, List.getElem?_cons_zero, List.getElem?_cons_succ] at hb1
  go_wp2_with (fail)
  refine (wInt p G3 (intB v) ms.length _ (by omega) (by omega) T3.out.a (by have := HV.out; omega)).mono ?_
  rintro e w4 ⟨rfl, G4, a4, f4, g4⟩
  have T4 := Lib.hid (T3.out.next a4 f4 g4)
  clear a4 f4 g4 hb1 T3
  have hb1 := (cells_of (T4.out.fr.at_ HBX.out (fun x => x)) 1).1
  simp only [List.getElem?_toArray, List.getElem?_cons_zero, List.getElem?_cons_succ] at hb1
  go_wp2
  go_loopw [28] (fun i wr => ∃ (k : Nat) (G : Option Nat), k ≤ ms.length ∧ i = .int .i64 (k : Int) ∧ WE wb wr p (intB v ++ intB ms.length ++ memsB (ms.take k)) G) (fun i _ => ms.length - (intOf i).toNat)
  case atStart => exact ⟨0, _, Nat.zero_le _, rfl, by simpa [memsB] using T4.out⟩
  case round =>
    obtain ⟨k, G, hk, rfl, ht⟩ := hrel
    have TK := Lib.hid ht
    clear ht hb1 T4
    by_cases hlt : k < ms.length
    · obtain ⟨b, o, rfl, hb1, hb2, hcs⟩ := HM.out (by omega)
      obtain ⟨d0, d1, d2, d3⟩ := hcs k ms[k] (List.getElem?_eq_getElem hlt)
      have hgm := HG.out ms[k] (List.getElem_mem hlt)
      have hts : memsB (ms.take (k + 1)) = memsB (ms.take k) ++ memB ms[k] := by
        rw [List.take_add_one, List.getElem?_eq_getElem hlt, memsB_append]
        simp [memsB]
      have HTS := Lib.hid hts
      clear hcs hts
      generalize ms[k] = m at d0 d1 d2 d3 hgm HTS
      obtain ⟨m0, m1, m2, m3⟩ := m
      unfold GoodM at hgm
      simp only at d0 d1 d2 d3 hgm
      have FW : Hid (Fr NoB w wr) := F0.out.then TK.out.fr
      have e0 := (FW.out.cell (p := ⟨b, o + k * 4, none⟩) (by simp only; omega) (fun x => x)).trans d0
      have e1 := (FW.out.cell (p := ⟨b, o + k * 4 + 1, none⟩) (by simp only; omega) (fun x => x)).trans d1
      have e2 := (FW.out.cell (p := ⟨b, o + k * 4 + 2, none⟩) (by simp only; omega) (fun x => x)).trans d2
      have e3 := (FW.out.cell (p := ⟨b, o + k * 4 + 3, none⟩) (by simp only; omega) (fun x => x)).trans d3
      have hi2 : (k : Int) < (ms.length : Int) := by omega
      have HGM := Lib.hid hgm
      clear d0 d1 d2 d3 hgm
      have hw1 : wrap64 m1 = m1 := by have := HGM.out; unfold wrap64; omega
      have hw2 : IntKind.i64.wrap m1 = m1 := by have := HGM.out; rw [IntKind.wrap_i64]; omega
      have hLL : (intB v ++ intB ms.length ++ memsB (ms.take k)).length ≤ 300 := by
        rw [List.length_append, List.length_append]
        have := HV.out; have := HNL.out; have := HL.out k; omega
      have HLL := Lib.hid hLL
      clear hLL
      obtain ⟨L, hLQ⟩ : ∃ L, intB v ++ intB ms.length ++ memsB (ms.take k) = L := ⟨_, rfl⟩
      have HLQ := Lib.hid hLQ
      rw [hLQ] at TK HLL
      clear hLQ
      go_wp2
      go_loopw [42] (fun i wx => ∃ (j : Nat) (G2 : Option Nat), j ≤ 4 ∧ i = .int .i64 (j : Int) ∧ WE wb wx p (L ++ memP (m0, m1, m2, m3) j) G2) (fun i _ => 4 - (intOf i).toNat)
      case atStart => exact ⟨0, G, by omega, rfl, by simpa [memP] using TK.out.keep ((Fr.refl NoB wr).alloc _)⟩
      case round =>
        obtain ⟨j, G2, hj, rfl, ht⟩ := hrel
        have T5 := Lib.hid ht
        clear ht e0 e1 e2 e3
        have h5 : j = 0 ∨ j = 1 ∨ j = 2 ∨ j = 3 ∨ j = 4 := by omega
        rcases h5 with rfl | rfl | rfl | rfl | rfl
        · have hix := fun W => ((idx_four m0 m1 m2 m3 W).1)
          go_wp2_with (fail)
          refine (wInt p G2 _ m0 _ (by have := HGM.out; omega) (by have := HGM.out; omega) T5.out.a (by rw [List.length_append]; have := HLL.out; have := memP_len (m0, m1, m2, m3) 0; omega)).mono ?_
          rintro e w6 ⟨rfl, G6, a6, f6, g6⟩
          have T6 := Lib.hid (T5.out.next a6 f6 g6)
          clear a6 f6 g6
          go_wp2
          go_roundw
          case rel => exact ⟨0 + 1, G6, by omega, by go_num, by have h := T6.out; rw [List.append_assoc] at h; exact h⟩
          case measure => simp [intOf]
        · have hix := fun W => ((idx_four m0 m1 m2 m3 W).2.1)
          go_wp2_with (fail)
          refine (wInt p G2 _ m1 _ (by have := HGM.out; omega) (by have := HGM.out; omega) T5.out.a (by rw [List.length_append]; have := HLL.out; have := memP_len (m0, m1, m2, m3) 1; omega)).mono ?_
          rintro e w6 ⟨rfl, G6, a6, f6, g6⟩
          have T6 := Lib.hid (T5.out.next a6 f6 g6)
          clear a6 f6 g6
          go_wp2
          go_roundw
          case rel => exact ⟨1 + 1, G6, by omega, by go_num, by have h := T6.out; rw [List.append_assoc] at h; exact h⟩
          case measure => simp [intOf]
        · have hix := fun W => ((idx_four m0 m1 m2 m3 W).2.2.1)
          go_wp2_with (fail)
          refine (wInt p G2 _ m2 _ (by have := HGM.out; omega) (by have := HGM.out; omega) T5.out.a (by rw [List.length_append]; have := HLL.out; have := memP_len (m0, m1, m2, m3) 2; omega)).mono ?_
          rintro e w6 ⟨rfl, G6, a6, f6, g6⟩
          have T6 := Lib.hid (T5.out.next a6 f6 g6)
          clear a6 f6 g6
          go_wp2
          go_roundw
          case rel => exact ⟨2 + 1, G6, by omega, by go_num, by have h := T6.out; rw [List.append_assoc] at h; exact h⟩
          case measure => simp [intOf]
        · have hix := fun W => ((idx_four m0 m1 m2 m3 W).2.2.2)
          go_wp2_with (fail)
          refine (wInt p G2 _ m3 _ (by have := HGM.out; omega) (by have := HGM.out; omega) T5.out.a (by rw [List.length_append]; have := HLL.out; have := memP_len (m0, m1, m2, m3) 3; omega)).mono ?_
          rintro e w6 ⟨rfl, G6, a6, f6, g6⟩
          have T6 := Lib.hid (T5.out.next a6 f6 g6)
          clear a6 f6 g6
          go_wp2
          go_roundw
          case rel => exact ⟨3 + 1, G6, by omega, by go_num, by have h := T6.out; rw [List.append_assoc] at h; exact h⟩
          case measure => simp [intOf]
        · have h4 := T5.out
          rw [memP_four] at h4
          have T7 := Lib.hid h4
          clear h4
          go_wp2
          go_roundw
          case rel => exact ⟨k + 1, G2, by omega, by go_num, by rw [HTS.out, ← List.append_assoc, HLQ.out]; exact T7.out⟩
          case measure => simp [intOf]; omega
    · obtain rfl : k = ms.length := by omega
      have ht := TK.out
      rw [List.take_length] at ht
      have TE := Lib.hid ht
      have hle : (intB v ++ intB ms.length ++ memsB ms).length ≤ 140737488355328 := by
        have h1 := HL.out ms.length
        rw [List.take_length] at h1
        rw [List.length_append, List.length_append]
        have := HV.out; have := HNL.out; omega
      have HLE := Lib.hid hle
      clear ht hle TK hlt hk
      have hZ : intB v ++ intB ms.length ++ memsB ms = ensB v ms := by unfold ensB; rw [List.append_assoc]
      rw [hZ] at TE HLE
      obtain ⟨Z, hZZ⟩ : ∃ Z, ensB v ms = Z := ⟨_, rfl⟩
      have HZZ := Lib.hid hZZ
      rw [hZZ] at TE HLE
      clear hZ hZZ
      go_wp2_with (fail)
      refine (wDone p G _ _ TE.out.a HLE.out).mono ?_
      rintro e w8 ⟨v8, rfl, o8, b8⟩
      obtain ⟨A8, c8, rfl, n1, n2⟩ := own_form o8
      have R8 := own_rd o8
      go_wp2
      go_ret2
      rw [HZZ.out]
      exact ⟨A8, c8, rfl, n1, n2, R8.wide (Nat.le_trans F0.out.size TE.out.fr.size) (Nat.le_refl _), (F0.out.then TE.out.fr).then (Fr.ofBelow b8)⟩

end Go.Proofs.YtlckgkpgllhpbaaDoor
