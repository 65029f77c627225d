/-
  Eno: Put's bytes are the call's own; EnsembleBack's walk.
-/
import Derived.Test.YtbgpgaekckfjlaaDoorEnn
import Derived.Test.YtbgpgaekckfjlaaDoorApw
namespace Go.Proofs.YtbgpgaekckfjlaaDoor
open Go.RowKit

set_option maxRecDepth 8000 in
set_option maxHeartbeats 6400000 in
theorem put_own (v : Int) (A : Option Addr) (ms : List Mem) (c lo hi : Nat) (w : World) (h : RdM w lo hi A ms) (hh : hi ≤ w.heap.size) (hl : ms.length ≤ 140737488355328) (hok : chk v ms = 0) :
    Calls Tryd.prog 18 #[.agg #[.int .i64 v, .slice A ms.length c]] w fun e w' => ∃ A' c', e = .returned (.tuple #[.slice A' (ensB v ms).length c', .int .i64 0]) ∧ w'.ownsRow w.heap.size 5 1 (.slice A' (ensB v ms).length c') (ensB v ms).length (bv (ensB v ms)) ∧ Fr NoB w w' := by
  have HCK := Lib.hid (fun W (f : Fr NoB w W) => check_calls v A ms c lo hi W (h.fr f hh (fun _ _ _ x => x)) (Nat.le_trans hh f.size) hl)
  rw [hok] at HCK
  obtain ⟨v0, v1, hn7⟩ := chk_ver hok
  have hgood := chk_good hok
  have HM := Lib.hid h
  have hvl := intB_len v
  have hnl := intB_len (ms.length : Int)
  have hml : ∀ k, (memsB (ms.take k)).length ≤ 280 := fun k => by
    have h1 := memsB_len (ms.take k)
    rw [List.length_take] at h1
    omega
  have HL := Lib.hid hml
  have HV := Lib.hid hvl
  have HNL := Lib.hid hnl
  have HG := Lib.hid hgood
  have H7 := Lib.hid hn7
  clear h hok hml hvl hnl hgood
  have hn7i : (ms.length : Int) ≤ 7 := by omega
  go_enter Tryd.func18, Tryd.ntmps18
  go_wp2_with (fail)
  have F0 := Lib.hid ((Fr.refl NoB w).alloc (.cells #[.int .i64 v, .slice A ms.length c] 25))
  have HBX := Lib.hid (heap_alloc_new w (.cells #[.int .i64 v, .slice A ms.length c] 25))
  generalize w.alloc (.cells #[.int .i64 v, .slice A ms.length c] 25) = wb at F0 HBX ⊢
  refine (HCK.out _ F0.out).mono ?_
  rintro e w1 ⟨rfl, f1⟩
  have F1 := Lib.hid f1
  clear f1 HCK
  go_wp2_with (fail)
  refine (wNew _).mono ?_
  rintro e w2 ⟨rfl, a2, f2, -⟩
  have t2 : WE wb w2 w1.heap.size [] none := ⟨a2, F1.out.then f2, fun k hk => by
    rcases hk with rfl | hk
    · exact F1.out.size
    · cases hk⟩
  have HB2 := Lib.hid (t2.fr.at_ HBX.out (fun x => x))
  have hb0 := (cells_of HB2.out 0).1
  simp only [List.getElem?_toArray, List.getElem?_cons_zero] at hb0
  generalize w1.heap.size = p at t2 ⊢
  clear a2 f2
  go_wp2_with (fail)
  refine (wInt p none [] v _ (by omega) (by omega) t2.a (by simp)).mono ?_
  rintro e w3 ⟨rfl, G3, a3, f3, g3⟩
  rw [List.nil_append] at a3
  have T3 := Lib.hid (t2.next a3 f3 g3)
  clear t2 a3 f3 g3 hb0
  have hb1 := (cells_of (T3.out.fr.at_ HBX.out (fun x => x)) 1).1
  simp only [List.getElem?_toArray, List.getElem?_cons_zero, List.getElem?_cons_succ] at hb1
  go_wp2_with (fail)
  refine (wInt p G3 (intB v) ms.length _ (by omega) (by omega) T3.out.a (by have := HV.out; omega)).mono ?_
  rintro e w4 ⟨rfl, G4, a4, f4, g4⟩
  have T4 := Lib.hid (T3.out.next a4 f4 g4)
  clear a4 f4 g4 hb1 T3
  have hb1 := (cells_of (T4.out.fr.at_ HBX.out (fun x => x)) 1).1
  simp only [List.getElem?_toArray, List.getElem?_cons_zero, List.getElem?_cons_succ] at hb1
  go_wp2
  go_loopw [28] (fun i wr => ∃ (k : Nat) (G : Option Nat), k ≤ ms.length ∧ i = .int .i64 (k : Int) ∧ WE wb wr p (intB v ++ intB ms.length ++ memsB (ms.take k)) G) (fun i _ => ms.length - (intOf i).toNat)
  case atStart => exact ⟨0, _, Nat.zero_le _, rfl, by simpa [memsB] using T4.out⟩
  case round =>
    obtain ⟨k, G, hk, rfl, ht⟩ := hrel
    have TK := Lib.hid ht
    clear ht hb1 T4
    by_cases hlt : k < ms.length
    · obtain ⟨b, o, rfl, hb1, hb2, hcs⟩ := HM.out (by omega)
      obtain ⟨d0, d1, d2, d3⟩ := hcs k ms[k] (List.getElem?_eq_getElem hlt)
      have hgm := HG.out ms[k] (List.getElem_mem hlt)
      have hts : memsB (ms.take (k + 1)) = memsB (ms.take k) ++ memB ms[k] := by
        rw [List.take_add_one, List.getElem?_eq_getElem hlt, memsB_append]
        simp [memsB]
      have HTS := Lib.hid hts
      clear hcs hts
      generalize ms[k] = m at d0 d1 d2 d3 hgm HTS
      obtain ⟨m0, m1, m2, m3⟩ := m
      unfold GoodM at hgm
      simp only at d0 d1 d2 d3 hgm
      have FW : Hid (Fr NoB w wr) := F0.out.then TK.out.fr
      have e0 := (FW.out.cell (p := ⟨b, o + k * 4, none⟩) (by simp only; omega) (fun x => x)).trans d0
      have e1 := (FW.out.cell (p := ⟨b, o + k * 4 + 1, none⟩) (by simp only; omega) (fun x => x)).trans d1
      have e2 := (FW.out.cell (p := ⟨b, o + k * 4 + 2, none⟩) (by simp only; omega) (fun x => x)).trans d2
      have e3 := (FW.out.cell (p := ⟨b, o + k * 4 + 3, none⟩) (by simp only; omega) (fun x => x)).trans d3
      have hi2 : (k : Int) < (ms.length : Int) := by omega
      have HGM := Lib.hid hgm
      clear d0 d1 d2 d3 hgm
      have hw1 : wrap64 m1 = m1 := by have := HGM.out; unfold wrap64; omega
      have hw2 : IntKind.i64.wrap m1 = m1 := by have := HGM.out; rw [IntKind.wrap_i64]; omega
      have hLL : (intB v ++ intB ms.length ++ memsB (ms.take k)).length ≤ 300 := by
        rw [List.length_append, List.length_append]
        have := HV.out; have := HNL.out; have := HL.out k; omega
      have HLL := Lib.hid hLL
      clear hLL
      obtain ⟨L, hLQ⟩ : ∃ L, intB v ++ intB ms.length ++ memsB (ms.take k) = L := ⟨_, rfl⟩
      have HLQ := Lib.hid hLQ
      rw [hLQ] at TK HLL
      clear hLQ
      go_wp2
      go_loopw [42] (fun i wx => ∃ (j : Nat) (G2 : Option Nat), j ≤ 4 ∧ i = .int .i64 (j : Int) ∧ WE wb wx p (L ++ memP (m0, m1, m2, m3) j) G2) (fun i _ => 4 - (intOf i).toNat)
      case atStart => exact ⟨0, G, by omega, rfl, by simpa [memP] using TK.out.keep ((Fr.refl NoB wr).alloc _)⟩
      case round =>
        obtain ⟨j, G2, hj, rfl, ht⟩ := hrel
        have T5 := Lib.hid ht
        clear ht e0 e1 e2 e3
        have h5 : j = 0 ∨ j = 1 ∨ j = 2 ∨ j = 3 ∨ j = 4 := by omega
        rcases h5 with rfl | rfl | rfl | rfl | rfl
        · have hix := fun W => ((idx_four m0 m1 m2 m3 W).1)
          go_wp2_with (fail)
          refine (wInt p G2 _ m0 _ (by have := HGM.out; omega) (by have := HGM.out; omega) T5.out.a (by rw [List.length_append]; have := HLL.out; have := memP_len (m0, m1, m2, m3) 0; omega)).mono ?_
          rintro e w6 ⟨rfl, G6, a6, f6, g6⟩
          have T6 := Lib.hid (T5.out.next a6 f6 g6)
          clear a6 f6 g6
          go_wp2
          go_roundw
          case rel => exact ⟨0 + 1, G6, by omega, by go_num, by have h := T6.out; rw [List.append_assoc] at h; exact h⟩
          case measure => simp [intOf]
        · have hix := fun W => ((idx_four m0 m1 m2 m3 W).2.1)
          go_wp2_with (fail)
          refine (wInt p G2 _ m1 _ (by have := HGM.out; omega) (by have := HGM.out; omega) T5.out.a (by rw [List.length_append]; have := HLL.out; have := memP_len (m0, m1, m2, m3) 1; omega)).mono ?_
          rintro e w6 ⟨rfl, G6, a6, f6, g6⟩
          have T6 := Lib.hid (T5.out.next a6 f6 g6)
          clear a6 f6 g6
          go_wp2
          go_roundw
          case rel => exact ⟨1 + 1, G6, by omega, by go_num, by have h := T6.out; rw [List.append_assoc] at h; exact h⟩
          case measure => simp [intOf]
        · have hix := fun W => ((idx_four m0 m1 m2 m3 W).2.2.1)
          go_wp2_with (fail)
          refine (wInt p G2 _ m2 _ (by have := HGM.out; omega) (by have := HGM.out; omega) T5.out.a (by rw [List.length_append]; have := HLL.out; have := memP_len (m0, m1, m2, m3) 2; omega)).mono ?_
          rintro e w6 ⟨rfl, G6, a6, f6, g6⟩
          have T6 := Lib.hid (T5.out.next a6 f6 g6)
          clear a6 f6 g6
          go_wp2
          go_roundw
          case rel => exact ⟨2 + 1, G6, by omega, by go_num, by have h := T6.out; rw [List.append_assoc] at h; exact h⟩
          case measure => simp [intOf]
        · have hix := fun W => ((idx_four m0 m1 m2 m3 W).2.2.2)
          go_wp2_with (fail)
          refine (wInt p G2 _ m3 _ (by have := HGM.out; omega) (by have := HGM.out; omega) T5.out.a (by rw [List.length_append]; have := HLL.out; have := memP_len (m0, m1, m2, m3) 3; omega)).mono ?_
          rintro e w6 ⟨rfl, G6, a6, f6, g6⟩
          have T6 := Lib.hid (T5.out.next a6 f6 g6)
          clear a6 f6 g6
          go_wp2
          go_roundw
          case rel => exact ⟨3 + 1, G6, by omega, by go_num, by have h := T6.out; rw [List.append_assoc] at h; exact h⟩
          case measure => simp [intOf]
        · have h4 := T5.out
          rw [memP_four] at h4
          have T7 := Lib.hid h4
          clear h4
          go_wp2
          go_roundw
          case rel => exact ⟨k + 1, G2, by omega, by go_num, by rw [HTS.out, ← List.append_assoc, HLQ.out]; exact T7.out⟩
          case measure => simp [intOf]; omega
    · obtain rfl : k = ms.length := by omega
      have ht := TK.out
      rw [List.take_length] at ht
      have TE := Lib.hid ht
      have hle : (intB v ++ intB ms.length ++ memsB ms).length ≤ 140737488355328 := by
        have h1 := HL.out ms.length
        rw [List.take_length] at h1
        rw [List.length_append, List.length_append]
        have := HV.out; have := HNL.out; omega
      have HLE := Lib.hid hle
      clear ht hle TK hlt hk
      have hZ : intB v ++ intB ms.length ++ memsB ms = ensB v ms := by unfold ensB; rw [List.append_assoc]
      rw [hZ] at TE HLE
      obtain ⟨Z, hZZ⟩ : ∃ Z, ensB v ms = Z := ⟨_, rfl⟩
      have HZZ := Lib.hid hZZ
      rw [hZZ] at TE HLE
      clear hZ hZZ
      go_wp2_with (fail)
      refine (wDone p G _ _ TE.out.a HLE.out).mono ?_
      rintro e w8 ⟨v8, rfl, o8, b8⟩
      obtain ⟨A8, c8, rfl, -, -⟩ := own_form o8
      go_wp2
      go_ret2
      rw [HZZ.out]
      exact ⟨A8, c8, rfl, own_base o8 (Nat.le_trans F0.out.size TE.out.fr.size), (F0.out.then TE.out.fr).then (Fr.ofBelow b8)⟩

theorem getV_none {b : List UInt8} (h : getE b = none) : getV b = (0, [], 4) := by
  unfold getV
  rw [h]

set_option maxRecDepth 8000 in
set_option maxHeartbeats 6400000 in
theorem back_walk (v : Int) (A D : Option Addr) (ms : List Mem) (b : List UInt8) (c d : Nat) (w : World) (h : RdM w 0 w.heap.size A ms) (hl : ms.length ≤ 140737488355328) (hb : Rd w 0 w.heap.size D b) (hlb : b.length ≤ 140737488351232) :
    Calls Tryd.prog 7 #[.slice D b.length d, .agg #[.int .i64 v, .slice A ms.length c]] w fun e w' => e = .returned (.bool true) ∧ Fr NoB w w' := by
  have hG := fun W A' c' (r : Rd W 0 W.heap.size A' b) => get_any2 A' b c' 0 W.heap.size W r (Nat.le_refl _) (by omega)
  have hgv : ((getV b).2.2 = 0 → getE b = some ((getV b).1, (getV b).2.1)) := fun hx => by
    unfold getV at hx ⊢
    cases hg : getE b with
    | none => rw [hg] at hx; cases hx
    | some x => obtain ⟨v, ms⟩ := x; rfl
  have hvl := getV_len b
  generalize getV b = V at hG hgv hvl
  obtain ⟨v1, m1, z1⟩ := V
  simp only at hG hgv hvl
  have HG := Lib.hid hG
  have HGV := Lib.hid hgv
  have HVL := Lib.hid hvl
  have HM := Lib.hid h
  have HB := Lib.hid hb
  clear h hb hG hgv hvl
  go_enter Tryd.func7, Tryd.ntmps7
  go_wp2_with (fail)
  have F0 := Lib.hid ((Fr.refl NoB w).alloc (.cells #[.int .i64 v, .slice A ms.length c] 25))
  have HBX := Lib.hid (heap_alloc_new w (.cells #[.int .i64 v, .slice A ms.length c] 25))
  generalize w.alloc (.cells #[.int .i64 v, .slice A ms.length c] 25) = wb at F0 HBX ⊢
  refine (awake_calls _).mono ?_
  rintro e w1 ⟨rfl, f1⟩
  have F1 := Lib.hid (F0.out.then f1)
  have HB1 := Lib.hid (f1.at_ HBX.out (fun x => x))
  clear f1 F0 HBX
  go_wp2_with (fail)
  refine (HG.out _ D d (HB.out.step F1.out)).mono ?_
  rintro e w2 ⟨X, xc, rfl, r2, f2⟩
  have f2a := f2.alloc (.cells #[.int .i64 v1, .slice X m1.length xc] 25)
  have X2 := Lib.hid ((r2.wide (Nat.zero_le _) (Nat.le_refl _)).step ((Fr.refl NoB w2).alloc (.cells #[.int .i64 v1, .slice X m1.length xc] 25)))
  have BX2 := Lib.hid (heap_alloc_new w2 (.cells #[.int .i64 v1, .slice X m1.length xc] 25))
  have F2 := Lib.hid (F1.out.then f2a)
  have HB2 := Lib.hid (f2a.at_ HB1.out (fun x => x))
  clear r2 f2 f2a HG F1 HB1
  by_cases hz1 : z1 = 0
  · subst hz1
    obtain ⟨hbk, hck1⟩ := get_back (HGV.out rfl)
    have hpp : putE v1 m1 = (b, 0) := by unfold putE; rw [if_pos hck1, hbk]
    have hput := fun W (r : RdM W 0 W.heap.size X m1) => put_calls v1 X m1 xc 0 W.heap.size W r (Nat.le_refl _) (by have := HVL.out; omega)
    rw [hpp] at hput
    have HPUT := Lib.hid hput
    have x0 := (cfg_cells BX2.out).1
    have x1 := (cfg_cells BX2.out).2
    clear hbk hck1 hpp hput
    go_wp2_with (fail)
    clear x0 x1
    generalize w2.alloc (.cells #[.int .i64 v1, .slice X m1.length xc] 25) = w3 at X2 BX2 F2 HB2 ⊢
    refine (HPUT.out _ X2.out).mono ?_
    rintro e w4 ⟨C, cc, rfl, r4, f4⟩
    have C4 := Lib.hid (r4.wide (lo' := 0) (hi' := w4.heap.size) (Nat.zero_le _) (Nat.le_refl _))
    have F4 := Lib.hid (F2.out.then f4)
    have HB4 := Lib.hid (f4.at_ HB2.out (fun x => x))
    have hsm := same_calls D C b b d cc 0 w4.heap.size 0 w4.heap.size w4 (HB.out.step F4.out) C4.out (by omega) (by omega)
    rw [show (b == b) = true by simp] at hsm
    have HSM := Lib.hid hsm
    clear r4 f4 HPUT X2 BX2 F2 HB2 hsm
    go_wp2_with (fail)
    refine HSM.out.mono ?_
    rintro e w5 ⟨rfl, n5, rfl⟩
    have F5 := Lib.hid (F4.out.drewN n5)
    have HB5 := Lib.hid (show (w4.drewN n5).heap[w.heap.size]? = _ from HB4.out)
    clear HSM C4 F4 HB4
    generalize w4.drewN n5 = w5 at F5 HB5 ⊢
    have hq0 := (cfg_cells HB5.out).1
    have hq1 := (cfg_cells HB5.out).2
    by_cases hck : chk v ms = 0
    · have HZL := Lib.hid (show (ensB v ms).length ≤ 400 by have h1 := putE_len v ms; unfold putE at h1; rw [if_pos hck] at h1; exact h1)
      have HPO := fun W (f : Fr NoB w W) => put_own v A ms c 0 w.heap.size W (HM.out.fr f (Nat.le_refl _) (fun _ _ _ x => x)) f.size hl hck
      have hcut := fun q (hq : q < (ensB v ms).length) => getV_none (get_cut hck hq)
      generalize ensB v ms = Z at HPO HZL hcut
      have HPO := Lib.hid HPO
      have HCUT := Lib.hid hcut
      clear hck hcut
      go_wp2_with (fail)
      clear hq0 hq1
      refine (HPO.out _ F5.out).mono ?_
      rintro e y1 ⟨P, pc, rfl, o1, g1⟩
      have P1 := Lib.hid o1
      have G1 := Lib.hid (F5.out.then g1)
      have BB1 := Lib.hid (g1.at_ HB5.out (fun x => x))
      have hs1 := Nat.le_trans F5.out.size g1.size
      clear o1 g1
      have hq0 := (cfg_cells BB1.out).1
      have hq1 := (cfg_cells BB1.out).2
      go_wp2_with (fail)
      clear hq0 hq1
      refine (HPO.out _ G1.out).mono ?_
      rintro e y2 ⟨Q, qc, rfl, o2, g2⟩
      have Q2 := Lib.hid o2
      have P2 := Lib.hid (own_keep P1.out fun g hg => g2.block g (P1.out.lt g hg).2 (fun x => x))
      have G2 := Lib.hid (G1.out.then g2)
      have HPQ := Lib.hid (fun g (hg : (Value.slice P Z.length pc).ownBlock = some g) (hq : (Value.slice Q Z.length qc).ownBlock = some g) => Nat.lt_irrefl g (Nat.lt_of_lt_of_le (P1.out.lt g hg).2 (Q2.out.lt g hq).1))
      have HPB := Lib.hid (show ∀ g, (Value.slice P Z.length pc).ownBlock = some g → w.heap.size ≤ g from fun g hg => Nat.le_trans F5.out.size (P1.out.lt g hg).1)
      have HQB := Lib.hid (show ∀ g, (Value.slice Q Z.length qc).ownBlock = some g → w.heap.size ≤ g from fun g hg => Nat.le_trans G1.out.size (Q2.out.lt g hg).1)
      obtain ⟨_, _, hpe, hpn, hpm⟩ := own_form4 P2.out
      cases hpe
      unfold maxLen at hpm
      have hpi : (Z.length : Int) ≤ (pc : Int) := by omega
      clear o2 g2 P1 HPO hs1
      go_wp2
      go_loopw [13, 14, 15] (fun s13 _ _ wr => ∃ k : Nat, k ≤ Z.length ∧ s13 = .int .i64 (k : Int) ∧ Fr NoB y2 wr) (fun s13 _ _ _ => Z.length - (intOf s13).toNat)
      case atStart => exact ⟨0, Nat.zero_le _, rfl, Fr.refl NoB y2⟩
      case round =>
        obtain ⟨k, hk, rfl, hf⟩ := hrel
        have FL := Lib.hid hf
        clear hf
        by_cases hlt : k < Z.length
        · have hki : (k : Int) < (Z.length : Int) := by omega
          have hki2 : (k : Int) ≤ (pc : Int) := by omega
          have hkp : k ≤ pc := by omega
          have hge := get_any2 P (Z.take k) pc 0 wr.heap.size wr (((own_rd P2.out).wide (Nat.zero_le _) (Nat.le_refl _)).take.step FL.out) (Nat.le_refl _) (by rw [List.length_take]; have := HZL.out; omega)
          rw [HCUT.out k hlt, show (Z.take k).length = k by rw [List.length_take]; omega] at hge
          have HGE := Lib.hid hge
          clear hge
          go_wp2_with (fail)
          refine HGE.out.mono ?_
          rintro e y3 ⟨A3, c3, rfl, -, f3⟩
          have F3 := Lib.hid ((FL.out.then f3).alloc (.cells #[.int .i64 0, .slice A3 0 c3] 25))
          clear f3 HGE
          go_wp2
          go_roundw
          case rel => exact ⟨k + 1, by omega, by go_num, F3.out⟩
          case measure => simp [intOf]; omega
        · obtain rfl : k = Z.length := by omega
          clear hlt hk
          have hfa := FL.out.alloc (.cells #[.slice P Z.length pc, .slice Q Z.length qc] 37)
          have hcell := heap_alloc_new wr (.cells #[.slice P Z.length pc, .slice Q Z.length qc] 37)
          have hap := apartb_calls (some ⟨wr.heap.size, 0, none⟩) 2 2 w.heap.size (fun k => if k = 0 then .slice P Z.length pc else .slice Q Z.length qc) (fun _ => Z.length) (fun _ => Z) (wr.alloc (.cells #[.slice P Z.length pc, .slice Q Z.length qc] 37))
            ⟨_, 0, rfl, by simp, fun k hk => by
              rcases (show k = 0 ∨ k = 1 by omega) with rfl | rfl
              · exact Lib.cell_of_heap hcell 0
              · exact Lib.cell_of_heap hcell 1⟩
            (fun k hk => by
              rcases (show k = 0 ∨ k = 1 by omega) with rfl | rfl
              · exact own_keep (own_base P2.out F5.out.size) fun g hg => hfa.block g (P2.out.lt g hg).2 (fun x => x)
              · exact own_keep (own_base Q2.out G1.out.size) fun g hg => hfa.block g (Q2.out.lt g hg).2 (fun x => x))
            (fun i j hi hj hij g hg hg2 => by
              rcases (show i = 0 ∨ i = 1 by omega) with rfl | rfl
              · rcases (show j = 0 ∨ j = 1 by omega) with rfl | rfl
                · exact hij rfl
                · exact HPQ.out g hg hg2
              · rcases (show j = 0 ∨ j = 1 by omega) with rfl | rfl
                · exact HPQ.out g hg2 hg
                · exact hij rfl)
            (Nat.le_trans G2.out.size hfa.size) (by decide) (by decide) (fun _ _ => by have := HZL.out; omega)
          have HAP := Lib.hid hap
          have FA := Lib.hid (G2.out.then hfa)
          clear hap hfa hcell
          go_wp2_with (fail)
          refine HAP.out.mono ?_
          rintro e y4 ⟨rfl, f4⟩
          have F4 := Lib.hid (FA.out.upE f4 (fun g hg => by
            obtain ⟨k, hk, hx⟩ := hg
            rcases (show k = 0 ∨ k = 1 by omega) with rfl | rfl
            · exact HPB.out g hx
            · exact HQB.out g hx))
          clear f4 HAP
          go_wp2
          go_ret
          exact ⟨rfl, F4.out⟩
    · have HPO := Lib.hid (fun W (f : Fr NoB w W) => put_bad v A ms c 0 w.heap.size W (HM.out.fr f (Nat.le_refl _) (fun _ _ _ x => x)) f.size hl hck)
      have hckb : (chk v ms != 0) = true := by simp [hck]
      clear hck
      go_wp2_with (fail)
      clear hq0 hq1
      refine (HPO.out _ F5.out).mono ?_
      rintro e y1 ⟨rfl, g1⟩
      have G1 := Lib.hid (F5.out.then g1)
      have BB1 := Lib.hid (g1.at_ HB5.out (fun x => x))
      clear g1
      have hq0 := (cfg_cells BB1.out).1
      have hq1 := (cfg_cells BB1.out).2
      go_wp2_with (fail)
      clear hq0 hq1
      refine (HPO.out _ G1.out).mono ?_
      rintro e y2 ⟨rfl, g2⟩
      have G2 := Lib.hid (G1.out.then g2)
      clear g2 HPO
      go_wp2
      go_ret
      exact ⟨rfl, G2.out⟩
  · have hz1b : (z1 == 0) = false := by simp [hz1]
    clear hz1 BX2
    generalize hw3 : w2.alloc (.cells #[.int .i64 v1, .slice X m1.length xc] 25) = w3 at X2 F2 HB2
    have hq0 := (cfg_cells HB2.out).1
    have hq1 := (cfg_cells HB2.out).2
    by_cases hck : chk v ms = 0
    · have HZL := Lib.hid (show (ensB v ms).length ≤ 400 by have h1 := putE_len v ms; unfold putE at h1; rw [if_pos hck] at h1; exact h1)
      have HPO := fun W (f : Fr NoB w W) => put_own v A ms c 0 w.heap.size W (HM.out.fr f (Nat.le_refl _) (fun _ _ _ x => x)) f.size hl hck
      have hcut := fun q (hq : q < (ensB v ms).length) => getV_none (get_cut hck hq)
      generalize ensB v ms = Z at HPO HZL hcut
      have HPO := Lib.hid HPO
      have HCUT := Lib.hid hcut
      clear hck hcut
      go_wp2_with (fail)
      clear hq0 hq1
      refine (HPO.out _ F2.out).mono ?_
      rintro e y1 ⟨P, pc, rfl, o1, g1⟩
      have P1 := Lib.hid o1
      have G1 := Lib.hid (F2.out.then g1)
      have BB1 := Lib.hid (g1.at_ HB2.out (fun x => x))
      have hs1 := Nat.le_trans F2.out.size g1.size
      clear o1 g1
      have hq0 := (cfg_cells BB1.out).1
      have hq1 := (cfg_cells BB1.out).2
      go_wp2_with (fail)
      clear hq0 hq1
      refine (HPO.out _ G1.out).mono ?_
      rintro e y2 ⟨Q, qc, rfl, o2, g2⟩
      have Q2 := Lib.hid o2
      have P2 := Lib.hid (own_keep P1.out fun g hg => g2.block g (P1.out.lt g hg).2 (fun x => x))
      have G2 := Lib.hid (G1.out.then g2)
      have HPQ := Lib.hid (fun g (hg : (Value.slice P Z.length pc).ownBlock = some g) (hq : (Value.slice Q Z.length qc).ownBlock = some g) => Nat.lt_irrefl g (Nat.lt_of_lt_of_le (P1.out.lt g hg).2 (Q2.out.lt g hq).1))
      have HPB := Lib.hid (show ∀ g, (Value.slice P Z.length pc).ownBlock = some g → w.heap.size ≤ g from fun g hg => Nat.le_trans F2.out.size (P1.out.lt g hg).1)
      have HQB := Lib.hid (show ∀ g, (Value.slice Q Z.length qc).ownBlock = some g → w.heap.size ≤ g from fun g hg => Nat.le_trans G1.out.size (Q2.out.lt g hg).1)
      obtain ⟨_, _, hpe, hpn, hpm⟩ := own_form4 P2.out
      cases hpe
      unfold maxLen at hpm
      have hpi : (Z.length : Int) ≤ (pc : Int) := by omega
      clear o2 g2 P1 HPO hs1
      go_wp2
      go_loopw [13, 14, 15] (fun s13 _ _ wr => ∃ k : Nat, k ≤ Z.length ∧ s13 = .int .i64 (k : Int) ∧ Fr NoB y2 wr) (fun s13 _ _ _ => Z.length - (intOf s13).toNat)
      case atStart => exact ⟨0, Nat.zero_le _, rfl, Fr.refl NoB y2⟩
      case round =>
        obtain ⟨k, hk, rfl, hf⟩ := hrel
        have FL := Lib.hid hf
        clear hf
        by_cases hlt : k < Z.length
        · have hki : (k : Int) < (Z.length : Int) := by omega
          have hki2 : (k : Int) ≤ (pc : Int) := by omega
          have hkp : k ≤ pc := by omega
          have hge := get_any2 P (Z.take k) pc 0 wr.heap.size wr (((own_rd P2.out).wide (Nat.zero_le _) (Nat.le_refl _)).take.step FL.out) (Nat.le_refl _) (by rw [List.length_take]; have := HZL.out; omega)
          rw [HCUT.out k hlt, show (Z.take k).length = k by rw [List.length_take]; omega] at hge
          have HGE := Lib.hid hge
          clear hge
          go_wp2_with (fail)
          refine HGE.out.mono ?_
          rintro e y3 ⟨A3, c3, rfl, -, f3⟩
          have F3 := Lib.hid ((FL.out.then f3).alloc (.cells #[.int .i64 0, .slice A3 0 c3] 25))
          clear f3 HGE
          go_wp2
          go_roundw
          case rel => exact ⟨k + 1, by omega, by go_num, F3.out⟩
          case measure => simp [intOf]; omega
        · obtain rfl : k = Z.length := by omega
          clear hlt hk
          have hfa := FL.out.alloc (.cells #[.slice P Z.length pc, .slice Q Z.length qc] 37)
          have hcell := heap_alloc_new wr (.cells #[.slice P Z.length pc, .slice Q Z.length qc] 37)
          have hap := apartb_calls (some ⟨wr.heap.size, 0, none⟩) 2 2 w.heap.size (fun k => if k = 0 then .slice P Z.length pc else .slice Q Z.length qc) (fun _ => Z.length) (fun _ => Z) (wr.alloc (.cells #[.slice P Z.length pc, .slice Q Z.length qc] 37))
            ⟨_, 0, rfl, by simp, fun k hk => by
              rcases (show k = 0 ∨ k = 1 by omega) with rfl | rfl
              · exact Lib.cell_of_heap hcell 0
              · exact Lib.cell_of_heap hcell 1⟩
            (fun k hk => by
              rcases (show k = 0 ∨ k = 1 by omega) with rfl | rfl
              · exact own_keep (own_base P2.out F2.out.size) fun g hg => hfa.block g (P2.out.lt g hg).2 (fun x => x)
              · exact own_keep (own_base Q2.out G1.out.size) fun g hg => hfa.block g (Q2.out.lt g hg).2 (fun x => x))
            (fun i j hi hj hij g hg hg2 => by
              rcases (show i = 0 ∨ i = 1 by omega) with rfl | rfl
              · rcases (show j = 0 ∨ j = 1 by omega) with rfl | rfl
                · exact hij rfl
                · exact HPQ.out g hg hg2
              · rcases (show j = 0 ∨ j = 1 by omega) with rfl | rfl
                · exact HPQ.out g hg2 hg
                · exact hij rfl)
            (Nat.le_trans G2.out.size hfa.size) (by decide) (by decide) (fun _ _ => by have := HZL.out; omega)
          have HAP := Lib.hid hap
          have FA := Lib.hid (G2.out.then hfa)
          clear hap hfa hcell
          go_wp2_with (fail)
          refine HAP.out.mono ?_
          rintro e y4 ⟨rfl, f4⟩
          have F4 := Lib.hid (FA.out.upE f4 (fun g hg => by
            obtain ⟨k, hk, hx⟩ := hg
            rcases (show k = 0 ∨ k = 1 by omega) with rfl | rfl
            · exact HPB.out g hx
            · exact HQB.out g hx))
          clear f4 HAP
          go_wp2
          go_ret
          exact ⟨rfl, F4.out⟩
    · have HPO := Lib.hid (fun W (f : Fr NoB w W) => put_bad v A ms c 0 w.heap.size W (HM.out.fr f (Nat.le_refl _) (fun _ _ _ x => x)) f.size hl hck)
      have hckb : (chk v ms != 0) = true := by simp [hck]
      clear hck
      go_wp2_with (fail)
      clear hq0 hq1
      refine (HPO.out _ F2.out).mono ?_
      rintro e y1 ⟨rfl, g1⟩
      have G1 := Lib.hid (F2.out.then g1)
      have BB1 := Lib.hid (g1.at_ HB2.out (fun x => x))
      clear g1
      have hq0 := (cfg_cells BB1.out).1
      have hq1 := (cfg_cells BB1.out).2
      go_wp2_with (fail)
      clear hq0 hq1
      refine (HPO.out _ G1.out).mono ?_
      rintro e y2 ⟨rfl, g2⟩
      have G2 := Lib.hid (G1.out.then g2)
      clear g2 HPO
      go_wp2
      go_ret
      exact ⟨rfl, G2.out⟩

end Go.Proofs.YtbgpgaekckfjlaaDoor
