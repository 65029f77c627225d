/-
  Enl: EnsembleQuorums's walk.
-/
import Derived.Test.YtbgpgaekckfjlaaDoorLne
namespace Go.Proofs.YtbgpgaekckfjlaaDoor
open Go.RowKit

set_option maxRecDepth 8000 in
set_option maxHeartbeats 6400000 in
theorem quorums_walk (A D : Option Addr) (l : List Cfg) (ids : List Int) (c d : Nat) (w : World) (h : RdE w 0 w.heap.size A l) (hl : l.length ≤ 140737488355328) (hm : ∀ e ∈ l, e.2.length ≤ 4398046510976) (h' : RdI w 0 w.heap.size D ids) (hl' : ids.length ≤ 140737488355328) :
    Calls Tryd.prog 8 #[.slice A l.length c, .slice D ids.length d] w fun e w' => e = .returned (.bool true) ∧ Fr NoB w w' := by
  have hll : (l.length : Int) ≤ 140737488355328 := by omega
  have hli : (ids.length : Int) ≤ 140737488355328 := by omega
  have HA := Lib.hid h
  have HD := Lib.hid h'
  have HMM := Lib.hid hm
  clear h h' hm
  go_enter Tryd.func8, Tryd.ntmps8
  go_wp2_with (fail)
  refine (awake_calls _).mono ?_
  rintro e w1 ⟨rfl, f1⟩
  have F1 := Lib.hid f1
  clear f1
  by_cases h50 : 50 < l.length
  · have hi : (50 : Int) < (l.length : Int) := by omega
    clear h50
    go_wp2
    go_ret
    exact ⟨rfl, F1.out⟩
  · have hi : (l.length : Int) ≤ 50 := by omega
    by_cases h1k : 1000 < ids.length
    · have hi2 : (1000 : Int) < (ids.length : Int) := by omega
      clear h50 h1k
      go_wp2
      go_ret
      exact ⟨rfl, F1.out⟩
    · have hi2 : (ids.length : Int) ≤ 1000 := by omega
      clear h50 h1k
      go_wp2_with (fail)
      refine (lentes_calls A l c 0 w.heap.size w1 (HA.out.fr F1.out (Nat.le_refl _) (fun _ _ _ x => x)) F1.out.size (by omega) HMM.out).mono ?_
      rintro e w2 ⟨A2, rfl, r2, f2⟩
      have R2 := Lib.hid r2
      have F2 := Lib.hid (F1.out.then f2)
      clear r2 f2
      go_wp2_with (fail)
      refine (lenti_calls D ids d 0 w.heap.size w2 (HD.out.fr F2.out (Nat.le_refl _) (fun _ _ _ x => x)) F2.out.size (by omega)).mono ?_
      rintro e w3 ⟨D2, d2, rfl, hd2, -, r3, f3⟩
      have R3 := Lib.hid r3
      have F3 := Lib.hid (F2.out.then f3)
      have RA := Lib.hid (R2.out.fr f3 (Nat.le_refl _))
      have HSZ := Lib.hid f3.size
      clear r3 f3 F2 R2
      have hd2i : (ids.length : Int) + 12 ≤ (d2 : Int) := by omega
      go_wp2
      go_loopw [4, 7] (fun r i wr => r = .bool false ∧ ∃ k : Nat, k ≤ l.length ∧ i = .int .i64 (k : Int) ∧ Fr NoB w3 wr) (fun _ i _ => l.length - (intOf i).toNat)
      case atStart => exact ⟨rfl, 0, Nat.zero_le _, rfl, Fr.refl NoB w3⟩
      case round =>
        obtain ⟨rfl, k, hk, rfl, hf⟩ := hrel
        have FR := Lib.hid hf
        clear hf
        by_cases hlt : k < l.length
        · obtain ⟨b, o, rfl, hb1, hb2, h0⟩ := HA.out (by omega)
          obtain ⟨A1, c1, p0, p1, pr⟩ := h0 k l[k] (List.getElem?_eq_getElem hlt)
          obtain ⟨b', hA2, hb1', hb2', hc', -⟩ := RA.out
          subst hA2
          obtain ⟨A3, c3, q0, q1, q2, qr⟩ := hc' k l[k] (List.getElem?_eq_getElem hlt)
          have hml := HMM.out l[k] (List.getElem_mem hlt)
          clear h0 hc'
          generalize l[k] = e at p0 p1 pr q0 q1 q2 qr hml
          obtain ⟨ev, em⟩ := e
          simp only at p0 p1 pr q0 q1 q2 qr hml
          have hs3 := HSZ.out
          have HS := Lib.hid (fun W (f : Fr NoB w3 W) => (show (fun W : World => W.cell? ⟨b, o + k * 2, none⟩ = some (.int .i64 ev) ∧ W.cell? ⟨b, o + k * 2 + 1, none⟩ = some (.slice A1 em.length c1) ∧ W.cell? ⟨b', k * 2, none⟩ = some (.int .i64 ev) ∧ W.cell? ⟨b', k * 2 + 1, none⟩ = some (.slice A3 em.length c3)) W from
            ⟨((F3.out.then f).cell (p := ⟨b, o + k * 2, none⟩) (by simp only; omega) (fun x => x)).trans p0, ((F3.out.then f).cell (p := ⟨b, o + k * 2 + 1, none⟩) (by simp only; omega) (fun x => x)).trans p1, (f.cell (p := ⟨b', k * 2, none⟩) (by simp only; omega) (fun x => x)).trans q0, (f.cell (p := ⟨b', k * 2 + 1, none⟩) (by simp only; omega) (fun x => x)).trans q1⟩))
          have hqc := fun W (f : Fr NoB w3 W) => quorum_calls ev A3 em c3 w1.heap.size w2.heap.size D2 ids d2 w2.heap.size w3.heap.size W (qr.pre.fr f hs3 (fun _ _ _ x => x)) (Nat.le_trans hs3 f.size) (by omega) (R3.out.pre.fr f (Nat.le_refl _) (fun _ _ _ x => x)) f.size (by omega)
          have hrq := fun W (f : Fr NoB w3 W) => rquorum_calls ev A1 em c1 0 w.heap.size D ids d 0 w.heap.size W (pr.fr (F3.out.then f) (Nat.le_refl _) (fun _ _ _ x => x)) (F3.out.then f).size (HD.out.fr (F3.out.then f) (Nat.le_refl _) (fun _ _ _ x => x)) (F3.out.then f).size (by omega) (by omega)
          generalize quo ev em ids = q at hqc hrq
          have HQC := Lib.hid hqc
          have HRQ := Lib.hid hrq
          have hi3 : (k : Int) < (l.length : Int) := by omega
          have hi4 : (k : Int) < (l.length : Int) + 12 := by omega
          clear p0 p1 pr q0 q1 q2 qr hqc hrq hs3
          go_wp2
          go_region_held3 (fun W : World => W.cell? ⟨b, o + k * 2, none⟩ = some (.int .i64 ev) ∧ W.cell? ⟨b, o + k * 2 + 1, none⟩ = some (.slice A1 em.length c1) ∧ W.cell? ⟨b', k * 2, none⟩ = some (.int .i64 ev) ∧ W.cell? ⟨b', k * 2 + 1, none⟩ = some (.slice A3 em.length c3)) (first | exact HS.out _ FR.out.drew | assumption) (first
            | (go_at_call 26; refine (HQC.out _ FR.out.drew).mono ?_; rintro e v1 ⟨rfl, g1⟩; have K1 := Lib.hid (FR.out.drew.then g1); have y1 := HS.out _ K1.out; clear g1)
            | (go_at_call 31; refine (HRQ.out _ K1.out).mono ?_; rintro e v2 ⟨rfl, g2⟩; have K2 := Lib.hid (K1.out.then g2); have y2 := HS.out _ K2.out; clear g2))
          have hqq : (q != q) = false := by simp
          go_wp2
          go_roundw
          case rel => exact ⟨rfl, k + 1, by omega, by go_num, K2.out⟩
          case measure => simp [intOf]; omega
        · obtain rfl : k = l.length := by omega
          have hac := fun W (f : Fr NoB w3 W) => all_calls A2 l (l.length + 12) w1.heap.size w2.heap.size D2 ids d2 w2.heap.size w3.heap.size W ((RA.out.fr f HSZ.out).rde) (Nat.le_trans HSZ.out f.size) (R3.out.pre.fr f (Nat.le_refl _) (fun _ _ _ x => x)) f.size (by omega) (fun e he => Nat.le_trans (HMM.out e he) (by omega)) (by omega)
          have hrc := fun W (f : Fr NoB w3 W) => rall_calls A l c 0 w.heap.size D ids d 0 w.heap.size W (HA.out.fr (F3.out.then f) (Nat.le_refl _) (fun _ _ _ x => x)) (F3.out.then f).size (HD.out.fr (F3.out.then f) (Nat.le_refl _) (fun _ _ _ x => x)) (F3.out.then f).size (by omega) (fun e he => Nat.le_trans (HMM.out e he) (by omega)) (by omega)
          have HKE := Lib.hid (fun W (f : Fr NoB w3 W) => keptes_calls A A2 l c 0 w.heap.size w1.heap.size w2.heap.size W (RA.out.fr f HSZ.out) (Nat.le_trans HSZ.out f.size) (HA.out.fr (F3.out.then f) (Nat.le_refl _) (fun _ _ _ x => x)) (F3.out.then f).size (by omega) HMM.out)
          have HKI := Lib.hid (fun W (f : Fr NoB w3 W) => kepti_calls D D2 ids d d2 0 w.heap.size w2.heap.size w3.heap.size W (R3.out.fr f (Nat.le_refl _) (fun _ _ _ x => x)) f.size (HD.out.fr (F3.out.then f) (Nat.le_refl _) (fun _ _ _ x => x)) (F3.out.then f).size (by omega) hd2)
          generalize allQ l ids = q at hac hrc
          have HAC := Lib.hid hac
          have HRC := Lib.hid hrc
          clear hac hrc hlt hk
          go_wp2_with (fail)
          refine (HAC.out _ FR.out).mono ?_
          rintro e v1 ⟨rfl, g1⟩
          have K1 := Lib.hid (FR.out.then g1)
          clear g1
          go_wp2_with (fail)
          refine (HRC.out _ K1.out).mono ?_
          rintro e v2 ⟨rfl, g2⟩
          have K2 := Lib.hid (K1.out.then g2)
          clear g2
          have hqq : (q == q) = true := by simp
          go_wp2_with (fail)
          refine (HKE.out _ K2.out).mono ?_
          rintro e v3 ⟨rfl, g3⟩
          have K3 := Lib.hid (K2.out.then g3)
          clear g3
          go_wp2_with (fail)
          refine (HKI.out _ K3.out).mono ?_
          rintro e v4 ⟨rfl, g4⟩
          have K4 := Lib.hid (K3.out.then g4)
          clear g4
          go_wp2
          go_ret
          exact ⟨rfl, F3.out.then K4.out⟩

end Go.Proofs.YtbgpgaekckfjlaaDoor
