/-
  Ovr: LentBytes's row is the call's own; OverBytes.
-/
import Derived.Test.YtmgkenbfjlahpaaLnb
import Derived.Test.YtmgkenbfjlahpaaApt
namespace Go.Proofs.Ytmgkenbfjlahpaa
open Go.RowKit

set_option maxRecDepth 4000 in
set_option maxHeartbeats 3200000 in
theorem lentb_own (A : Option Addr) (l : List UInt8) (c lo hi : Nat) (w : World) (h : Rd w lo hi A l) (hh : hi ≤ w.heap.size) (hl : l.length ≤ 140737488351232) :
    Calls Try.prog 10 #[.slice A l.length c] w fun e w' => ∃ A' c', e = .returned (.slice A' l.length c') ∧ l.length + 12 ≤ c' ∧ c' ≤ maxLen ∧ w'.ownsRow w.heap.size 5 1 (.slice A' (l.length + 12) c') (l.length + 12) (bv (l ++ mksB 12)) ∧ Fr NoB w w' := by
  have hll : (l.length : Int) ≤ 140737488351232 := by omega
  obtain ⟨i0, hi0, hz0, hz1, hz2⟩ := info_parts info_byte
  obtain ⟨wa, hmk, hown, hgr⟩ := run_make_own (P := Try.prog) (w := w) w.heap.size 22 5 i0 (.int .u8 0) 1 Try.underlying22 hi0 hz0 hz1 .i64 .i64 (l.length + 12) (by rw [hz2]; omega) (by unfold maxLen; omega) (Nat.le_refl _)
  rw [show ((l.length + 12 : Nat) : Int) = (l.length : Int) + 12 by omega] at hmk
  have O1 : Ow w wa 5 1 (.slice (some ⟨w.heap.size, 0, none⟩) 0 (l.length + 12)) 0 (bv []) := ⟨Fr.ofGrown hgr (fun _ _ hx => by cases hx), hown⟩
  generalize (Value.slice (some ⟨w.heap.size, 0, none⟩) 0 (l.length + 12)) = V0 at hmk O1
  have H1 := Lib.hid (h.fr O1.fr hh (fun _ _ _ x => x))
  have HO := Lib.hid O1
  have HC := Lib.hid (fun (k : Nat) (hk : k ≤ 12) W => markb_calls k hk W)
  clear h hown hgr O1
  go_enter Try.func10, Try.ntmps10
  go_wp2_with (at_builtin; go_loud (refine wpList_append_src _ rfl _ _ 22 rfl w.heap.size 5 i0 (.int .u8 0) 1 1 Try.underlying22 hi0 hz0 hz1 hz2 rfl (by decide) V0 0 (bv []) rfl HO.out.own A l.length c (bv l) rfl (by rw [bv_length, Nat.mul_one]) H1.out.srcs (bv_one l) (by unfold maxLen; omega) (by omega) HO.out.fr.size ?_))
  intro V1 w1 hA1
  have o2 : Ow w w1 5 1 V1 l.length (bv l) := by have h := HO.out.push0 hA1; simpa using h
  have HO2 := Lib.hid o2
  clear hA1 o2 HO H1 hmk
  go_wp2
  go_loopw [3, 4] (fun out i wr => ∃ (k : Nat) (V : Value), k ≤ 12 ∧ i = .int .i64 (k : Int) ∧ V = out ∧ Ow w wr 5 1 V (l.length + k) (bv (l ++ mksB k))) (fun _ i _ => 12 - (intOf i).toNat)
  case atStart => exact ⟨0, V1, by omega, rfl, rfl, by simpa [mksB] using HO2.out⟩
  case round =>
    obtain ⟨k, V, hk, rfl, rfl, ho⟩ := hrel
    have HK := Lib.hid ho
    clear ho HO2
    by_cases hlt : k < 12
    · have hki : (k : Int) < 12 := by omega
      go_wp2_with (fail)
      refine (HC.out k (by omega) _).mono ?_
      rintro e w2 ⟨rfl, f2⟩
      have K2 := Lib.hid (HK.out.keep f2)
      clear f2 HK
      have hsrc : ∀ (t : TypeId) (j : Nat) (u : Value), (bv [mkB k])[j]? = some u → (w2.alloc (.cells #[.int .u8 ((mkB k).toNat : Int)] t)).cell? ((⟨w2.heap.size, 0, none⟩ : Addr).add j) = some u := fun t j u hj => by
        obtain ⟨ad, g1, g2⟩ := src_block w2 #[.int .u8 ((mkB k).toNat : Int)] t (bv [mkB k]) rfl
        cases g1
        exact g2 j u hj
      have HSRC := Lib.hid hsrc
      clear hsrc
      go_wp2_with (at_builtin; go_loud (refine wpList_append_src _ rfl _ _ 22 rfl w.heap.size 5 i0 (.int .u8 0) 1 1 Try.underlying22 hi0 hz0 hz1 hz2 rfl (by decide) V (l.length + k) (bv (l ++ mksB k)) rfl (K2.out.own.alloc _) _ 1 _ (bv [mkB k]) rfl rfl (fun _ => ⟨_, rfl, HSRC.out _⟩) (bv_one _) (by unfold maxLen; omega) (by omega) (by have := K2.out.fr.size; simp; omega) ?_))
      intro V3 w3 hA3
      have o3 : Ow w w3 5 1 V3 (l.length + (k + 1)) (bv (l ++ mksB (k + 1))) := by
        have h := K2.out.push hA3
        rw [mksB_succ, bv_append, bv_append]
        exact h
      have HO3 := Lib.hid o3
      clear hA3 o3 HSRC K2
      go_wp2
      go_roundw
      case rel => exact ⟨k + 1, V3, by omega, by go_num, rfl, HO3.out⟩
      case measure => simp [intOf]; omega
    · obtain rfl : k = 12 := by omega
      have ho := HK.out
      obtain ⟨AV, cV, hVe, hl1, hl2⟩ := own_form4 ho.own
      subst hVe
      have HRR := Lib.hid ho.own
      have HF := Lib.hid ho.fr
      have hl3 : l.length ≤ cV := by omega
      unfold maxLen at hl2
      clear ho HK hlt hk
      go_wp2
      go_ret
      exact ⟨AV, cV, rfl, hl1, by unfold maxLen; omega, HRR.out, HF.out⟩

set_option maxRecDepth 4000 in
set_option maxHeartbeats 3200000 in
theorem overb_calls (B n c : Nat) (A : Option Addr) (xs : List Value) (w : World) (h : w.ownsRow B 5 1 (.slice A (n + 12) c) (n + 12) xs) (hl : n ≤ 140737488351232) (hc : n + 12 ≤ c) (hcm : c ≤ maxLen) :
    Calls Try.prog 14 #[.slice A n c] w fun e w' => e = .returned (.tuple #[]) ∧ Fr (fun g => (Value.slice A (n + 12) c).ownBlock = some g) w w' := by
  have hll : (n : Int) ≤ 140737488351232 := by omega
  have hci : (n : Int) + 12 ≤ (c : Int) := by omega
  obtain ⟨g, cap, hv, hgb, -⟩ := h.form (by omega)
  cases hv
  have HO := Lib.hid h
  have HM := Lib.hid (fun (i : Nat) (hi : i ≤ 281474976710656) W => markb2_calls 2 i (by decide) hi W)
  unfold maxLen at hcm
  clear h
  go_enter Try.func14, Try.ntmps14
  go_wp2
  go_loopw [3] (fun s3 wr => ∃ (i : Nat) (ys : List Value), i ≤ n + 12 ∧ s3 = .int .i64 (i : Int) ∧ wr.ownsRow B 5 1 (.slice (some ⟨g, 0, none⟩) (n + 12) c) (n + 12) ys ∧ Fr (fun k => (Value.slice (some ⟨g, 0, none⟩) (n + 12) c).ownBlock = some k) w wr) (fun s3 _ => n + 12 - (intOf s3).toNat)
  case atStart => exact ⟨0, xs, Nat.zero_le _, rfl, HO.out, Fr.refl _ w⟩
  case round =>
    obtain ⟨i, ys, hi, rfl, ho, hf⟩ := hrel
    have OX := Lib.hid ho
    have FX := Lib.hid hf
    clear ho hf HO
    by_cases hlt : i < n + 12
    · have hii : (i : Int) < (n : Int) + 12 := by omega
      have hm : ∀ W, Calls Try.prog 32 #[.int .i64 2, .int .i64 (i : Int)] W fun e w' => e = .returned (.int .u8 ((mb 2 i).toNat : Int)) ∧ Fr NoB W w' := fun W => HM.out i (by omega) W
      have HMI := Lib.hid hm
      clear hm
      go_wp2_with (fail)
      refine (HMI.out _).mono ?_
      rintro e w2 ⟨rfl, f2⟩
      have O2 := Lib.hid (own_keep OX.out fun b hb => f2.block b (OX.out.lt b hb).2 (fun x => x))
      have hyl : i < ys.length := by have := OX.out.1; omega
      have hcc := own_cell (i := i) O2.out (List.getElem?_eq_getElem hyl)
      have h1 := hcc.1
      have h2 := hcc.2
      have O3 := Lib.hid (own_set (i := i) (u := .int .u8 ((mb 2 i).toNat : Int)) O2.out)
      have F3 := Lib.hid ((FX.out.then f2.no).setCell (p := ⟨g, i, none⟩) (fun _ => rfl) (.int .u8 ((mb 2 i).toNat : Int)))
      clear f2 hcc O2 OX FX HMI
      generalize ys[i] = y at h1
      go_wp2
      go_roundw
      case rel => exact ⟨i + 1, _, by omega, by go_num, O3.out, F3.out⟩
      case measure => simp [intOf]; omega
    · obtain rfl : i = n + 12 := by omega
      clear hlt hi
      go_wp2
      go_end0
      exact ⟨rfl, FX.out⟩

end Go.Proofs.Ytmgkenbfjlahpaa
