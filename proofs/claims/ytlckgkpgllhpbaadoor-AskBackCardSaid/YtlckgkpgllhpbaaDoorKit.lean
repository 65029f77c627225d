/-
  Kit: beadlekit's SameBytes, CopyBytes, Pick.
-/
import Derived.Test.YtlckgkpgllhpbaaDoorBase
import Derived.Test.YtlckgkpgllhpbaaDoorRows
namespace Go.Proofs.YtlckgkpgllhpbaaDoor
open Go.RowKit

set_option maxHeartbeats 800000 in
theorem same_calls (A A' : Option Addr) (l l' : List UInt8) (c c' lo hi lo' hi' : Nat) (w : World) (h : Rd w lo hi A l) (h' : Rd w lo' hi' A' l') (hl : l.length ≤ 140737488355328) (hl' : l'.length ≤ 140737488355328) :
    Calls Tryd.prog 13 #[.slice A l.length c, .slice A' l'.length c'] w fun e w' => e = .returned (.bool (l == l')) ∧ ∃ n, w' = w.drewN n := by
  by_cases hne : l.length = l'.length
  · go_enter Tryd.func13, Tryd.ntmps13
    have HE := Lib.hid hne
    have hb : ((l.length : Int) != (l'.length : Int)) = false := by simp [hne]
    clear hne
    go_wp2
    clear hb
    go_loopw [4, 5] (fun r i wr => r = .bool false ∧ ∃ k : Nat, k ≤ l.length ∧ i = .int .i64 (k : Int) ∧ l.take k = l'.take k ∧ ∃ n, wr = w.drewN n) (fun _ i _ => l.length - (intOf i).toNat)
    case atStart => exact ⟨rfl, 0, Nat.zero_le _, rfl, by simp, 0, rfl⟩
    case round =>
      obtain ⟨rfl, k, hk, rfl, htk, n, rfl⟩ := hrel
      have HT := Lib.hid htk
      clear htk
      by_cases hlt : k < l.length
      · have hlt' : k < l'.length := by rw [← HE.out]; exact hlt
        obtain ⟨b, o, rfl, -, -, h0⟩ := h (by omega)
        obtain ⟨b', o', rfl, -, -, h0'⟩ := h' (by omega)
        have hc := h0 k hlt
        have hc' := h0' k hlt'
        have HG := Lib.hid (show l.getD k 0 = l[k] by simp [List.getD, hlt])
        have HG' := Lib.hid (show l'.getD k 0 = l'[k] by simp [List.getD, hlt'])
        clear h h' h0 h0'
        generalize l.getD k 0 = x at hc HG
        generalize l'.getD k 0 = y at hc' HG'
        have hi1 : ((k : Int) < (l.length : Int)) := by omega
        have hi2 : ((k : Int) < (l'.length : Int)) := by omega
        by_cases hxy : x = y
        · have hbn : ((x.toNat : Int) != (y.toNat : Int)) = false := by simp [hxy]
          have HX := Lib.hid hxy
          clear hxy
          go_wp2
          go_quiet (fail)
          go_wp2
          go_roundw
          case rel =>
            refine ⟨rfl, k + 1, by omega, by go_num, ?_, n + nq, by simp⟩
            rw [List.take_succ_eq_append_getElem hlt, List.take_succ_eq_append_getElem hlt', HT.out, ← HG.out, ← HG'.out, HX.out]
          case measure => simp [intOf]; omega
        · have hbn : ((x.toNat : Int) != (y.toNat : Int)) = true := by
            rw [bne_iff_ne]
            intro e
            exact hxy (UInt8.toNat_inj.1 (by omega))
          have hres : (l == l') = false := by
            rw [beq_eq_false_iff_ne]
            rintro rfl
            exact hxy (by rw [HG.out, HG'.out])
          have HR := Lib.hid hres
          clear hxy hres
          go_wp2
          go_quiet (fail)
          go_wp2
          go_ret
          exact ⟨by rw [HR.out]; rfl, n + nq, by simp⟩
      · have hres : (l == l') = true := by
          rw [beq_iff_eq]
          have := HT.out
          rwa [List.take_of_length_le (by omega), List.take_of_length_le (by have := HE.out; omega)] at this
        have HR := Lib.hid hres
        clear hres h h'
        go_wp2
        go_ret
        exact ⟨by rw [HR.out]; rfl, n, rfl⟩
  · have hb : ((l.length : Int) != (l'.length : Int)) = true := by rw [bne_iff_ne]; omega
    have hres : (l == l') = false := by
      rw [beq_eq_false_iff_ne]
      rintro rfl
      exact hne rfl
    have HR := Lib.hid hres
    clear hres h h' hne
    go_enter Tryd.func13, Tryd.ntmps13
    go_wp2
    go_ret
    exact ⟨by rw [HR.out]; rfl, 0, rfl⟩

theorem info_byte : (Tryd.prog.info? 5).map (fun i => (i.zero, i.size, i.bytes)) = some (some (.int .u8 0), 1, 1) := by kernel_rfl

set_option maxHeartbeats 400000 in
theorem copy_calls (A : Option Addr) (l : List UInt8) (c lo hi : Nat) (w : World) (h : Rd w lo hi A l) (hl : l.length ≤ 140737488355328) :
    Calls Tryd.prog 21 #[.slice A l.length c] w fun e w' => ∃ v, e = .returned v ∧ w'.ownsRow w.heap.size 5 1 v l.length (bv l) ∧ Below w.heap.size w w' := by
  obtain ⟨i0, hi0, hz0, hz1, hz2⟩ := info_parts info_byte
  go_enter Tryd.func21, Tryd.ntmps21
  go_wp2_with (at_builtin; refine wpList_append_src _ rfl _ _ 23 rfl w.heap.size 5 i0 (.int .u8 0) 1 1 Tryd.underlying23 hi0 hz0 hz1 hz2 rfl (by decide) (.slice none 0 0) 0 [] rfl (World.ownsRow_nil _ _ _ _) A l.length c (bv l) rfl (by simp) h.srcs (bv_one l) (by unfold maxLen; omega) (by omega) (Nat.le_refl _) ?_)
  intro v' w' hA
  have h1 := hA.own
  have h2 : Fr NoB w w' := hA.fr.mono fun _ _ h => by simp [Value.ownBlock] at h
  clear hA
  obtain ⟨A2, c2, rfl, _, _⟩ := own_form h1
  go_wp2
  go_ret
  exact ⟨_, rfl, h1, h2.toBelow'⟩

theorem tmod_pos {x n : Int} (hn : 0 < n) (h : 0 ≤ x.tmod n) : x.tmod n = x % n := by
  rw [Int.tmod_eq_emod] at h ⊢
  split
  · omega
  · rename_i hc
    rw [if_neg hc] at h
    have := Int.emod_lt_of_pos x hn
    omega
theorem tmod_neg {x n : Int} (hn : 0 < n) (h : x.tmod n < 0) : x.tmod n + n = x % n := by
  rw [Int.tmod_eq_emod] at h ⊢
  have := Int.emod_nonneg x (by omega : n ≠ 0)
  split
  · rename_i hc; rw [if_pos hc] at h; omega
  · omega

set_option maxHeartbeats 400000 in
theorem pick_calls (x n : Int) (w : World) (hn : 0 < n) (hn2 : n ≤ 9223372036854775807) :
    Calls Tryd.prog 20 #[.int .i64 x, .int .i64 n] w fun e w' => e = .returned (.int .i64 (x % n)) ∧ w = w' := by
  have h1 := Int.emod_nonneg x (by omega : n ≠ 0)
  have h2 := Int.emod_lt_of_pos x hn
  have H1 := Lib.hid h1
  have H2 := Lib.hid h2
  clear h1 h2
  go_enter Tryd.func20, Tryd.ntmps20
  go_wp2
  all_goals go_ret
  all_goals have h1 := H1.out
  all_goals have h2 := H2.out
  · refine ⟨ret_int ?_, rfl⟩
    have := tmod_neg hn (by assumption)
    rw [this]; unfold wrap64; omega
  · exact ⟨ret_int (tmod_pos hn (by assumption)), rfl⟩

end Go.Proofs.YtlckgkpgllhpbaaDoor
