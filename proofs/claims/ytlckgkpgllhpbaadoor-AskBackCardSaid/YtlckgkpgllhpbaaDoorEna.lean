/-
  Ena: a config's members fit, or not; is a number in a list; are two lists of members the same.
-/

import Derived.Test.YtlckgkpgllhpbaaDoorKit
import Derived.Test.YtlckgkpgllhpbaaDoorEnp
import Derived.Test.YtlckgkpgllhpbaaDoorMem
namespace Go.Proofs.YtlckgkpgllhpbaaDoor
open Go.RowKit

/-- A member as a value. -/
def mval (m : Mem) : Value := .agg #[.int .i64 m.1, .int .u8 m.2.1, .int .i64 m.2.2.1, .int .i64 m.2.2.2]

theorem fitsM_iff (last m0 m1 m2 m3 : Int) : fitsM last (m0, m1, m2, m3) = true ↔ last < m0 ∧ m0 ≤ 7 ∧ ((m1 = 2 ∧ m2 = 0 ∧ m3 = 0) ∨ (m1 = 1 ∧ 0 ≤ m2 ∧ m2 ≤ 1000 ∧ 0 ≤ m3 ∧ m3 < 7)) := by
  unfold fitsM
  simp only
  split
  · simp only [Bool.false_eq_true, false_iff]; omega
  · split
    · rw [decide_eq_true_eq]; omega
    · rw [decide_eq_true_eq]; omega
theorem ret_bool {a b : Bool} (h : a = b) : Ending.returned (.bool a) = .returned (.bool b) := by rw [h]
set_option maxRecDepth 20000 in
theorem mem_neq (x0 x1 x2 x3 y0 y1 y2 y3 : Int) (W : World) : (binOp .neq 106 (.agg #[.int .i64 x0, .int .u8 x1, .int .i64 x2, .int .i64 x3]) (.agg #[.int .i64 y0, .int .u8 y1, .int .i64 y2, .int .i64 y3])).run Tryd.prog W = .ok (.bool (!((x0, x1, x2, x3) == (y0, y1, y2, y3)))) W := by
  obtain ⟨d, hd⟩ : ∃ d, 10000 = d + 1 + 1 + 1 := ⟨9997, rfl⟩
  rw [run_neq_struct, hd, run_equalIn_agg W _ 106 _ _ (by kernel_rfl) (by kernel_rfl)]
  have hf : (Program.fieldsOf Tryd.prog 106) = (match Tryd.prog.underlying 106 with | some (.struct fs) => fs | _ => #[]) := rfl
  rw [Tryd.underlying106] at hf
  rw [hf]
  simp [go_sem, Tryd.underlying3, Tryd.underlying104]
  have hb : ((x0, x1, x2, x3) == (y0, y1, y2, y3)) = decide (x0 = y0 ∧ x1 = y1 ∧ x2 = y2 ∧ x3 = y3) := by rw [Bool.eq_iff_iff]; simp
  rw [hb]
  by_cases h0 : x0 = y0 <;> by_cases h1 : x1 = y1 <;> by_cases h2 : x2 = y2 <;> by_cases h3 : x3 = y3 <;> simp [h0, h1, h2, h3]

set_option maxHeartbeats 1600000 in
theorem fits_calls (m0 m1 m2 m3 last : Int) (B : Nat) (w : World) (hB : B < w.heap.size) (hc : w.cell? ⟨B, 0, none⟩ = some (.int .i64 last)) :
    Calls Tryd.prog 96 #[.agg #[.int .i64 m0, .int .u8 m1, .int .i64 m2, .int .i64 m3], .pointer (some ⟨B, 0, none⟩)] w fun e w' => e = .returned (.bool (fitsM last (m0, m1, m2, m3))) ∧ Fr NoB w w' := by
  have hc2 : ∀ o, (w.alloc o).cell? ⟨B, 0, none⟩ = some (.int .i64 last) := fun o => (World.cell?_of_block (a := ⟨B, 0, none⟩) (Below.heap_alloc w o B hB)).trans hc
  clear hc
  go_enter Tryd.func96, Tryd.ntmps96
  go_wp2
  all_goals go_ret
  all_goals refine ⟨ret_bool ?_, (Fr.refl NoB w).alloc _⟩
  all_goals (try simp only [beq_iff_eq, beq_eq_false_iff_ne, ne_eq] at *)
  all_goals (rw [Bool.eq_iff_iff, fitsM_iff]; simp only [beq_iff_eq, decide_eq_true_eq, Bool.false_eq_true, false_iff]; omega)

set_option maxHeartbeats 1600000 in
theorem samem_calls (A A' : Option Addr) (l l' : List Mem) (c c' lo hi lo' hi' : Nat) (w : World) (h : RdM w lo hi A l) (h' : RdM w lo' hi' A' l') (hl : l.length ≤ 140737488355328) (hl' : l'.length ≤ 140737488355328) :
    Calls Tryd.prog 52 #[.slice A l.length c, .slice A' l'.length c'] w fun e w' => e = .returned (.bool (l == l')) ∧ ∃ n, w' = w.drewN n := by
  by_cases hne : l.length = l'.length
  · go_enter Tryd.func52, Tryd.ntmps52
    have HE := Lib.hid hne
    have hb : ((l.length : Int) != (l'.length : Int)) = false := by simp [hne]
    clear hne
    go_wp2
    clear hb
    go_loopw [4, 5] (fun r i wr => r = .bool false ∧ ∃ k : Nat, k ≤ l.length ∧ i = .int .i64 (k : Int) ∧ l.take k = l'.take k ∧ ∃ n, wr = w.drewN n) (fun _ i _ => l.length - (intOf i).toNat)
    case atStart => exact ⟨rfl, 0, Nat.zero_le _, rfl, by simp, 0, rfl⟩
    case round =>
      obtain ⟨rfl, k, hk, rfl, htk, n, rfl⟩ := hrel
      have HT := Lib.hid htk
      clear htk
      by_cases hlt : k < l.length
      · have hlt' : k < l'.length := by rw [← HE.out]; exact hlt
        obtain ⟨b, o, rfl, -, -, h0⟩ := h (by omega)
        obtain ⟨b', o', rfl, -, -, h0'⟩ := h' (by omega)
        obtain ⟨c0, c1, c2, c3⟩ := h0 k l[k] (List.getElem?_eq_getElem hlt)
        obtain ⟨d0, d1, d2, d3⟩ := h0' k l'[k] (List.getElem?_eq_getElem hlt')
        have HG := Lib.hid (List.getElem?_eq_getElem hlt)
        have HG' := Lib.hid (List.getElem?_eq_getElem hlt')
        clear h h' h0 h0'
        generalize l[k] = x at c0 c1 c2 c3 HG
        generalize l'[k] = y at d0 d1 d2 d3 HG'
        obtain ⟨x0, x1, x2, x3⟩ := x
        obtain ⟨y0, y1, y2, y3⟩ := y
        simp only at c0 c1 c2 c3 d0 d1 d2 d3
        have hi1 : ((k : Int) < (l.length : Int)) := by omega
        have hi2 : ((k : Int) < (l'.length : Int)) := by omega
        have hnq := mem_neq x0 x1 x2 x3 y0 y1 y2 y3
        obtain ⟨q, hq⟩ : ∃ q, ((x0, x1, x2, x3) == (y0, y1, y2, y3)) = q := ⟨_, rfl⟩
        rw [hq] at hnq
        have HQ := Lib.hid hq
        clear hq
        cases q
        · have hres : (l == l') = false := by
            rw [beq_eq_false_iff_ne]
            rintro rfl
            have h1 := HG.out
            rw [HG'.out] at h1
            have h2 := HQ.out
            cases h1
            simp at h2
          have HR := Lib.hid hres
          clear hres
          go_wp2
          go_quiet (fail)
          go_wp2
          go_ret
          exact ⟨by rw [HR.out]; rfl, n + nq, by simp⟩
        · go_wp2
          go_quiet (fail)
          go_wp2
          go_roundw
          case rel =>
            refine ⟨rfl, k + 1, by omega, by go_num, ?_, n + nq, by simp⟩
            rw [List.take_add_one, List.take_add_one, HG.out, HG'.out, HT.out, eq_of_beq HQ.out]
          case measure => simp [intOf]; omega
      · have hres : (l == l') = true := by
          rw [beq_iff_eq]
          have := HT.out
          rwa [List.take_of_length_le (by omega), List.take_of_length_le (by have := HE.out; omega)] at this
        have HR := Lib.hid hres
        clear hres h h'
        go_wp2
        go_ret
        exact ⟨by rw [HR.out]; rfl, n, rfl⟩
  · have hb : ((l.length : Int) != (l'.length : Int)) = true := by rw [bne_iff_ne]; omega
    have hres : (l == l') = false := by
      rw [beq_eq_false_iff_ne]
      rintro rfl
      exact hne rfl
    have HR := Lib.hid hres
    clear hres h h' hne
    go_enter Tryd.func52, Tryd.ntmps52
    go_wp2
    go_ret
    exact ⟨by rw [HR.out]; rfl, 0, rfl⟩

end Go.Proofs.YtlckgkpgllhpbaaDoor
