/-
  Ayt: Ayr, Ays, Ayt.
-/
import Derived.Test.YtlckgkpgllhpbaaDoorAev
import Derived.BigRegion
import Derived.Deep.MidRow
import Derived.Deep.WholeRow
/- Ayr -/
namespace Go.Proofs.YtlckgkpgllhpbaaDoor
open Go.RowKit

def yints (n0 n1 n2 n3 n4 n5 n6 n7 n8 n9 : Int) : Array Value := #[.int .i64 n0, .int .i64 n1, .int .i64 n2, .int .i64 n3, .int .i64 n4, .int .i64 n5, .int .i64 n6, .int .i64 n7, .int .i64 n8, .int .i64 n9]
def stints (f : Fy) : Array Value := yints (f.st.getD 0 0) (f.st.getD 1 0) (f.st.getD 2 0) (f.st.getD 3 0) (f.st.getD 4 0) (f.st.getD 5 0) (f.st.getD 6 0) (f.st.getD 7 0) (f.st.getD 8 0) (f.st.getD 9 0)
theorem asize10 : (Tryd.prog.info? 116).map (·.size) = some 10 := by kernel_rfl
set_option maxHeartbeats 3200000 in
set_option maxRecDepth 20000 in
theorem ystat0 (b : Nat) (n0 n1 n2 n3 n4 n5 n6 n7 n8 n9 : Int) (w : World) (hlt : b < w.heap.size) (h0 : w.cell? ⟨b, 8, none⟩ = some (.int .i64 n0)) (h1 : w.cell? ⟨b, 9, none⟩ = some (.int .i64 n1)) (h2 : w.cell? ⟨b, 10, none⟩ = some (.int .i64 n2)) (h3 : w.cell? ⟨b, 11, none⟩ = some (.int .i64 n3)) (h4 : w.cell? ⟨b, 12, none⟩ = some (.int .i64 n4)) (h5 : w.cell? ⟨b, 13, none⟩ = some (.int .i64 n5)) (h6 : w.cell? ⟨b, 14, none⟩ = some (.int .i64 n6)) (h7 : w.cell? ⟨b, 15, none⟩ = some (.int .i64 n7)) (h8 : w.cell? ⟨b, 16, none⟩ = some (.int .i64 n8)) (h9 : w.cell? ⟨b, 17, none⟩ = some (.int .i64 n9)) :
    Calls Tryd.prog 72 #[.pointer (some ⟨b, 8, none⟩)] w fun e w' => e = .returned (.agg (yints n0 n1 n2 n3 n4 n5 n6 n7 n8 n9)) ∧ Fr NoB w w' := by
  have F1 := (Fr.refl NoB w).alloc (.cells (yints 0 0 0 0 0 0 0 0 0 0) 116)
  have hb := heap_alloc_new w (.cells (yints 0 0 0 0 0 0 0 0 0 0) 116)
  replace h0 := (F1.cell (p := ⟨b, 8, none⟩) hlt (fun x => x)).trans h0
  replace h1 := (F1.cell (p := ⟨b, 9, none⟩) hlt (fun x => x)).trans h1
  replace h2 := (F1.cell (p := ⟨b, 10, none⟩) hlt (fun x => x)).trans h2
  replace h3 := (F1.cell (p := ⟨b, 11, none⟩) hlt (fun x => x)).trans h3
  replace h4 := (F1.cell (p := ⟨b, 12, none⟩) hlt (fun x => x)).trans h4
  replace h5 := (F1.cell (p := ⟨b, 13, none⟩) hlt (fun x => x)).trans h5
  replace h6 := (F1.cell (p := ⟨b, 14, none⟩) hlt (fun x => x)).trans h6
  replace h7 := (F1.cell (p := ⟨b, 15, none⟩) hlt (fun x => x)).trans h7
  replace h8 := (F1.cell (p := ⟨b, 16, none⟩) hlt (fun x => x)).trans h8
  replace h9 := (F1.cell (p := ⟨b, 17, none⟩) hlt (fun x => x)).trans h9
  have HF := Lib.hid F1
  have HB := Lib.hid hb
  clear F1 hb
  simp only [yints] at *
  go_enter Tryd.func72, Tryd.ntmps72
  go_wp2_with (fail)
  generalize w.alloc (.cells #[.int .i64 0, .int .i64 0, .int .i64 0, .int .i64 0, .int .i64 0, .int .i64 0, .int .i64 0, .int .i64 0, .int .i64 0, .int .i64 0] 116) = W0 at h0 h1 h2 h3 h4 h5 h6 h7 h8 h9 HF HB ⊢
  have h0 : W0.drew.cell? ⟨b, 8, none⟩ = some (.int .i64 n0) := h0
  have h1 : W0.drew.cell? ⟨b, 9, none⟩ = some (.int .i64 n1) := h1
  have h2 : W0.drew.cell? ⟨b, 10, none⟩ = some (.int .i64 n2) := h2
  have h3 : W0.drew.cell? ⟨b, 11, none⟩ = some (.int .i64 n3) := h3
  have h4 : W0.drew.cell? ⟨b, 12, none⟩ = some (.int .i64 n4) := h4
  have h5 : W0.drew.cell? ⟨b, 13, none⟩ = some (.int .i64 n5) := h5
  have h6 : W0.drew.cell? ⟨b, 14, none⟩ = some (.int .i64 n6) := h6
  have h7 : W0.drew.cell? ⟨b, 15, none⟩ = some (.int .i64 n7) := h7
  have h8 : W0.drew.cell? ⟨b, 16, none⟩ = some (.int .i64 n8) := h8
  have h9 : W0.drew.cell? ⟨b, 17, none⟩ = some (.int .i64 n9) := h9
  go_still_tail 41, (by kernel_rfl)
  change wpList _ _ _ _ _ W0.drew
  have HF2 := Lib.hid (HF.out.drew)
  have HB2 : Hid (W0.drew.heap[w.heap.size]? = some (.cells #[.int .i64 0, .int .i64 0, .int .i64 0, .int .i64 0, .int .i64 0, .int .i64 0, .int .i64 0, .int .i64 0, .int .i64 0, .int .i64 0] 116 (0, 0))) := HB
  clear HF HB
  rename_i k0 k1 k2 k3 k4 k5 k6 k7 k8 k9
  clear k0 k1 k2 k3 k4 k5 k6 k7 k8 k9
  generalize W0.drew = W2 at *
  go_wp2_with (first | (refine wpList_store_row rfl 116 _ _ rfl w.heap.size #[.int .i64 n0, .int .i64 n1, .int .i64 n2, .int .i64 n3, .int .i64 n4, .int .i64 n5, .int .i64 n6, .int .i64 n7, .int .i64 n8, .int .i64 n9] rfl rfl _ _ HB2.out asize10 rfl (by simp [Value.oneCell']) ?_) | fail)
  have HB3 := setRow_heap W2 w.heap.size _ #[.int .i64 n0, .int .i64 n1, .int .i64 n2, .int .i64 n3, .int .i64 n4, .int .i64 n5, .int .i64 n6, .int .i64 n7, .int .i64 n8, .int .i64 n9] _ _ HB2.out
  have HF3 := HF2.out.setRow (g := w.heap.size) (fun h => absurd h (Nat.lt_irrefl _)) #[.int .i64 n0, .int .i64 n1, .int .i64 n2, .int .i64 n3, .int .i64 n4, .int .i64 n5, .int .i64 n6, .int .i64 n7, .int .i64 n8, .int .i64 n9]
  refine bodyPost_ret (v := .agg #[.int .i64 n0, .int .i64 n1, .int .i64 n2, .int .i64 n3, .int .i64 n4, .int .i64 n5, .int .i64 n6, .int .i64 n7, .int .i64 n8, .int .i64 n9]) (results_cell_row (fn := Tryd.f72) (p := 2) (ty := 116) (by kernel_rfl) _ _ w.heap.size 116 _ _ _ rfl HB3 Tryd.underlying116 rfl (by kernel_rfl)) rfl ?_
  exact ⟨rfl, HF3⟩
/-- The ten numbers of a reply's stat. -/
theorem ystat_calls (b : Nat) (f : Fy) (p : Py) (np : Nat) (w : World) (h : w.heap[b]? = some (.cells (ycells f p np) 43 (0, 0))) :
    Calls Tryd.prog 72 #[.pointer (some ⟨b, 8, none⟩)] w fun e w' => e = .returned (.agg (stints f)) ∧ Fr NoB w w' :=
  ystat0 b _ _ _ _ _ _ _ _ _ _ w (Lib.lt_of_heap h) (cells_of h 8).1 (cells_of h 9).1 (cells_of h 10).1 (cells_of h 11).1 (cells_of h 12).1 (cells_of h 13).1 (cells_of h 14).1 (cells_of h 15).1 (cells_of h 16).1 (cells_of h 17).1
set_option maxHeartbeats 1600000 in
/-- Whether a config is none. -/
theorem ynone_calls (v : Int) (n : Nat) (A : Option Addr) (d : Nat) (w : World) :
    Calls Tryd.prog 74 #[.agg #[.int .i64 v, .slice A n d]] w fun e w' => e = .returned (.bool (decide (v = 0 ∧ n = 0))) ∧ Fr NoB w w' := by
  have F1 := (Fr.refl NoB w).alloc (.cells #[.int .i64 v, .slice A n d] 40)
  have HF := Lib.hid F1
  clear F1
  by_cases hv : v = 0
  · have hb : (v == 0) = true := by rw [beq_iff_eq]; exact hv
    by_cases hn : n = 0
    · subst hn
      rw [decide_eq_true ⟨hv, rfl⟩]
      clear hv
      go_enter Tryd.func74, Tryd.ntmps74
      go_wp2
      go_ret
      exact ⟨rfl, HF.out⟩
    · have hnb : ((n : Int) == 0) = false := by rw [beq_eq_false_iff_ne]; omega
      rw [decide_eq_false (fun h => hn h.2)]
      clear hv hn
      go_enter Tryd.func74, Tryd.ntmps74
      go_wp2
      go_ret
      exact ⟨rfl, HF.out⟩
  · have hb : (v == 0) = false := by rw [beq_eq_false_iff_ne]; exact hv
    rw [decide_eq_false (fun h => hv h.1)]
    clear hv
    go_enter Tryd.func74, Tryd.ntmps74
    go_wp2
    go_ret
    exact ⟨rfl, HF.out⟩
/-- Whether a number is less than none. -/
theorem yneg_calls (n : Int) (w : World) : Calls Tryd.prog 71 #[.int .i64 n] w fun e w' => e = .returned (.bool (decide (n < 0))) ∧ w' = w := by
  go_enter Tryd.func71, Tryd.ntmps71
  go_wp2
  go_ret
  exact ⟨rfl, rfl⟩
theorem ylong_calls (s : List UInt8) (w : World) : Calls Tryd.prog 77 #[.string ⟨s.toArray⟩] w fun e w' => e = .returned (.bool (decide (220 < s.length))) ∧ w' = w := by
  by_cases h : 220 < s.length
  · have hi : (220 : Int) < (s.length : Int) := by omega
    rw [decide_eq_true h]
    go_enter Tryd.func77, Tryd.ntmps77
    go_wp2
    go_ret
    exact ⟨rfl, rfl⟩
  · have hi : ¬ (220 : Int) < (s.length : Int) := by omega
    rw [decide_eq_false h]
    go_enter Tryd.func77, Tryd.ntmps77
    go_wp2
    go_ret
    exact ⟨rfl, rfl⟩
set_option maxHeartbeats 1600000 in
theorem yindexn_calls (A : Option Addr) (l : List Int) (c lo hi : Nat) (w : World) (h : RdI w lo hi A l) (hl : l.length ≤ 140737488355328) :
    Calls Tryd.prog 95 #[.slice A l.length c, .func (.func 71) #[] #[]] w fun e w' => ∃ r : Int, e = .returned (.int .i64 r) ∧ (0 ≤ r ↔ ∃ n ∈ l, n < 0) ∧ w' = w := by
  have H := Lib.hid h
  clear h
  go_enter Tryd.func95, Tryd.ntmps95
  go_wp2
  go_loopw [8] (fun i W => ∃ k : Nat, k ≤ l.length ∧ i = .int .i64 (k : Int) ∧ (∀ j : Nat, j < k → ∀ n, l[j]? = some n → 0 ≤ n) ∧ W = w) (fun i _ => l.length - (intOf i).toNat)
  case atStart => exact ⟨0, by omega, rfl, fun j hj => absurd hj (by omega), rfl⟩
  case round =>
    obtain ⟨k, hk, rfl, hno, rfl⟩ := hrel
    have HNO := Lib.hid hno
    clear hno
    by_cases hlt : k < l.length
    · have hki : (k : Int) < (l.length : Int) := by omega
      have hk0 : (0 : Int) ≤ (k : Int) := by omega
      obtain ⟨b, o, rfl, h1, h2, h3⟩ := H.out (by omega)
      have hc := h3 k hlt
      rw [show l.getD k 0 = l[k] by rw [List.getD_eq_getElem?_getD, List.getElem?_eq_getElem hlt]; rfl] at hc
      have hm : l[k] ∈ l := List.getElem_mem hlt
      have hg : l[k]? = some l[k] := List.getElem?_eq_getElem hlt
      generalize l[k] = n at hc hm hg
      have HG := Lib.hid hg
      have HM := Lib.hid hm
      clear h3 h1 h2 hm hg
      by_cases hn : n < 0
      · have hy := yneg_calls n wr
        rw [decide_eq_true hn] at hy
        have HY := Lib.hid hy
        have HN := Lib.hid hn
        clear hy hn
        go_wp2_with (fail)
        refine HY.out.mono ?_
        rintro e w1 ⟨rfl, rfl⟩
        go_wp2
        go_ret
        exact ⟨k, rfl, ⟨fun _ => ⟨n, HM.out, HN.out⟩, fun _ => by omega⟩, rfl⟩
      · have hy := yneg_calls n wr
        rw [decide_eq_false hn] at hy
        have HY := Lib.hid hy
        have HN := Lib.hid hn
        clear hy hn
        go_wp2_with (fail)
        refine HY.out.mono ?_
        rintro e w1 ⟨rfl, rfl⟩
        go_wp2
        go_roundw
        case rel =>
          refine ⟨k + 1, by omega, by go_num, fun j hj m hm => ?_, by first | rfl | trivial⟩
          by_cases hjk : j = k
          · subst hjk; have := HG.out; rw [hm] at this; cases this; have := HN.out; omega
          · exact HNO.out j (by omega) m hm
        case measure => simp [intOf]; omega
    · obtain rfl : k = l.length := by omega
      go_wp2
      go_ret
      refine ⟨-1, rfl, ⟨fun h => absurd h (by decide), ?_⟩, rfl⟩
      rintro ⟨n, hn, hn0⟩
      obtain ⟨j, hj, rfl⟩ := List.getElem_of_mem hn
      have := HNO.out j hj _ (List.getElem?_eq_getElem hj)
      omega
set_option maxHeartbeats 1600000 in
theorem ycontn_calls (A : Option Addr) (l : List Int) (c lo hi : Nat) (w : World) (h : RdI w lo hi A l) (hl : l.length ≤ 140737488355328) :
    Calls Tryd.prog 73 #[.slice A l.length c, .func (.func 71) #[] #[]] w fun e w' => e = .returned (.bool (decide (∃ n ∈ l, n < 0))) ∧ w' = w := by
  have H := Lib.hid (yindexn_calls A l c lo hi w h hl)
  clear h
  by_cases hx : ∃ n ∈ l, n < 0
  · rw [decide_eq_true hx]
    have HX := Lib.hid hx
    clear hx
    go_enter Tryd.func73, Tryd.ntmps73
    go_wp2_with (fail)
    refine H.out.mono ?_
    rintro e w1 ⟨r, rfl, hr, rfl⟩
    have h0 : 0 ≤ r := hr.2 HX.out
    clear hr H
    go_wp2
    go_ret
    exact ⟨rfl, rfl⟩
  · rw [decide_eq_false hx]
    have HX := Lib.hid hx
    clear hx
    go_enter Tryd.func73, Tryd.ntmps73
    go_wp2_with (fail)
    refine H.out.mono ?_
    rintro e w1 ⟨r, rfl, hr, rfl⟩
    have h0 : ¬ 0 ≤ r := fun h => HX.out (hr.1 h)
    clear hr H
    go_wp2
    go_ret
    refine ⟨?_, rfl⟩
    show Ending.returned (.bool (decide (0 ≤ r))) = _
    rw [decide_eq_false (by omega)]
set_option maxHeartbeats 1600000 in
theorem yindext_calls (A : Option Addr) (l : List (List UInt8)) (c lo hi : Nat) (w : World) (h : RdT w lo hi A l) (hl : l.length ≤ 140737488355328) :
    Calls Tryd.prog 97 #[.slice A l.length c, .func (.func 77) #[] #[]] w fun e w' => ∃ r : Int, e = .returned (.int .i64 r) ∧ (0 ≤ r ↔ ∃ n ∈ l, 220 < n.length) ∧ w' = w := by
  have H := Lib.hid h
  clear h
  go_enter Tryd.func97, Tryd.ntmps97
  go_wp2
  go_loopw [8] (fun i W => ∃ k : Nat, k ≤ l.length ∧ i = .int .i64 (k : Int) ∧ (∀ j : Nat, j < k → ∀ n, l[j]? = some n → n.length ≤ 220) ∧ W = w) (fun i _ => l.length - (intOf i).toNat)
  case atStart => exact ⟨0, by omega, rfl, fun j hj => absurd hj (by omega), rfl⟩
  case round =>
    obtain ⟨k, hk, rfl, hno, rfl⟩ := hrel
    have HNO := Lib.hid hno
    clear hno
    by_cases hlt : k < l.length
    · have hki : (k : Int) < (l.length : Int) := by omega
      have hk0 : (0 : Int) ≤ (k : Int) := by omega
      obtain ⟨b, o, rfl, h1, h2, h3⟩ := H.out (by omega)
      have hc := h3 k l[k] (List.getElem?_eq_getElem hlt)
      have hm : l[k] ∈ l := List.getElem_mem hlt
      have hg : l[k]? = some l[k] := List.getElem?_eq_getElem hlt
      generalize l[k] = n at hc hm hg
      have HG := Lib.hid hg
      have HM := Lib.hid hm
      clear h3 h1 h2 hm hg
      by_cases hn : 220 < n.length
      · have hy := ylong_calls n wr
        rw [decide_eq_true hn] at hy
        have HY := Lib.hid hy
        have HN := Lib.hid hn
        clear hy hn
        go_wp2_with (fail)
        refine HY.out.mono ?_
        rintro e w1 ⟨rfl, rfl⟩
        go_wp2
        go_ret
        exact ⟨k, rfl, ⟨fun _ => ⟨n, HM.out, HN.out⟩, fun _ => by omega⟩, rfl⟩
      · have hy := ylong_calls n wr
        rw [decide_eq_false hn] at hy
        have HY := Lib.hid hy
        have HN := Lib.hid hn
        clear hy hn
        go_wp2_with (fail)
        refine HY.out.mono ?_
        rintro e w1 ⟨rfl, rfl⟩
        go_wp2
        go_roundw
        case rel =>
          refine ⟨k + 1, by omega, by go_num, fun j hj m hm => ?_, by first | rfl | trivial⟩
          by_cases hjk : j = k
          · subst hjk; have := HG.out; rw [hm] at this; cases this; have := HN.out; omega
          · exact HNO.out j (by omega) m hm
        case measure => simp [intOf]; omega
    · obtain rfl : k = l.length := by omega
      go_wp2
      go_ret
      refine ⟨-1, rfl, ⟨fun h => absurd h (by decide), ?_⟩, rfl⟩
      rintro ⟨n, hn, hn0⟩
      obtain ⟨j, hj, rfl⟩ := List.getElem_of_mem hn
      have := HNO.out j hj _ (List.getElem?_eq_getElem hj)
      omega
set_option maxHeartbeats 1600000 in
theorem ycontt_calls (A : Option Addr) (l : List (List UInt8)) (c lo hi : Nat) (w : World) (h : RdT w lo hi A l) (hl : l.length ≤ 140737488355328) :
    Calls Tryd.prog 76 #[.slice A l.length c, .func (.func 77) #[] #[]] w fun e w' => e = .returned (.bool (decide (∃ n ∈ l, 220 < n.length))) ∧ w' = w := by
  have H := Lib.hid (yindext_calls A l c lo hi w h hl)
  clear h
  by_cases hx : ∃ n ∈ l, 220 < n.length
  · rw [decide_eq_true hx]
    have HX := Lib.hid hx
    clear hx
    go_enter Tryd.func76, Tryd.ntmps76
    go_wp2_with (fail)
    refine H.out.mono ?_
    rintro e w1 ⟨r, rfl, hr, rfl⟩
    have h0 : 0 ≤ r := hr.2 HX.out
    clear hr H
    go_wp2
    go_ret
    exact ⟨rfl, rfl⟩
  · rw [decide_eq_false hx]
    have HX := Lib.hid hx
    clear hx
    go_enter Tryd.func76, Tryd.ntmps76
    go_wp2_with (fail)
    refine H.out.mono ?_
    rintro e w1 ⟨r, rfl, hr, rfl⟩
    have h0 : ¬ 0 ≤ r := fun h => HX.out (hr.1 h)
    clear hr H
    go_wp2
    go_ret
    refine ⟨?_, rfl⟩
    show Ending.returned (.bool (decide (0 ≤ r))) = _
    rw [decide_eq_false (by omega)]
end Go.Proofs.YtlckgkpgllhpbaaDoor

/- Ays -/
namespace Go.Proofs.YtlckgkpgllhpbaaDoor
open Go.RowKit

structure YCond (k h0 h1 h2 h3 h4 : Int) (path : List UInt8) (dn : Nat) (st : List Int) (ls : List (List UInt8)) (v : Int) (ms : List Mem) (np : Nat) (deep cp : Bool) : Prop where
  c1 : ¬ k < 1
  c2 : ¬ 14 < k
  c3 : ¬ h0 < 0
  c4 : ¬ h1 < 0
  c5 : ¬ h2 < 0
  c6 : ¬ h3 < 0
  c7 : ¬ h4 < 0
  c8 : ¬ 1000 < h4
  c9 : ¬ 220 < path.length
  c10 : ¬ 1000 < dn
  c11 : ¬ 500 < ls.length
  c12 : ¬ 16 < np
  c13 : ¬ ∃ n ∈ st, n < 0
  c14 : (v = 0 ∧ ms.length = 0) ∨ chk v ms = 0
  c15 : deep = true ∨ (np = 0 ∧ ls.length = 0)
  c16 : ¬ ∃ t ∈ ls, 220 < t.length
  c17 : cp = false
theorem ret_fls {R : Bool} (h : R = false) : Ending.returned (.bool false) = Ending.returned (.bool R) := by rw [h]
theorem ret_tru {R : Bool} (h : R = true) : Ending.returned (.bool true) = Ending.returned (.bool R) := by rw [h]
set_option maxHeartbeats 12800000 in
set_option maxRecDepth 8000 in
theorem yans_core (k h0 h1 h2 h3 h4 : Int) (path : List UInt8) (A : Option Addr) (dn dc : Nat) (n0 n1 n2 n3 n4 n5 n6 n7 n8 n9 : Int) (L : Option Addr) (ls : List (List UInt8)) (lc : Nat) (v : Int) (B : Option Addr) (ms : List Mem) (bd : Nat) (P : Option Addr) (np pe : Nat) (deep cp R : Bool) (lo hi : Nat) (w : World)
    (hT : RdT w lo hi L ls) (hM : RdM w lo hi B ms) (hh : hi ≤ w.heap.size) (hml : ms.length ≤ 140737488355328) (hCP : (deep = true ∨ np = 0) → ∀ w', Fr NoB w w' → Calls Tryd.prog 78 #[.slice P np pe, .func (.func 79) #[] #[]] w' fun e w'' => e = .returned (.bool cp) ∧ Fr NoB w' w'')
    (hR1 : (YCond k h0 h1 h2 h3 h4 path dn [n0, n1, n2, n3, n4, n5, n6, n7, n8, n9] ls v ms np deep cp) → R = true) (hR0 : ¬ (YCond k h0 h1 h2 h3 h4 path dn [n0, n1, n2, n3, n4, n5, n6, n7, n8, n9] ls v ms np deep cp) → R = false) :
    Calls Tryd.prog 38 #[.agg #[.int .u8 k, .int .i64 h0, .int .i64 h1, .int .i64 h2, .int .i64 h3, .int .i64 h4, .string ⟨path.toArray⟩, .slice A dn dc, .int .i64 n0, .int .i64 n1, .int .i64 n2, .int .i64 n3, .int .i64 n4, .int .i64 n5, .int .i64 n6, .int .i64 n7, .int .i64 n8, .int .i64 n9, .slice L ls.length lc, .int .i64 v, .slice B ms.length bd, .slice P np pe], .bool deep] w fun e w' => e = .returned (.bool R) ∧ Fr NoB w w' := by
  have HT := Lib.hid hT
  have HM := Lib.hid hM
  have HCP := Lib.hid hCP
  have HR1 := Lib.hid hR1
  have HR0 := Lib.hid hR0
  have HML := Lib.hid hml
  have HHH := Lib.hid hh
  clear hT hM hCP hR1 hR0 hml hh
  have F1 := Lib.hid ((Fr.refl NoB w).alloc (.cells #[.int .u8 k, .int .i64 h0, .int .i64 h1, .int .i64 h2, .int .i64 h3, .int .i64 h4, .string ⟨path.toArray⟩, .slice A dn dc, .int .i64 n0, .int .i64 n1, .int .i64 n2, .int .i64 n3, .int .i64 n4, .int .i64 n5, .int .i64 n6, .int .i64 n7, .int .i64 n8, .int .i64 n9, .slice L ls.length lc, .int .i64 v, .slice B ms.length bd, .slice P np pe] 43))
  have B1 := Lib.hid (heap_alloc_new w (.cells #[.int .u8 k, .int .i64 h0, .int .i64 h1, .int .i64 h2, .int .i64 h3, .int .i64 h4, .string ⟨path.toArray⟩, .slice A dn dc, .int .i64 n0, .int .i64 n1, .int .i64 n2, .int .i64 n3, .int .i64 n4, .int .i64 n5, .int .i64 n6, .int .i64 n7, .int .i64 n8, .int .i64 n9, .slice L ls.length lc, .int .i64 v, .slice B ms.length bd, .slice P np pe] 43))
  go_enter Tryd.func38, Tryd.ntmps38
  go_wp2_with (fail)
  have hst := ystat0 w.heap.size n0 n1 n2 n3 n4 n5 n6 n7 n8 n9 _ (Lib.lt_of_heap B1.out) (cells_of B1.out 8).1 (cells_of B1.out 9).1 (cells_of B1.out 10).1 (cells_of B1.out 11).1 (cells_of B1.out 12).1 (cells_of B1.out 13).1 (cells_of B1.out 14).1 (cells_of B1.out 15).1 (cells_of B1.out 16).1 (cells_of B1.out 17).1
  refine hst.mono ?_
  rintro e w1 ⟨rfl, f1⟩
  clear hst
  have F2 := Lib.hid (F1.out.trans f1 fun _ _ x => x)
  have B2 := Lib.hid (f1.at_ B1.out (fun x => x))
  clear F1 B1 f1
  have hN := rdi_new w1 [n0, n1, n2, n3, n4, n5, n6, n7, n8, n9] 116
  have F3 := F2.out.alloc (.cells #[.int .i64 n0, .int .i64 n1, .int .i64 n2, .int .i64 n3, .int .i64 n4, .int .i64 n5, .int .i64 n6, .int .i64 n7, .int .i64 n8, .int .i64 n9] 116)
  have B3 := ((Fr.refl NoB w1).alloc (.cells #[.int .i64 n0, .int .i64 n1, .int .i64 n2, .int .i64 n3, .int .i64 n4, .int .i64 n5, .int .i64 n6, .int .i64 n7, .int .i64 n8, .int .i64 n9] 116)).at_ B2.out (fun x => x)
  have HN : Hid (RdI (w1.alloc (.cells #[.int .i64 n0, .int .i64 n1, .int .i64 n2, .int .i64 n3, .int .i64 n4, .int .i64 n5, .int .i64 n6, .int .i64 n7, .int .i64 n8, .int .i64 n9] 116)) w1.heap.size (w1.heap.size + 1) (some ⟨w1.heap.size, 0, none⟩) [n0, n1, n2, n3, n4, n5, n6, n7, n8, n9]) := hN
  have d0 := (cells_of B3 0).1
  have d1 := (cells_of B3 1).1
  have d2 := (cells_of B3 2).1
  have d3 := (cells_of B3 3).1
  have d4 := (cells_of B3 4).1
  have d5 := (cells_of B3 5).1
  have d6 := (cells_of B3 6).1
  have d7 := (cells_of B3 7).1
  have d18 := (cells_of B3 18).1
  have d19 := (cells_of B3 19).1
  have d20 := (cells_of B3 20).1
  have d21 := (cells_of B3 21).1
  have HF3 := Lib.hid F3
  have HB3 := Lib.hid B3
  clear hN F3 B3 F2
  by_cases c1 : k < 1
  · have hr := Lib.hid (HR0.out fun h => h.c1 c1)
    go_wp2_with (first | (refine wpList_store_row rfl 116 _ _ rfl w1.heap.size #[.int .i64 n0, .int .i64 n1, .int .i64 n2, .int .i64 n3, .int .i64 n4, .int .i64 n5, .int .i64 n6, .int .i64 n7, .int .i64 n8, .int .i64 n9] rfl rfl _ #[.int .i64 0, .int .i64 0, .int .i64 0, .int .i64 0, .int .i64 0, .int .i64 0, .int .i64 0, .int .i64 0, .int .i64 0, .int .i64 0] (heap_alloc_last w1 _) asize10 rfl (by simp [Value.oneCell']) ?_; rw [World.setRow_alloc_new]) | fail)
    go_ret
    exact ⟨ret_fls hr.out, HF3.out⟩
  by_cases c2 : 14 < k
  · have hr := Lib.hid (HR0.out fun h => h.c2 c2)
    go_wp2_with (first | (refine wpList_store_row rfl 116 _ _ rfl w1.heap.size #[.int .i64 n0, .int .i64 n1, .int .i64 n2, .int .i64 n3, .int .i64 n4, .int .i64 n5, .int .i64 n6, .int .i64 n7, .int .i64 n8, .int .i64 n9] rfl rfl _ #[.int .i64 0, .int .i64 0, .int .i64 0, .int .i64 0, .int .i64 0, .int .i64 0, .int .i64 0, .int .i64 0, .int .i64 0, .int .i64 0] (heap_alloc_last w1 _) asize10 rfl (by simp [Value.oneCell']) ?_; rw [World.setRow_alloc_new]) | fail)
    go_ret
    exact ⟨ret_fls hr.out, HF3.out⟩
  by_cases c3 : h0 < 0
  · have hr := Lib.hid (HR0.out fun h => h.c3 c3)
    go_wp2_with (first | (refine wpList_store_row rfl 116 _ _ rfl w1.heap.size #[.int .i64 n0, .int .i64 n1, .int .i64 n2, .int .i64 n3, .int .i64 n4, .int .i64 n5, .int .i64 n6, .int .i64 n7, .int .i64 n8, .int .i64 n9] rfl rfl _ #[.int .i64 0, .int .i64 0, .int .i64 0, .int .i64 0, .int .i64 0, .int .i64 0, .int .i64 0, .int .i64 0, .int .i64 0, .int .i64 0] (heap_alloc_last w1 _) asize10 rfl (by simp [Value.oneCell']) ?_; rw [World.setRow_alloc_new]) | fail)
    go_ret
    exact ⟨ret_fls hr.out, HF3.out⟩
  by_cases c4 : h1 < 0
  · have hr := Lib.hid (HR0.out fun h => h.c4 c4)
    go_wp2_with (first | (refine wpList_store_row rfl 116 _ _ rfl w1.heap.size #[.int .i64 n0, .int .i64 n1, .int .i64 n2, .int .i64 n3, .int .i64 n4, .int .i64 n5, .int .i64 n6, .int .i64 n7, .int .i64 n8, .int .i64 n9] rfl rfl _ #[.int .i64 0, .int .i64 0, .int .i64 0, .int .i64 0, .int .i64 0, .int .i64 0, .int .i64 0, .int .i64 0, .int .i64 0, .int .i64 0] (heap_alloc_last w1 _) asize10 rfl (by simp [Value.oneCell']) ?_; rw [World.setRow_alloc_new]) | fail)
    go_ret
    exact ⟨ret_fls hr.out, HF3.out⟩
  by_cases c5 : h2 < 0
  · have hr := Lib.hid (HR0.out fun h => h.c5 c5)
    go_wp2_with (first | (refine wpList_store_row rfl 116 _ _ rfl w1.heap.size #[.int .i64 n0, .int .i64 n1, .int .i64 n2, .int .i64 n3, .int .i64 n4, .int .i64 n5, .int .i64 n6, .int .i64 n7, .int .i64 n8, .int .i64 n9] rfl rfl _ #[.int .i64 0, .int .i64 0, .int .i64 0, .int .i64 0, .int .i64 0, .int .i64 0, .int .i64 0, .int .i64 0, .int .i64 0, .int .i64 0] (heap_alloc_last w1 _) asize10 rfl (by simp [Value.oneCell']) ?_; rw [World.setRow_alloc_new]) | fail)
    go_ret
    exact ⟨ret_fls hr.out, HF3.out⟩
  by_cases c6 : h3 < 0
  · have hr := Lib.hid (HR0.out fun h => h.c6 c6)
    go_wp2_with (first | (refine wpList_store_row rfl 116 _ _ rfl w1.heap.size #[.int .i64 n0, .int .i64 n1, .int .i64 n2, .int .i64 n3, .int .i64 n4, .int .i64 n5, .int .i64 n6, .int .i64 n7, .int .i64 n8, .int .i64 n9] rfl rfl _ #[.int .i64 0, .int .i64 0, .int .i64 0, .int .i64 0, .int .i64 0, .int .i64 0, .int .i64 0, .int .i64 0, .int .i64 0, .int .i64 0] (heap_alloc_last w1 _) asize10 rfl (by simp [Value.oneCell']) ?_; rw [World.setRow_alloc_new]) | fail)
    go_ret
    exact ⟨ret_fls hr.out, HF3.out⟩
  by_cases c7 : h4 < 0
  · have hr := Lib.hid (HR0.out fun h => h.c7 c7)
    go_wp2_with (first | (refine wpList_store_row rfl 116 _ _ rfl w1.heap.size #[.int .i64 n0, .int .i64 n1, .int .i64 n2, .int .i64 n3, .int .i64 n4, .int .i64 n5, .int .i64 n6, .int .i64 n7, .int .i64 n8, .int .i64 n9] rfl rfl _ #[.int .i64 0, .int .i64 0, .int .i64 0, .int .i64 0, .int .i64 0, .int .i64 0, .int .i64 0, .int .i64 0, .int .i64 0, .int .i64 0] (heap_alloc_last w1 _) asize10 rfl (by simp [Value.oneCell']) ?_; rw [World.setRow_alloc_new]) | fail)
    go_ret
    exact ⟨ret_fls hr.out, HF3.out⟩
  by_cases c8 : 1000 < h4
  · have hr := Lib.hid (HR0.out fun h => h.c8 c8)
    go_wp2_with (first | (refine wpList_store_row rfl 116 _ _ rfl w1.heap.size #[.int .i64 n0, .int .i64 n1, .int .i64 n2, .int .i64 n3, .int .i64 n4, .int .i64 n5, .int .i64 n6, .int .i64 n7, .int .i64 n8, .int .i64 n9] rfl rfl _ #[.int .i64 0, .int .i64 0, .int .i64 0, .int .i64 0, .int .i64 0, .int .i64 0, .int .i64 0, .int .i64 0, .int .i64 0, .int .i64 0] (heap_alloc_last w1 _) asize10 rfl (by simp [Value.oneCell']) ?_; rw [World.setRow_alloc_new]) | fail)
    go_ret
    exact ⟨ret_fls hr.out, HF3.out⟩
  by_cases c9 : 220 < path.length
  · have hr := Lib.hid (HR0.out fun h => h.c9 c9)
    have ic9 : (220 : Int) < (path.length : Int) := by omega
    go_wp2_with (first | (refine wpList_store_row rfl 116 _ _ rfl w1.heap.size #[.int .i64 n0, .int .i64 n1, .int .i64 n2, .int .i64 n3, .int .i64 n4, .int .i64 n5, .int .i64 n6, .int .i64 n7, .int .i64 n8, .int .i64 n9] rfl rfl _ #[.int .i64 0, .int .i64 0, .int .i64 0, .int .i64 0, .int .i64 0, .int .i64 0, .int .i64 0, .int .i64 0, .int .i64 0, .int .i64 0] (heap_alloc_last w1 _) asize10 rfl (by simp [Value.oneCell']) ?_; rw [World.setRow_alloc_new]) | fail)
    go_ret
    exact ⟨ret_fls hr.out, HF3.out⟩
  have ic9 : ¬ (220 : Int) < (path.length : Int) := by omega
  by_cases c10 : 1000 < dn
  · have hr := Lib.hid (HR0.out fun h => h.c10 c10)
    have ic10 : (1000 : Int) < (dn : Int) := by omega
    go_wp2_with (first | (refine wpList_store_row rfl 116 _ _ rfl w1.heap.size #[.int .i64 n0, .int .i64 n1, .int .i64 n2, .int .i64 n3, .int .i64 n4, .int .i64 n5, .int .i64 n6, .int .i64 n7, .int .i64 n8, .int .i64 n9] rfl rfl _ #[.int .i64 0, .int .i64 0, .int .i64 0, .int .i64 0, .int .i64 0, .int .i64 0, .int .i64 0, .int .i64 0, .int .i64 0, .int .i64 0] (heap_alloc_last w1 _) asize10 rfl (by simp [Value.oneCell']) ?_; rw [World.setRow_alloc_new]) | fail)
    go_ret
    exact ⟨ret_fls hr.out, HF3.out⟩
  have ic10 : ¬ (1000 : Int) < (dn : Int) := by omega
  by_cases c11 : 500 < ls.length
  · have hr := Lib.hid (HR0.out fun h => h.c11 c11)
    have ic11 : (500 : Int) < (ls.length : Int) := by omega
    go_wp2_with (first | (refine wpList_store_row rfl 116 _ _ rfl w1.heap.size #[.int .i64 n0, .int .i64 n1, .int .i64 n2, .int .i64 n3, .int .i64 n4, .int .i64 n5, .int .i64 n6, .int .i64 n7, .int .i64 n8, .int .i64 n9] rfl rfl _ #[.int .i64 0, .int .i64 0, .int .i64 0, .int .i64 0, .int .i64 0, .int .i64 0, .int .i64 0, .int .i64 0, .int .i64 0, .int .i64 0] (heap_alloc_last w1 _) asize10 rfl (by simp [Value.oneCell']) ?_; rw [World.setRow_alloc_new]) | fail)
    go_ret
    exact ⟨ret_fls hr.out, HF3.out⟩
  have ic11 : ¬ (500 : Int) < (ls.length : Int) := by omega
  by_cases c12 : 16 < np
  · have hr := Lib.hid (HR0.out fun h => h.c12 c12)
    have ic12 : (16 : Int) < (np : Int) := by omega
    go_wp2_with (first | (refine wpList_store_row rfl 116 _ _ rfl w1.heap.size #[.int .i64 n0, .int .i64 n1, .int .i64 n2, .int .i64 n3, .int .i64 n4, .int .i64 n5, .int .i64 n6, .int .i64 n7, .int .i64 n8, .int .i64 n9] rfl rfl _ #[.int .i64 0, .int .i64 0, .int .i64 0, .int .i64 0, .int .i64 0, .int .i64 0, .int .i64 0, .int .i64 0, .int .i64 0, .int .i64 0] (heap_alloc_last w1 _) asize10 rfl (by simp [Value.oneCell']) ?_; rw [World.setRow_alloc_new]) | fail)
    go_ret
    exact ⟨ret_fls hr.out, HF3.out⟩
  have ic12 : ¬ (16 : Int) < (np : Int) := by omega
  by_cases c13 : ∃ n ∈ [n0, n1, n2, n3, n4, n5, n6, n7, n8, n9], n < 0
  · have hr := Lib.hid (HR0.out fun h => h.c13 c13)
    have hc := ycontn_calls _ [n0, n1, n2, n3, n4, n5, n6, n7, n8, n9] 10 _ _ _ HN.out (by simp)
    rw [decide_eq_true c13] at hc
    have HC := Lib.hid hc
    clear hc c13
    go_wp2_with (first | (refine wpList_store_row rfl 116 _ _ rfl w1.heap.size #[.int .i64 n0, .int .i64 n1, .int .i64 n2, .int .i64 n3, .int .i64 n4, .int .i64 n5, .int .i64 n6, .int .i64 n7, .int .i64 n8, .int .i64 n9] rfl rfl _ #[.int .i64 0, .int .i64 0, .int .i64 0, .int .i64 0, .int .i64 0, .int .i64 0, .int .i64 0, .int .i64 0, .int .i64 0, .int .i64 0] (heap_alloc_last w1 _) asize10 rfl (by simp [Value.oneCell']) ?_; rw [World.setRow_alloc_new]) | fail)
    refine HC.out.mono ?_
    rintro e w2 ⟨rfl, rfl⟩
    go_wp2
    go_ret
    exact ⟨ret_fls hr.out, HF3.out⟩
  have hc := ycontn_calls _ [n0, n1, n2, n3, n4, n5, n6, n7, n8, n9] 10 _ _ _ HN.out (by simp)
  rw [decide_eq_false c13] at hc
  have HC := Lib.hid hc
  have C13 := Lib.hid c13
  clear hc c13
  go_wp2_with (first | (refine wpList_store_row rfl 116 _ _ rfl w1.heap.size #[.int .i64 n0, .int .i64 n1, .int .i64 n2, .int .i64 n3, .int .i64 n4, .int .i64 n5, .int .i64 n6, .int .i64 n7, .int .i64 n8, .int .i64 n9] rfl rfl _ #[.int .i64 0, .int .i64 0, .int .i64 0, .int .i64 0, .int .i64 0, .int .i64 0, .int .i64 0, .int .i64 0, .int .i64 0, .int .i64 0] (heap_alloc_last w1 _) asize10 rfl (by simp [Value.oneCell']) ?_; rw [World.setRow_alloc_new]) | fail)
  refine HC.out.mono ?_
  rintro e w2 ⟨rfl, rfl⟩
  clear HC HN
  clear d0 d1 d2 d3 d4 d5 d6 d7
  generalize w1.alloc (.cells #[.int .i64 n0, .int .i64 n1, .int .i64 n2, .int .i64 n3, .int .i64 n4, .int .i64 n5, .int .i64 n6, .int .i64 n7, .int .i64 n8, .int .i64 n9] 116) = w2 at *
  have HT2 := Lib.hid (HT.out.fr HF3.out HHH.out (fun _ _ _ x => x))
  have HM2 := Lib.hid (HM.out.fr HF3.out HHH.out (fun _ _ _ x => x))
  have HC1 := fun W => ycontt_calls L ls lc lo hi W
  go_wp2_with (fail)
  refine (ynone_calls v ms.length B bd w2).mono ?_
  rintro e w3 ⟨rfl, f3⟩
  have F3' := Lib.hid (HF3.out.trans f3 fun _ _ x => x)
  have B3' := Lib.hid (f3.at_ HB3.out (fun x => x))
  have HT3 := Lib.hid (HT.out.fr F3'.out HHH.out (fun _ _ _ x => x))
  have HM3 := Lib.hid (HM.out.fr F3'.out HHH.out (fun _ _ _ x => x))
  clear f3 d18 d19 d20 d21
  by_cases hz : v = 0 ∧ ms.length = 0
  · rw [decide_eq_true hz]
    have C14 : Hid ((v = 0 ∧ ms.length = 0) ∨ chk v ms = 0) := Lib.hid (.inl hz)
    clear hz
    have F4 := F3'
    have B4 := B3'
    have HT4 := HT3
    have d18 := (cells_of B4.out 18).1
    have d21 := (cells_of B4.out 21).1
    cases deep
    · by_cases c15 : np = 0 ∧ ls.length = 0
      · have h15 : ¬ (0 : Int) < (np : Int) + (ls.length : Int) := by omega
        have C15 := Lib.hid c15
        clear c15
        have ht := HC1 w3 HT4.out (by omega)
        by_cases c16 : ∃ t ∈ ls, 220 < t.length
        · have hr := Lib.hid (HR0.out fun h => h.c16 c16)
          rw [decide_eq_true c16] at ht
          have HC := Lib.hid ht
          clear ht c16
          go_wp2_with (fail)
          refine HC.out.mono ?_
          rintro e w6 ⟨rfl, rfl⟩
          go_wp2
          go_ret
          exact ⟨ret_fls hr.out, F4.out⟩
        · rw [decide_eq_false c16] at ht
          have HC := Lib.hid ht
          have C16 := Lib.hid c16
          clear ht c16
          go_wp2_with (fail)
          refine HC.out.mono ?_
          rintro e w6 ⟨rfl, rfl⟩
          go_wp2_with (fail)
          refine (HCP.out (.inr C15.out.1) _ F4.out).mono ?_
          rintro e w7 ⟨rfl, f7⟩
          have F7 := Lib.hid (F4.out.trans f7 fun _ _ x => x)
          clear f7
          cases cp
          · have hr := Lib.hid (HR1.out ⟨by omega, by omega, by omega, by omega, by omega, by omega, by omega, by omega, c9, c10, c11, c12, C13.out, C14.out, .inr C15.out, C16.out, rfl⟩)
            go_wp2
            go_ret
            exact ⟨ret_tru hr.out, F7.out⟩
          · have hr := Lib.hid (HR0.out fun h => absurd h.c17 (by decide))
            go_wp2
            go_ret
            exact ⟨ret_fls hr.out, F7.out⟩
      · have h15 : (0 : Int) < (np : Int) + (ls.length : Int) := by omega
        have hr := Lib.hid (HR0.out fun h => h.c15.elim (fun x => absurd x (by decide)) c15)
        clear c15
        go_wp2
        go_ret
        exact ⟨ret_fls hr.out, F4.out⟩
    · have ht := HC1 w3 HT4.out (by omega)
      by_cases c16 : ∃ t ∈ ls, 220 < t.length
      · have hr := Lib.hid (HR0.out fun h => h.c16 c16)
        rw [decide_eq_true c16] at ht
        have HC := Lib.hid ht
        clear ht c16
        go_wp2_with (fail)
        refine HC.out.mono ?_
        rintro e w6 ⟨rfl, rfl⟩
        go_wp2
        go_ret
        exact ⟨ret_fls hr.out, F4.out⟩
      · rw [decide_eq_false c16] at ht
        have HC := Lib.hid ht
        have C16 := Lib.hid c16
        clear ht c16
        go_wp2_with (fail)
        refine HC.out.mono ?_
        rintro e w6 ⟨rfl, rfl⟩
        go_wp2_with (fail)
        refine (HCP.out (.inl (by first | rfl | trivial)) _ F4.out).mono ?_
        rintro e w7 ⟨rfl, f7⟩
        have F7 := Lib.hid (F4.out.trans f7 fun _ _ x => x)
        clear f7
        cases cp
        · have hr := Lib.hid (HR1.out ⟨by omega, by omega, by omega, by omega, by omega, by omega, by omega, by omega, c9, c10, c11, c12, C13.out, C14.out, .inl rfl, C16.out, rfl⟩)
          go_wp2
          go_ret
          exact ⟨ret_tru hr.out, F7.out⟩
        · have hr := Lib.hid (HR0.out fun h => absurd h.c17 (by decide))
          go_wp2
          go_ret
          exact ⟨ret_fls hr.out, F7.out⟩
  · rw [decide_eq_false hz]
    have HZ := Lib.hid hz
    clear hz
    have d19 := (cells_of B3'.out 19).1
    have d20 := (cells_of B3'.out 20).1
    go_wp2_with (fail)
    refine (check_calls v B ms bd lo hi _ HM3.out (Nat.le_trans HHH.out F3'.out.size) HML.out).mono ?_
    rintro e w4 ⟨rfl, f4⟩
    have F4 := Lib.hid (F3'.out.trans f4 fun _ _ x => x)
    have B4 := Lib.hid (f4.at_ B3'.out (fun x => x))
    have HT4 := Lib.hid (HT.out.fr F4.out HHH.out (fun _ _ _ x => x))
    clear f4 d19 d20
    by_cases hck : chk v ms = 0
    · have C14 : Hid ((v = 0 ∧ ms.length = 0) ∨ chk v ms = 0) := Lib.hid (.inr hck)
      have hb : (chk v ms != 0) = false := by rw [hck]; rfl
      clear hck
      have d18 := (cells_of B4.out 18).1
      have d21 := (cells_of B4.out 21).1
      cases deep
      · by_cases c15 : np = 0 ∧ ls.length = 0
        · have h15 : ¬ (0 : Int) < (np : Int) + (ls.length : Int) := by omega
          have C15 := Lib.hid c15
          clear c15
          have ht := HC1 w4 HT4.out (by omega)
          by_cases c16 : ∃ t ∈ ls, 220 < t.length
          · have hr := Lib.hid (HR0.out fun h => h.c16 c16)
            rw [decide_eq_true c16] at ht
            have HC := Lib.hid ht
            clear ht c16
            go_wp2_with (fail)
            refine HC.out.mono ?_
            rintro e w6 ⟨rfl, rfl⟩
            go_wp2
            go_ret
            exact ⟨ret_fls hr.out, F4.out⟩
          · rw [decide_eq_false c16] at ht
            have HC := Lib.hid ht
            have C16 := Lib.hid c16
            clear ht c16
            go_wp2_with (fail)
            refine HC.out.mono ?_
            rintro e w6 ⟨rfl, rfl⟩
            go_wp2_with (fail)
            refine (HCP.out (.inr C15.out.1) _ F4.out).mono ?_
            rintro e w7 ⟨rfl, f7⟩
            have F7 := Lib.hid (F4.out.trans f7 fun _ _ x => x)
            clear f7
            cases cp
            · have hr := Lib.hid (HR1.out ⟨by omega, by omega, by omega, by omega, by omega, by omega, by omega, by omega, c9, c10, c11, c12, C13.out, C14.out, .inr C15.out, C16.out, rfl⟩)
              go_wp2
              go_ret
              exact ⟨ret_tru hr.out, F7.out⟩
            · have hr := Lib.hid (HR0.out fun h => absurd h.c17 (by decide))
              go_wp2
              go_ret
              exact ⟨ret_fls hr.out, F7.out⟩
        · have h15 : (0 : Int) < (np : Int) + (ls.length : Int) := by omega
          have hr := Lib.hid (HR0.out fun h => h.c15.elim (fun x => absurd x (by decide)) c15)
          clear c15
          go_wp2
          go_ret
          exact ⟨ret_fls hr.out, F4.out⟩
      · have ht := HC1 w4 HT4.out (by omega)
        by_cases c16 : ∃ t ∈ ls, 220 < t.length
        · have hr := Lib.hid (HR0.out fun h => h.c16 c16)
          rw [decide_eq_true c16] at ht
          have HC := Lib.hid ht
          clear ht c16
          go_wp2_with (fail)
          refine HC.out.mono ?_
          rintro e w6 ⟨rfl, rfl⟩
          go_wp2
          go_ret
          exact ⟨ret_fls hr.out, F4.out⟩
        · rw [decide_eq_false c16] at ht
          have HC := Lib.hid ht
          have C16 := Lib.hid c16
          clear ht c16
          go_wp2_with (fail)
          refine HC.out.mono ?_
          rintro e w6 ⟨rfl, rfl⟩
          go_wp2_with (fail)
          refine (HCP.out (.inl (by first | rfl | trivial)) _ F4.out).mono ?_
          rintro e w7 ⟨rfl, f7⟩
          have F7 := Lib.hid (F4.out.trans f7 fun _ _ x => x)
          clear f7
          cases cp
          · have hr := Lib.hid (HR1.out ⟨by omega, by omega, by omega, by omega, by omega, by omega, by omega, by omega, c9, c10, c11, c12, C13.out, C14.out, .inl rfl, C16.out, rfl⟩)
            go_wp2
            go_ret
            exact ⟨ret_tru hr.out, F7.out⟩
          · have hr := Lib.hid (HR0.out fun h => absurd h.c17 (by decide))
            go_wp2
            go_ret
            exact ⟨ret_fls hr.out, F7.out⟩
    · have hr := Lib.hid (HR0.out fun h => h.c14.elim HZ.out hck)
      have hb : (chk v ms != 0) = true := by rw [bne_iff_ne]; exact hck
      clear hck
      go_wp2
      go_ret
      exact ⟨ret_fls hr.out, F4.out⟩
end Go.Proofs.YtlckgkpgllhpbaaDoor

/- Ayt -/
namespace Go.Proofs.YtlckgkpgllhpbaaDoor
open Go.RowKit

theorem asize22 : (Tryd.prog.info? 43).map (·.size) = some 22 := by kernel_rfl
theorem size_reply (f : Fy) (p : Py) (np : Nat) : (Tryd.prog.info? 43).map (·.size) = some (ycells f p np).toList.length := asize22
theorem ypart_range {w : World} {b a np : Nat} {f : Fy} {p : Py} (h : ∀ j v, (ycells f p np)[j]? = some v → w.cell? ⟨b, a + j, none⟩ = some v) : w.rangeAt b a (ycells f p np).toList :=
  fun j v hv => h j v (by simpa using hv)
/-- answers of a part, as it is wanted. -/
def AnsFlat (lo hi : Nat) (q : Fy × Nat) : Prop := ∀ (pl : Py) (w' : World), Rd w' lo hi pl.A q.1.data → RdT w' lo hi pl.L q.1.ls → RdM w' lo hi pl.B q.1.c.2 → hi ≤ w'.heap.size → Calls Tryd.prog 38 #[yval q.1 pl q.2, .bool false] w' fun e w'' => e = .returned (.bool (decide (PartY q))) ∧ Fr NoB w' w''
set_option maxHeartbeats 3200000 in
set_option maxRecDepth 8000 in
theorem ybad_calls (q : Fy × Nat) (pl : Py) (lo hi : Nat) (w : World) (HA : AnsFlat lo hi q) (h1 : Rd w lo hi pl.A q.1.data) (h2 : RdT w lo hi pl.L q.1.ls) (h3 : RdM w lo hi pl.B q.1.c.2) (hh : hi ≤ w.heap.size) :
    Calls Tryd.prog 79 #[yval q.1 pl q.2] w fun e w' => e = .returned (.bool (!decide (PartY q))) ∧ Fr NoB w w' := by
  have F1 := (Fr.refl NoB w).alloc (.cells (ycells q.1 pl q.2) 43)
  have hx := HA pl _ (h1.fr F1 hh (fun _ _ _ x => x)) (h2.fr F1 hh (fun _ _ _ x => x)) (h3.fr F1 hh (fun _ _ _ x => x)) (Nat.le_trans hh F1.size)
  have HX := Lib.hid hx
  have HF := Lib.hid F1
  have HB := Lib.hid (heap_alloc_new w (.cells (ycells q.1 pl q.2) 43))
  clear hx F1 h1 h2 h3 HA
  generalize decide (PartY q) = R at *
  simp only [yval] at *
  go_enter Tryd.func79, Tryd.ntmps79
  go_wp2_with (first | (refine wpList_load_row rfl 43 _ rfl w.heap.size rfl _ _ _ _ HB.out Tryd.underlying43 rfl asize22 ?_) | fail)
  refine HX.out.mono ?_
  rintro e w1 ⟨rfl, f1⟩
  have F2 := HF.out.trans f1 fun _ _ x => x
  clear f1 HX HF HB
  go_wp2
  go_ret
  exact ⟨rfl, F2⟩
set_option maxHeartbeats 3200000 in
set_option maxRecDepth 8000 in
theorem yindexp_calls (A : Option Addr) (l : List (Fy × Nat)) (c lo hi : Nat) (w : World) (h : RdPy w lo hi A l) (hh : hi ≤ w.heap.size) (hl : l.length ≤ 140737488355328) (HA : ∀ q ∈ l, AnsFlat lo hi q) :
    Calls Tryd.prog 98 #[.slice A l.length c, .func (.func 79) #[] #[]] w fun e w' => ∃ r : Int, e = .returned (.int .i64 r) ∧ (0 ≤ r ↔ ∃ q ∈ l, ¬ PartY q) ∧ Fr NoB w w' := by
  have H := Lib.hid h
  have HAA := Lib.hid HA
  clear h HA
  go_enter Tryd.func98, Tryd.ntmps98
  go_wp2
  go_loopw [8] (fun i W => ∃ k : Nat, k ≤ l.length ∧ i = .int .i64 (k : Int) ∧ (∀ j : Nat, j < k → ∀ q, l[j]? = some q → PartY q) ∧ Fr NoB w W) (fun i _ => l.length - (intOf i).toNat)
  case atStart => exact ⟨0, by omega, rfl, fun j hj => absurd hj (by omega), Fr.refl _ _⟩
  case round =>
    obtain ⟨k, hk, rfl, hno, hfr⟩ := hrel
    have HNO := Lib.hid hno
    have HFR := Lib.hid hfr
    clear hno hfr
    by_cases hlt : k < l.length
    · have hki : (k : Int) < (l.length : Int) := by omega
      have hk0 : (0 : Int) ≤ (k : Int) := by omega
      obtain ⟨b, o, rfl, hb1, hb2, h4⟩ := H.out (by omega)
      obtain ⟨pl, hcs, k1, k2, k3⟩ := h4 k l[k] (List.getElem?_eq_getElem hlt)
      have hm : l[k] ∈ l := List.getElem_mem hlt
      have hg : l[k]? = some l[k] := List.getElem?_eq_getElem hlt
      have hy := ybad_calls l[k] pl lo hi wr (HAA.out _ hm) (k1.fr HFR.out hh (fun _ _ _ x => x)) (k2.fr HFR.out hh (fun _ _ _ x => x)) (k3.fr HFR.out hh (fun _ _ _ x => x)) (Nat.le_trans hh HFR.out.size)
      have HL := Lib.hid (ypart_range (w := wr) fun j v hv => (HFR.out.cell (p := ⟨b, o + k * 22 + j, none⟩) (by simp only; omega) (fun x => x)).trans (hcs j v hv))
      clear hcs k1 k2 k3 h4 hb1 hb2
      generalize l[k] = q at hy HL hm hg
      have HG := Lib.hid hg
      have HM := Lib.hid hm
      clear hm hg
      by_cases hn : PartY q
      · rw [decide_eq_true hn] at hy
        have HY := Lib.hid hy
        have HN := Lib.hid hn
        clear hy hn
        go_wp2_with (first | (refine wpList_load_mid rfl 43 _ rfl b (o + k * 22) rfl _ _ HL.out Tryd.underlying43 rfl (size_reply _ _ _) ?_) | fail)
        refine HY.out.mono ?_
        rintro e w1 ⟨rfl, f1⟩
        have F2 := Lib.hid (HFR.out.trans f1 fun _ _ x => x)
        clear f1 HY HL
        go_wp2
        go_roundw
        case rel =>
          refine ⟨k + 1, by omega, by go_num, fun j hj m hm => ?_, F2.out⟩
          by_cases hjk : j = k
          · subst hjk; have := HG.out; rw [hm] at this; cases this; exact HN.out
          · exact HNO.out j (by omega) m hm
        case measure => simp [intOf]; omega
      · rw [decide_eq_false hn] at hy
        have HY := Lib.hid hy
        have HN := Lib.hid hn
        clear hy hn
        go_wp2_with (first | (refine wpList_load_mid rfl 43 _ rfl b (o + k * 22) rfl _ _ HL.out Tryd.underlying43 rfl (size_reply _ _ _) ?_) | fail)
        refine HY.out.mono ?_
        rintro e w1 ⟨rfl, f1⟩
        have F2 := Lib.hid (HFR.out.trans f1 fun _ _ x => x)
        clear f1 HY HL
        go_wp2
        go_ret
        exact ⟨k, rfl, ⟨fun _ => ⟨q, HM.out, HN.out⟩, fun _ => by omega⟩, F2.out⟩
    · obtain rfl : k = l.length := by omega
      go_wp2
      go_ret
      refine ⟨-1, rfl, ⟨fun h => absurd h (by decide), ?_⟩, HFR.out⟩
      rintro ⟨q, hq, hn⟩
      obtain ⟨j, hj, rfl⟩ := List.getElem_of_mem hq
      exact absurd (HNO.out j hj _ (List.getElem?_eq_getElem hj)) hn
set_option maxHeartbeats 1600000 in
theorem ycontp_calls (A : Option Addr) (l : List (Fy × Nat)) (c lo hi : Nat) (w : World) (h : RdPy w lo hi A l) (hh : hi ≤ w.heap.size) (hl : l.length ≤ 140737488355328) (HA : ∀ q ∈ l, AnsFlat lo hi q) :
    Calls Tryd.prog 78 #[.slice A l.length c, .func (.func 79) #[] #[]] w fun e w' => e = .returned (.bool (decide (∃ q ∈ l, ¬ PartY q))) ∧ Fr NoB w w' := by
  have H := Lib.hid (yindexp_calls A l c lo hi w h hh hl HA)
  clear h HA
  by_cases hx : ∃ q ∈ l, ¬ PartY q
  · rw [decide_eq_true hx]
    have HX := Lib.hid hx
    clear hx
    go_enter Tryd.func78, Tryd.ntmps78
    go_wp2_with (fail)
    refine H.out.mono ?_
    rintro e w1 ⟨r, rfl, hr, f1⟩
    have h0 : 0 ≤ r := hr.2 HX.out
    have HF := Lib.hid f1
    clear hr H f1
    go_wp2
    go_ret
    exact ⟨rfl, HF.out⟩
  · rw [decide_eq_false hx]
    have HX := Lib.hid hx
    clear hx
    go_enter Tryd.func78, Tryd.ntmps78
    go_wp2_with (fail)
    refine H.out.mono ?_
    rintro e w1 ⟨r, rfl, hr, f1⟩
    have h0 : ¬ 0 ≤ r := fun h => HX.out (hr.1 h)
    have HF := Lib.hid f1
    clear hr H f1
    go_wp2
    go_ret
    refine ⟨?_, HF.out⟩
    show Ending.returned (.bool (decide (0 ≤ r))) = _
    rw [decide_eq_false (by omega)]
/-- The condition, in the plain law's words. -/
theorem ycond_iff (f : Fy) (np : Nat) (deep cp : Bool) (hhl : f.hd.length = 5) (hsl : f.st.length = 10) :
    YCond f.k (f.hd.getD 0 0) (f.hd.getD 1 0) (f.hd.getD 2 0) (f.hd.getD 3 0) (f.hd.getD 4 0) f.path f.data.length [f.st.getD 0 0, f.st.getD 1 0, f.st.getD 2 0, f.st.getD 3 0, f.st.getD 4 0, f.st.getD 5 0, f.st.getD 6 0, f.st.getD 7 0, f.st.getD 8 0, f.st.getD 9 0] f.ls f.c.1 f.c.2 np deep cp ↔ (AnsY f np ∧ (deep = true ∨ (np = 0 ∧ f.ls = [])) ∧ cp = false) := by
  obtain ⟨k, hd, path, data, st, ls, c⟩ := f
  simp only at hhl hsl
  match hd, hhl with
  | [a0, a1, a2, a3, a4], _ =>
    match st, hsl with
    | [b0, b1, b2, b3, b4, b5, b6, b7, b8, b9], _ =>
      constructor
      · rintro ⟨e1, e2, e3, e4, e5, e6, e7, e8, e9, e10, e11, e12, e13, e14, e15, e16, e17⟩
        simp only [List.getD_cons_zero, List.getD_cons_succ] at *
        refine ⟨⟨⟨by show 1 ≤ k; omega, by show k ≤ 14; omega⟩, ?_, by simp; omega, by simp; omega, by simp; omega, ?_, by simp; omega, ?_, ?_, by omega⟩, ?_, e17⟩
        · intro n hn
          simp only [List.mem_cons, List.not_mem_nil, or_false] at hn
          rcases hn with rfl | rfl | rfl | rfl | rfl <;> omega
        · intro n hn
          exact Int.not_lt.1 fun h => e13 ⟨n, hn, h⟩
        · intro t ht
          exact Nat.not_lt.1 fun h => e16 ⟨t, ht, h⟩
        · exact e14.imp (fun h => ⟨h.1, List.length_eq_zero_iff.1 h.2⟩) id
        · exact e15.imp id (fun h => ⟨h.1, List.length_eq_zero_iff.1 h.2⟩)
      · rintro ⟨⟨⟨e1, e2⟩, e3, e4, e5, e6, e7, e8, e9, e10, e11⟩, e12, e13⟩
        simp only [List.getD_cons_zero, List.getD_cons_succ] at *
        have m0 := e3 a0 (by simp)
        have m1 := e3 a1 (by simp)
        have m2 := e3 a2 (by simp)
        have m3 := e3 a3 (by simp)
        have m4 := e3 a4 (by simp)
        exact ⟨by omega, by omega, by omega, by omega, by omega, by omega, by omega, by omega, by omega, by omega, by omega, by omega, fun ⟨n, hn, h⟩ => absurd (e7 n hn) (by omega), e10.imp (fun h => ⟨h.1, by rw [h.2]; rfl⟩) id, e12.imp id (fun h => ⟨h.1, by rw [h.2]; rfl⟩), fun ⟨t, ht, h⟩ => absurd (e9 t ht) (by omega), e13⟩
/-- A part is answered flat. -/
theorem yansf_calls (lo hi : Nat) (q : Fy × Nat) (hq : q.1.Ok) : AnsFlat lo hi q := by
  intro pl w h1 h2 h3 hh
  refine yans_core _ _ _ _ _ _ _ _ _ _ _ _ _ _ _ _ _ _ _ _ _ _ _ _ _ _ _ _ _ _ false false _ lo hi w h2 h3 hh (by have := hq.ms; omega) ?_ ?_ ?_
  · intro hc w' hf
    have hc := hc.elim (fun x => absurd x (by decide)) id
    obtain ⟨f, np⟩ := q
    simp only at hc
    subst hc
    have := ycontp_calls pl.P [] pl.e 0 0 w' (RdPy.nil _ _ _ _) (Nat.zero_le _) (by simp) (fun q hq => by cases hq)
    rw [decide_eq_false (by rintro ⟨q, hq, -⟩; cases hq)] at this
    exact this
  · intro h
    have := (ycond_iff q.1 q.2 false false hq.hl hq.sl).1 h
    rw [decide_eq_true]
    exact ⟨this.1, (this.2.1.elim (fun x => absurd x (by decide)) id)⟩
  · intro h
    rw [decide_eq_false]
    intro hp
    exact h ((ycond_iff q.1 q.2 false false hq.hl hq.sl).2 ⟨hp.1, .inr hp.2, rfl⟩)
/-- Whether a reply is right. -/
theorem yansd_calls (f : Fy) (pl : Py) (l : List (Fy × Nat)) (lo hi : Nat) (w : World) (hf : f.Ok) (hok : ∀ q ∈ l, q.1.Ok) (hl : l.length ≤ 140737488355328) (h : RdY w lo hi f pl l) (hh : hi ≤ w.heap.size) :
    Calls Tryd.prog 38 #[yval f pl l.length, .bool true] w fun e w' => e = .returned (.bool (decide (RightY f l))) ∧ Fr NoB w w' := by
  refine yans_core _ _ _ _ _ _ _ _ _ _ _ _ _ _ _ _ _ _ _ _ _ _ _ _ _ _ _ _ _ _ true (decide (∃ q ∈ l, ¬ PartY q)) _ lo hi w h.ls h.ms hh (by have := hf.ms; omega) ?_ ?_ ?_
  · intro _ w' hfr
    exact ycontp_calls pl.P l pl.e lo hi w' (h.parts.fr hfr hh (fun _ _ _ x => x)) (Nat.le_trans hh hfr.size) hl (fun q hq => yansf_calls lo hi q (hok q hq))
  · intro hc
    obtain ⟨h1, -, h3⟩ := (ycond_iff f l.length true _ hf.hl hf.sl).1 hc
    rw [decide_eq_true]
    exact ⟨h1, fun q hq => Decidable.byContradiction fun hn => absurd ⟨q, hq, hn⟩ (of_decide_eq_false h3)⟩
  · intro hc
    rw [decide_eq_false]
    intro hr
    exact hc ((ycond_iff f l.length true _ hf.hl hf.sl).2 ⟨hr.1, .inl rfl, decide_eq_false fun ⟨q, hq, hn⟩ => hn (hr.2 q hq)⟩)
end Go.Proofs.YtlckgkpgllhpbaaDoor
