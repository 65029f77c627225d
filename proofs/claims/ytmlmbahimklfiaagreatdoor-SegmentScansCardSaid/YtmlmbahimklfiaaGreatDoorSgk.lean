/-
  Sgk: SegmentPuts, SegmentScans: the walks.
-/
import Derived.Test.YtmlmbahimklfiaaGreatDoorSgj
import Derived.Test.YtmlmbahimklfiaaGreatDoorSgv
namespace Go.Proofs.YtmlmbahimklfiaaGreatDoor
open Go.RowKit

set_option maxHeartbeats 800000 in
theorem samez_calls (A A' : Option Addr) (l : List Int) (c c' : Nat) (w : World) (h : RdZ w A l) (h' : RdZ w A' l) (hl : l.length ≤ 140737488355328) :
    Calls Tryz.prog 13 #[.slice A l.length c, .slice A' l.length c'] w fun e w' => e = .returned (.bool true) ∧ Fr NoB w w' := by
  go_enter Tryz.func13, Tryz.ntmps13
  go_wp2
  go_loopw [4, 5] (fun r i wr => r = .bool false ∧ ∃ k : Nat, k ≤ l.length ∧ i = .int .i64 (k : Int) ∧ ∃ n, wr = w.drewN n) (fun _ i _ => l.length - (intOf i).toNat)
  case atStart => exact ⟨rfl, 0, Nat.zero_le _, rfl, 0, rfl⟩
  case round =>
    obtain ⟨rfl, k, hk, rfl, n, rfl⟩ := hrel
    by_cases hlt : k < l.length
    · obtain ⟨b, o, rfl, -, h0⟩ := h (by omega)
      obtain ⟨b', o', rfl, -, h0'⟩ := h' (by omega)
      have hc := h0 k hlt
      have hc' := h0' k hlt
      clear h h' h0 h0'
      generalize l.getD k 0 = x at hc hc'
      have hi1 : ((k : Int) < (l.length : Int)) := by omega
      go_wp2
      go_quiet (fail)
      go_wp2
      go_roundw
      case rel => exact ⟨rfl, k + 1, by omega, by go_num, n + nq, by simp⟩
      case measure => simp [intOf]; omega
    · clear h h'
      go_wp2
      go_ret
      exact ⟨rfl, (Fr.refl NoB w).drewN n⟩
theorem samez_n (A A' : Option Addr) (l : List Int) (n c c' : Nat) (w : World) (hn : l.length = n) (h : RdZ w A l) (h' : RdZ w A' l) (hl : n ≤ 140737488355328) :
    Calls Tryz.prog 13 #[.slice A n c, .slice A' n c'] w fun e w' => e = .returned (.bool true) ∧ Fr NoB w w' := by
  subst hn; exact samez_calls A A' l c c' w h h' hl

set_option maxRecDepth 8000 in
set_option maxHeartbeats 6400000 in
theorem sputs_walk (f : Fd) (l : List (Fd × Nat)) (cs : Array Value) (w : World) (hl : l.length ≤ 140737488355328) (hf : f.Ok) (hok : ∀ q ∈ l, q.1.Ok ∧ q.2 ≤ 140737488355328) (hD : IsD w cs f l) (hH : Has w) (hM : Max w) :
    Calls Tryz.prog 3 #[.agg cs] w fun e w' => e = .returned (.bool true) ∧ Fr NoB w w' := by
  have H16 := Lib.hid hD.size
  have hplen := putS_len f l
  have HA := Lib.hid (fun W (F : Fr NoB w W) => awake_calls W (hH.fr F))
  have hp := fun W (F : Fr NoB w W) => sput_calls (hD.fr F) hl hf hok (hH.fr F)
  have hq := fun W (F : Fr NoB w W) => rsput_calls (hD.fr F) hl hf hok (hM.fr F)
  have hcells : ∃ P e A c B d, cs[15]? = some (.slice P l.length e) ∧ cs[7]? = some (.slice A f.data.length c) ∧ cs[14]? = some (.slice B f.c.2.length d) := by
    obtain ⟨p, lo, hi, rfl, -, -⟩ := hD
    exact ⟨_, _, _, _, _, _, rfl, rfl, rfl⟩
  obtain ⟨P, e1, A, c1, B, d1, h15, h7, h14⟩ := hcells
  generalize putS f l = PD at *
  have HP := Lib.hid hp
  have HQ := Lib.hid hq
  have k15 : (w.alloc (.cells cs 31)).cell? ⟨w.heap.size, 15, none⟩ = some (.slice P l.length e1) := by rw [Lib.cell_of_heap (heap_alloc_new w _)]; exact h15
  have k7 : (w.alloc (.cells cs 31)).cell? ⟨w.heap.size, 7, none⟩ = some (.slice A f.data.length c1) := by rw [Lib.cell_of_heap (heap_alloc_new w _)]; exact h7
  have k14 : (w.alloc (.cells cs 31)).cell? ⟨w.heap.size, 14, none⟩ = some (.slice B f.c.2.length d1) := by rw [Lib.cell_of_heap (heap_alloc_new w _)]; exact h14
  have HB0 := Lib.hid (heap_alloc_new w (.cells cs 31))
  have F0 := Lib.hid ((Fr.refl NoB w).alloc (.cells cs 31))
  obtain ⟨n1, hn1⟩ : ∃ n, l.length = n := ⟨_, rfl⟩
  obtain ⟨n2, hn2⟩ : ∃ n, f.data.length = n := ⟨_, rfl⟩
  obtain ⟨n3, hn3⟩ : ∃ n, f.c.2.length = n := ⟨_, rfl⟩
  rw [hn1] at k15
  rw [hn2] at k7
  rw [hn3] at k14
  clear hp hq hD hf hok hH hM h15 h7 h14 hl hn1 hn2 hn3
  by_cases c1' : 500 < n1
  · have g1 : (500 : Int) < (n1 : Int) := by omega
    have gd1 : decide ((500 : Int) < (n1 : Int)) = true := decide_eq_true g1
    go_enter Tryz.func3, Tryz.ntmps3
    go_wp2_with (fail)
    refine (HA.out _ F0.out).mono ?_
    rintro e w2 ⟨rfl, f2⟩
    go_wp2
    go_ret
    exact ⟨rfl, F0.out.then f2⟩
  have g1 : ¬ (500 : Int) < (n1 : Int) := by omega
  have gd1 : decide ((500 : Int) < (n1 : Int)) = false := decide_eq_false g1
  by_cases c2' : 60000 < n2
  · have g2 : (60000 : Int) < (n2 : Int) := by omega
    have gd2 : decide ((60000 : Int) < (n2 : Int)) = true := decide_eq_true g2
    go_enter Tryz.func3, Tryz.ntmps3
    go_wp2_with (fail)
    refine (HA.out _ F0.out).mono ?_
    rintro e w2 ⟨rfl, f2⟩
    go_wp2
    go_ret
    exact ⟨rfl, F0.out.then f2⟩
  have g2 : ¬ (60000 : Int) < (n2 : Int) := by omega
  have gd2 : decide ((60000 : Int) < (n2 : Int)) = false := decide_eq_false g2
  by_cases c3' : 1000 < n3
  · have g3 : (1000 : Int) < (n3 : Int) := by omega
    have gd3 : decide ((1000 : Int) < (n3 : Int)) = true := decide_eq_true g3
    go_enter Tryz.func3, Tryz.ntmps3
    go_wp2_with (fail)
    refine (HA.out _ F0.out).mono ?_
    rintro e w2 ⟨rfl, f2⟩
    go_wp2
    go_ret
    exact ⟨rfl, F0.out.then f2⟩
  have g3 : ¬ (1000 : Int) < (n3 : Int) := by omega
  have gd3 : decide ((1000 : Int) < (n3 : Int)) = false := decide_eq_false g3
  go_enter Tryz.func3, Tryz.ntmps3
  go_wp2_with (first | (refine wpList_load_row rfl 31 (.tmp 1) rfl w.heap.size rfl _ _ _ _ HB0.out Tryz.underlying31 rfl (size_of H16.out) ?_) | fail)
  refine (HP.out _ F0.out).mono ?_
  rintro e w3 ⟨PA, pc, rfl, -, -, hr3, f3⟩
  have F3 := Lib.hid (F0.out.then f3)
  have HB3 := Lib.hid (f3.at_ HB0.out (fun x => x))
  have R3 := Lib.hid (hr3.wide (Nat.zero_le _) (Nat.le_refl _))
  clear f3 HP hr3 k15 k7 k14
  go_wp2_with (first | (refine wpList_load_row rfl 31 (.tmp 1) rfl w.heap.size rfl _ _ _ _ HB3.out Tryz.underlying31 rfl (size_of H16.out) ?_) | fail)
  refine (HQ.out _ F3.out).mono ?_
  rintro e w4 ⟨QA, qc, rfl, -, -, hr4, f4⟩
  have F4 := Lib.hid (F3.out.then f4)
  have R4 := Lib.hid (R3.out.fr f4 (Nat.le_refl _) (fun _ _ _ x => x))
  have S4 := Lib.hid (hr4.wide (Nat.zero_le _) (Nat.le_refl _))
  have hsm := same_again PA QA PD.1 pc qc _ _ _ _ w4 R4.out S4.out (by omega)
  clear f4 F3 HB3 HQ hr4 R3 HB0
  go_wp2_with (fail)
  refine hsm.mono ?_
  rintro e w5 ⟨rfl, f5⟩
  go_wp2_with (fail)
  refine (HA.out _ (F4.out.then f5)).mono ?_
  rintro e w6 ⟨rfl, f6⟩
  go_wp2
  go_ret
  exact ⟨rfl, F4.out.then (f5.then f6)⟩

set_option maxRecDepth 8000 in
set_option maxHeartbeats 6400000 in
theorem sscans_walk (A : Option Addr) (b : List UInt8) (c : Nat) (w : World) (h : Rd w 0 w.heap.size A b) (hlc : b.length ≤ c) (hcm : c ≤ maxLen) (hH : Has w) (hM : Max w) :
    Calls Tryz.prog 4 #[.slice A b.length c] w fun e w' => e = .returned (.bool true) ∧ Fr NoB w w' := by
  have HW := Lib.hid hH
  by_cases hgt : 60000 < b.length
  · have hg : (60000 : Int) < (b.length : Int) := by omega
    clear h hH hlc hcm
    go_enter Tryz.func4, Tryz.ntmps4
    go_wp2_with (fail)
    refine (awake_calls w HW.out).mono ?_
    rintro e w1 ⟨rfl, f1⟩
    go_wp2
    go_ret
    exact ⟨rfl, f1⟩
  have hg : ¬ (60000 : Int) < (b.length : Int) := by omega
  have hdg : decide ((60000 : Int) < (b.length : Int)) = false := decide_eq_false hg
  have hle := segB_le b
  have hcnt := segB_count (scan b)
  have hsl : (scan b).length ≤ 60000 := by omega
  have hsc := scan_calls A b c 0 w.heap.size w h (Nat.le_refl _) hlc hcm (by omega) hH
  have hrc := fun W (F : Fr NoB w W) => rscan_calls A b c 0 w.heap.size W (h.fr F (Nat.le_refl _) (fun _ _ _ x => x)) F.size hlc hcm (by omega) (hM.fr F)
  have hok := fun d (hd : d ∈ scan b) => (scan_again b).2.2.1 d hd
  unfold Scanned at hsc hrc
  generalize scan b = ds at *
  have hel : (endZ ds).length = ds.length := by simp [endZ, endsOf_len]
  have HSC := Lib.hid hsc
  have HRC := Lib.hid hrc
  have HOK := Lib.hid hok
  have HEL := Lib.hid hel
  obtain ⟨m, hm⟩ : ∃ m, (segB ds).length = m := ⟨_, rfl⟩
  rw [hm] at HSC HRC
  clear hsc hrc hok h hH hM hm hle hcnt hel
  go_enter Tryz.func4, Tryz.ntmps4
  go_wp2_with (fail)
  refine HSC.out.mono ?_
  rintro e w1 ⟨A1, c1, A2, c2, LL, rfl, hLL, hD, f1⟩
  have F1 := Lib.hid f1
  have hlen : LL.length = ds.length := by have := congrArg List.length hLL; simpa using this
  have hRD := hD.rd
  rw [hLL] at hRD
  have hZ : RdZ w1 A2 (endZ ds) := RdZ.own (n := ds.length) (c := c2) hD.ends
  rw [hlen]
  have R1 := Lib.hid hRD
  have Z1 := Lib.hid hZ
  clear hD hLL hlen hRD hZ f1 HSC
  go_wp2_with (fail)
  refine (HRC.out w1 F1.out).mono ?_
  rintro e w2 ⟨A3, c3, A4, c4, LL2, rfl, hLL, hD, f2⟩
  have F2 := Lib.hid f2
  have hlen : LL2.length = ds.length := by have := congrArg List.length hLL; simpa using this
  have hRD := hD.rd
  rw [hLL] at hRD
  have hZ : RdZ w2 A4 (endZ ds) := RdZ.own (n := ds.length) (c := c4) hD.ends
  rw [hlen]
  have R2 := Lib.hid hRD
  have Z2 := Lib.hid hZ
  clear hD hLL hlen hRD hZ f2 HRC
  go_wp2_with (fail)
  refine (samess_calls A1 A3 ds c1 c3 _ _ _ _ w2 (R1.out.fr F2.out (Nat.le_refl _) (fun _ _ _ x => x)) F2.out.size R2.out (Nat.le_refl _) (by omega) (fun d hd => by have hr := HOK.out d hd; exact Fine.right hr.1 hr.2.1 (fun q hq => ⟨(hr.2.2 q hq).1, by rw [(hr.2.2 q hq).2]; omega⟩))).mono ?_
  rintro e w3 ⟨rfl, f3⟩
  go_wp2_with (fail)
  refine (samez_n A2 A4 (endZ ds) ds.length c2 c4 w3 HEL.out ((Z1.out.fr F2.out).fr f3) (Z2.out.fr f3) (by omega)).mono ?_
  rintro e w4 ⟨rfl, f4⟩
  have F4 := Lib.hid (F1.out.then (F2.out.then (f3.then f4)))
  go_wp2_with (fail)
  refine (awake_calls w4 (HW.out.fr F4.out)).mono ?_
  rintro e w5 ⟨rfl, f5⟩
  go_wp2
  go_ret
  exact ⟨rfl, F4.out.then f5⟩
end Go.Proofs.YtmlmbahimklfiaaGreatDoor
