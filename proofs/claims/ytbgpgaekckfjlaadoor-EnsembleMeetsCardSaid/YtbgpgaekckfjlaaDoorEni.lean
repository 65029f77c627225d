/-
  Eni: EnsembleMeets's walk.
-/
import Derived.Test.YtbgpgaekckfjlaaDoorEnh
namespace Go.Proofs.YtbgpgaekckfjlaaDoor
open Go.RowKit

set_option maxRecDepth 8000 in
set_option maxHeartbeats 6400000 in
theorem meets_walk (v : Int) (A D D' : Option Addr) (ms : List Mem) (a b : List Int) (c d d' : Nat) (w : World) (h : RdM w 0 w.heap.size A ms) (hl : ms.length ≤ 140737488355328) (h1 : RdI w 0 w.heap.size D a) (hl1 : a.length ≤ 140737488355328) (h2 : RdI w 0 w.heap.size D' b) (hl2 : b.length ≤ 140737488355328) :
    Calls Tryd.prog 5 #[.agg #[.int .i64 v, .slice A ms.length c], .slice D a.length d, .slice D' b.length d'] w fun e w' => e = .returned (.bool true) ∧ Fr NoB w w' := by
  have hla : (a.length : Int) ≤ 140737488355328 := by omega
  have hlb : (b.length : Int) ≤ 140737488355328 := by omega
  have hwl : IntKind.i64.wrap ((a.length : Int) + (b.length : Int)) = (a.length : Int) + (b.length : Int) := by rw [IntKind.wrap_i64]; omega
  have HQ1 := Lib.hid (fun W (f : Fr NoB w W) => quorum_calls v A ms c 0 w.heap.size D a d 0 w.heap.size W (h.fr f (Nat.le_refl _) (fun _ _ _ x => x)) f.size hl (h1.fr f (Nat.le_refl _) (fun _ _ _ x => x)) f.size hl1)
  have HQ2 := Lib.hid (fun W (f : Fr NoB w W) => quorum_calls v A ms c 0 w.heap.size D' b d' 0 w.heap.size W (h.fr f (Nat.le_refl _) (fun _ _ _ x => x)) f.size hl (h2.fr f (Nat.le_refl _) (fun _ _ _ x => x)) f.size hl2)
  have HH1 := Lib.hid (fun W (x : Int) (f : Fr NoB w W) => has_calls D a d 0 w.heap.size x W (h1.fr f (Nat.le_refl _) (fun _ _ _ x => x)) hl1)
  have HH2 := Lib.hid (fun W (x : Int) (f : Fr NoB w W) => has_calls D' b d' 0 w.heap.size x W (h2.fr f (Nat.le_refl _) (fun _ _ _ x => x)) hl2)
  have HM := Lib.hid h
  have HMT := Lib.hid (fun ha hb => quo_meets (v := v) (ms := ms) (a := a) (b := b) ha hb)
  clear h h1 h2
  go_enter Tryd.func5, Tryd.ntmps5
  go_wp2_with (fail)
  have F0 := Lib.hid ((Fr.refl NoB w).alloc (.cells #[.int .i64 v, .slice A ms.length c] 25))
  have HBX := Lib.hid (heap_alloc_new w (.cells #[.int .i64 v, .slice A ms.length c] 25))
  generalize w.alloc (.cells #[.int .i64 v, .slice A ms.length c] 25) = wb at F0 HBX ⊢
  refine (awake_calls _).mono ?_
  rintro e w1 ⟨rfl, f1⟩
  have F1 := Lib.hid f1
  clear f1
  have hq0 := (cfg_cells (F1.out.at_ HBX.out (fun x => x))).1
  have hq1 := (cfg_cells (F1.out.at_ HBX.out (fun x => x))).2
  by_cases hbig : (1000 : Int) < (a.length : Int) + (b.length : Int)
  · go_wp2
    go_ret
    exact ⟨rfl, F0.out.then F1.out⟩
  · have hsm : (a.length : Int) + (b.length : Int) ≤ 1000 := by omega
    clear hbig
    go_wp2_with (fail)
    refine (HQ1.out _ (F0.out.then F1.out)).mono ?_
    rintro e w2 ⟨rfl, f2⟩
    have F2 := Lib.hid (F1.out.then f2)
    clear f2 hq0 hq1 HQ1
    have hq0 := (cfg_cells (F2.out.at_ HBX.out (fun x => x))).1
    have hq1 := (cfg_cells (F2.out.at_ HBX.out (fun x => x))).2
    cases hqa : quo v ms a
    · go_wp2
      go_ret
      exact ⟨rfl, F0.out.then F2.out⟩
    · go_wp2_with (fail)
      refine (HQ2.out _ (F0.out.then F2.out)).mono ?_
      rintro e w3 ⟨rfl, f3⟩
      have F3 := Lib.hid (F2.out.then f3)
      clear f3 hq0 hq1 HQ2
      cases hqb : quo v ms b
      · go_wp2
        go_ret
        exact ⟨rfl, F0.out.then F3.out⟩
      · have HX := Lib.hid (HMT.out hqa hqb)
        clear HMT hqa hqb
        go_wp2
        go_loopw [6, 7] (fun r i wr => r = .bool false ∧ ∃ k : Nat, k ≤ ms.length ∧ i = .int .i64 (k : Int) ∧ Fr NoB wb wr ∧ ∃ m, m ∈ ms.drop k ∧ m.2.1 = 1 ∧ 0 < m.2.2.1 ∧ a.contains m.1 = true ∧ b.contains m.1 = true) (fun _ i _ => ms.length - (intOf i).toNat)
        case atStart => exact ⟨rfl, 0, Nat.zero_le _, rfl, F3.out, HX.out⟩
        case round =>
          obtain ⟨rfl, k, hk, rfl, hf, hex⟩ := hrel
          have FR := Lib.hid hf
          have EX := Lib.hid hex
          clear hf hex
          by_cases hlt : k < ms.length
          · obtain ⟨bb, o, rfl, hb1, hb2, hcs⟩ := HM.out (by omega)
            obtain ⟨d0, d1, d2, d3⟩ := hcs k ms[k] (List.getElem?_eq_getElem hlt)
            have hdr := List.drop_eq_getElem_cons hlt
            clear hcs
            generalize ms[k] = m at d0 d1 d2 d3 hdr
            obtain ⟨m0, m1, m2, m3⟩ := m
            simp only at d0 d1 d2 d3
            have FW : Hid (Fr NoB w wr) := F0.out.then FR.out
            have e0 := (FW.out.cell (p := ⟨bb, o + k * 4, none⟩) (by simp only; omega) (fun x => x)).trans d0
            have e1 := (FW.out.cell (p := ⟨bb, o + k * 4 + 1, none⟩) (by simp only; omega) (fun x => x)).trans d1
            have e2 := (FW.out.cell (p := ⟨bb, o + k * 4 + 2, none⟩) (by simp only; omega) (fun x => x)).trans d2
            have e3 := (FW.out.cell (p := ⟨bb, o + k * 4 + 3, none⟩) (by simp only; omega) (fun x => x)).trans d3
            have c1 := (cfg_cells (FR.out.at_ HBX.out (fun x => x))).2
            have hi2 : (k : Int) < (ms.length : Int) := by omega
            have HDR := Lib.hid hdr
            clear d0 d1 d2 d3 hdr
            have hnext : ¬ (m1 = 1 ∧ 0 < m2 ∧ a.contains m0 = true ∧ b.contains m0 = true) → ∃ m, m ∈ ms.drop (k + 1) ∧ m.2.1 = 1 ∧ 0 < m.2.2.1 ∧ a.contains m.1 = true ∧ b.contains m.1 = true := fun hno => by
              obtain ⟨m, hm, hp⟩ := EX.out
              rw [HDR.out] at hm
              rcases List.mem_cons.1 hm with rfl | hm
              · exact absurd hp hno
              · exact ⟨m, hm, hp⟩
            have HNX := Lib.hid hnext
            clear hnext EX HX
            have HA := Lib.hid (fun W (f : Fr NoB wr W) => HH1.out W m0 (FW.out.then f))
            have HB := Lib.hid (fun W (f : Fr NoB wr W) => HH2.out W m0 (FW.out.then f))
            have nx := bx_keep (w := wr) (cs := #[.int .i64 m0, .int .u8 m1, .int .i64 m2, .int .i64 m3]) (t := 30) (fr := (0, 0)) (Fr.refl NoB _) 0 (.int .i64 m0) rfl
            by_cases h11 : m1 = 1
            · subst h11
              by_cases h22 : 0 < m2
              · go_wp2_with (fail)
                refine (HA.out _ ((Fr.refl NoB wr).alloc (.cells #[.int .i64 m0, .int .u8 1, .int .i64 m2, .int .i64 m3] 30))).mono ?_
                rintro e w4 ⟨rfl, n4, rfl⟩
                have K4 := Lib.hid (((Fr.refl NoB wr).alloc (.cells #[.int .i64 m0, .int .u8 1, .int .i64 m2, .int .i64 m3] 30)).drewN n4)
                have nx2 : ((wr.alloc (.cells #[.int .i64 m0, .int .u8 1, .int .i64 m2, .int .i64 m3] 30)).drewN n4).cell? ⟨wr.heap.size, 0, none⟩ = some (.int .i64 m0) := nx
                generalize (wr.alloc (.cells #[.int .i64 m0, .int .u8 1, .int .i64 m2, .int .i64 m3] 30)).drewN n4 = w4 at K4 nx2 ⊢
                cases hca : a.contains m0
                · have HN2 := Lib.hid (HNX.out (fun x => by rw [hca] at x; simp at x))
                  clear hca nx
                  go_wp2
                  go_roundw
                  case rel => exact ⟨rfl, k + 1, by omega, by go_num, FR.out.then K4.out, HN2.out⟩
                  case measure => simp [intOf]; omega
                · clear nx
                  go_wp2_with (fail)
                  refine (HB.out _ K4.out).mono ?_
                  rintro e w5 ⟨rfl, n5, rfl⟩
                  cases hcb : b.contains m0
                  · have HN2 := Lib.hid (HNX.out (fun x => by rw [hcb] at x; simp at x))
                    clear hca hcb
                    go_wp2
                    go_roundw
                    case rel => exact ⟨rfl, k + 1, by omega, by go_num, FR.out.then (K4.out.drewN n5), HN2.out⟩
                    case measure => simp [intOf]; omega
                  · clear hca hcb
                    go_wp2
                    go_ret
                    exact ⟨rfl, FW.out.then (K4.out.drewN n5)⟩
              · have HN2 := Lib.hid (HNX.out (fun x => h22 x.2.1))
                have h23 : m2 ≤ 0 := by omega
                clear h22 nx
                go_wp2
                go_roundw
                case rel => exact ⟨rfl, k + 1, by omega, by go_num, FR.out.alloc _, HN2.out⟩
                case measure => simp [intOf]; omega
            · have HN2 := Lib.hid (HNX.out (fun x => h11 x.1))
              have hb11 : (m1 == 1) = false := by simp [h11]
              clear h11 nx
              go_wp2
              go_roundw
              case rel => exact ⟨rfl, k + 1, by omega, by go_num, FR.out.alloc _, HN2.out⟩
              case measure => simp [intOf]; omega
          · exfalso
            obtain ⟨m, hm, -⟩ := EX.out
            rw [List.drop_of_length_le (by omega)] at hm
            cases hm

end Go.Proofs.YtbgpgaekckfjlaaDoor
