/-
  Enh: the statements' own 'awake' of chapter 4: true.
-/
import Derived.Test.YtbgpgaekckfjlaaDoorEng
namespace Go.Proofs.YtbgpgaekckfjlaaDoor
open Go.RowKit

theorem awk_getR : getR (ensB 5 awkMs) = (5, awkMs, some []) := by decide +kernel
theorem awk_pos : 0 < (ensB 5 awkMs).length := by decide +kernel
theorem awk_len : (ensB 5 awkMs).length ≤ 140737488355328 := by decide +kernel
theorem awk_vot : votM awkMs 3 = true := by decide +kernel

/-- A config in a block of its own. -/
theorem cfg_cells {w : World} {T : Nat} {v : Int} {S : Value} (h : w.heap[T]? = some (.cells #[.int .i64 v, S] 25 (0, 0))) : w.cell? ⟨T, 0, none⟩ = some (.int .i64 v) ∧ w.cell? ⟨T, 1, none⟩ = some S :=
  ⟨Lib.cell_of_heap h 0, Lib.cell_of_heap h 1⟩

set_option maxRecDepth 8000 in
set_option maxHeartbeats 6400000 in
theorem awake_calls (w : World) : Calls Tryd.prog 9 #[] w fun e w' => e = .returned (.bool true) ∧ Fr NoB w w' := by
  have HP : Hid (∀ (W : World) (A : Option Addr) (c lo hi : Nat), RdM W lo hi A awkMs → hi ≤ W.heap.size → Calls Tryd.prog 18 #[.agg #[.int .i64 5, .slice A 3 c]] W fun e w' => ∃ A' c', e = .returned (.tuple #[.slice A' (ensB 5 awkMs).length c', .int .i64 0]) ∧ (ensB 5 awkMs).length ≤ c' ∧ c' ≤ maxLen ∧ Rd w' W.heap.size w'.heap.size A' (ensB 5 awkMs) ∧ Fr NoB W w') :=
    fun W A c lo hi h hh => put_config 5 A awkMs c lo hi W h hh (by decide) awk_chk
  have HG : Hid (∀ (W : World) (A : Option Addr) (c lo hi : Nat), Rd W lo hi A (ensB 5 awkMs) → hi ≤ W.heap.size → Calls Tryd.prog 21 #[.slice A (ensB 5 awkMs).length c] W fun e w' => ∃ A' c', e = .returned (.tuple #[.agg #[.int .i64 5, .slice A' 3 c'], .int .i64 0]) ∧ RdM w' W.heap.size w'.heap.size A' awkMs ∧ Fr NoB W w') := fun W A c lo hi h hh => by
    refine (get_config A (ensB 5 awkMs) c lo hi W h hh awk_len 5 awkMs awk_getR awk_chk).mono ?_
    rintro e w' ⟨A', c', rfl, -, -, r, f⟩
    exact ⟨A', c', rfl, r, f⟩
  have HC : Hid (∀ (W : World) (A : Option Addr) (c lo hi : Nat), RdM W lo hi A awkMs → hi ≤ W.heap.size → Calls Tryd.prog 13 #[.agg #[.int .i64 5, .slice A 3 c]] W fun e w' => e = .returned (.int .i64 0) ∧ Fr NoB W w') := fun W A c lo hi h hh => by
    have k := check_calls 5 A awkMs c lo hi W h hh (by decide)
    rw [awk_chk] at k
    exact k
  have HQ1 : Hid (∀ (W : World) (A : Option Addr) (c lo hi : Nat) (t : TypeId), RdM (W.alloc (.cells #[.int .i64 1, .int .i64 2] t)) lo hi A awkMs → hi ≤ (W.alloc (.cells #[.int .i64 1, .int .i64 2] t)).heap.size → Calls Tryd.prog 26 #[.agg #[.int .i64 5, .slice A 3 c], .slice (some ⟨W.heap.size, 0, none⟩) 2 2] (W.alloc (.cells #[.int .i64 1, .int .i64 2] t)) fun e w' => e = .returned (.bool true) ∧ Fr NoB (W.alloc (.cells #[.int .i64 1, .int .i64 2] t)) w') := fun W A c lo hi t h hh => by
    have k := quorum_calls 5 A awkMs c lo hi (some ⟨W.heap.size, 0, none⟩) [1, 2] 2 W.heap.size (W.heap.size + 1) _ h hh (by decide) (rdi_block (l := [1, 2]) (heap_alloc_new W _) rfl) (by simp) (by decide)
    rw [awk_q1] at k
    exact k
  have HQ2 : Hid (∀ (W : World) (A : Option Addr) (c lo hi : Nat) (t : TypeId), RdM (W.alloc (.cells #[.int .i64 3] t)) lo hi A awkMs → hi ≤ (W.alloc (.cells #[.int .i64 3] t)).heap.size → Calls Tryd.prog 26 #[.agg #[.int .i64 5, .slice A 3 c], .slice (some ⟨W.heap.size, 0, none⟩) 1 1] (W.alloc (.cells #[.int .i64 3] t)) fun e w' => e = .returned (.bool false) ∧ Fr NoB (W.alloc (.cells #[.int .i64 3] t)) w') := fun W A c lo hi t h hh => by
    have k := quorum_calls 5 A awkMs c lo hi (some ⟨W.heap.size, 0, none⟩) [3] 1 W.heap.size (W.heap.size + 1) _ h hh (by decide) (rdi_block (l := [3]) (heap_alloc_new W _) rfl) (by simp) (by decide)
    rw [awk_q2] at k
    exact k
  have HV : Hid (∀ (W : World) (A : Option Addr) (c lo hi : Nat), RdM W lo hi A awkMs → hi ≤ W.heap.size → Calls Tryd.prog 15 #[.agg #[.int .i64 5, .slice A 3 c], .int .i64 3] W fun e w' => e = .returned (.bool true) ∧ Fr NoB W w') := fun W A c lo hi h hh => by
    have k := voter_calls 5 A awkMs c lo hi 3 W h hh (by decide)
    rw [awk_vot] at k
    exact k
  have HS : Hid (∀ (W : World) (A A' : Option Addr) (c c' lo hi lo' hi' : Nat), RdM W lo hi A awkMs → hi ≤ W.heap.size → RdM W lo' hi' A' awkMs → hi' ≤ W.heap.size → Calls Tryd.prog 24 #[.agg #[.int .i64 5, .slice A 3 c], .agg #[.int .i64 5, .slice A' 3 c']] W fun e w' => e = .returned (.bool true) ∧ Fr NoB W w') := fun W A A' c c' lo hi lo' hi' h hh h' hh' => sameE_calls 5 A A' awkMs c c' lo hi lo' hi' W h hh h' hh' (by decide)
  obtain ⟨Z, hZ⟩ : ∃ Z, ensB 5 awkMs = Z := ⟨_, rfl⟩
  have hz := awk_pos
  rw [hZ] at HP HG hz
  have hzi : (0 : Int) < (Z.length : Int) := by omega
  clear hZ hz
  go_enter Tryd.func9, Tryd.ntmps9
  go_wp2_with (fail)
  refine (three_calls 1 1 1 _).mono ?_
  rintro e w1 ⟨A1, rfl, r1, f1⟩
  go_wp2_with (fail)
  have hT1 := heap_alloc_new w1 (.cells #[.int .i64 5, .slice A1 3 3] 25)
  have F2 := Lib.hid (f1.alloc (.cells #[.int .i64 5, .slice A1 3 3] 25))
  have R2 := Lib.hid (show RdM _ _ _ A1 awkMs from r1.fr ((Fr.refl NoB w1).alloc (.cells #[.int .i64 5, .slice A1 3 3] 25)) (Nat.le_refl _) (fun _ _ _ x => x))
  have S2 := Lib.hid (((Fr.refl NoB w1).alloc (.cells #[.int .i64 5, .slice A1 3 3] 25)).size)
  generalize w1.alloc (.cells #[.int .i64 5, .slice A1 3 3] 25) = w2 at hT1 F2 R2 S2 ⊢
  have HT1 := Lib.hid hT1
  clear r1 f1 hT1
  generalize w1.heap.size = T1 at HT1 R2 S2 ⊢
  refine (HP.out _ _ _ _ _ R2.out S2.out).mono ?_
  rintro e w3 ⟨A3, c3, rfl, -, -, r3, f3⟩
  have R3 := Lib.hid r3
  have G3 := Lib.hid f3
  clear r3 f3
  go_wp2_with (fail)
  refine (HG.out _ _ _ _ _ R3.out (Nat.le_refl _)).mono ?_
  rintro e w4 ⟨A4, c4, rfl, r4, f4⟩
  have G4 := Lib.hid (G3.out.then f4)
  have hq1 := fun o => cfg_cells (((G4.out).alloc o).at_ HT1.out (fun x => x))
  have hq10 := fun o => (hq1 o).1
  have hq11 := fun o => (hq1 o).2
  clear hq1
  go_wp2_with (fail)
  clear hq10 hq11
  have hT2 := heap_alloc_new w4 (.cells #[.int .i64 5, .slice A4 3 c4] 25)
  have G5 := Lib.hid (G4.out.alloc (.cells #[.int .i64 5, .slice A4 3 c4] 25))
  have R5 := Lib.hid (r4.fr ((Fr.refl NoB w4).alloc (.cells #[.int .i64 5, .slice A4 3 c4] 25)) (Nat.le_refl _) (fun _ _ _ x => x))
  have S5 := Lib.hid (((Fr.refl NoB w4).alloc (.cells #[.int .i64 5, .slice A4 3 c4] 25)).size)
  generalize w4.alloc (.cells #[.int .i64 5, .slice A4 3 c4] 25) = w5 at hT2 G5 R5 S5 ⊢
  have HT2 := Lib.hid hT2
  clear r4 f4 hT2 G4 R3 G3
  generalize w4.heap.size = T2 at HT2 R5 S5 ⊢
  have RR := Lib.hid (fun W (f : Fr NoB w2 W) => R2.out.fr f S2.out (fun _ _ _ x => x))
  refine (HC.out _ _ _ _ _ (RR.out _ G5.out) (Nat.le_trans S2.out G5.out.size)).mono ?_
  rintro e w6 ⟨rfl, f6⟩
  have K6 := Lib.hid f6
  clear f6
  have hq10 := (cfg_cells ((G5.out.then K6.out).at_ HT1.out (fun x => x))).1
  have hq11 := (cfg_cells ((G5.out.then K6.out).at_ HT1.out (fun x => x))).2
  go_wp2_with (fail)
  refine (HQ1.out _ _ _ _ _ _ (RR.out _ ((G5.out.then K6.out).alloc _)) (Nat.le_trans S2.out ((G5.out.then K6.out).alloc _).size)).mono ?_
  rintro e w7 ⟨rfl, f7⟩
  have K7 := Lib.hid ((K6.out.alloc _).then f7)
  clear f7 hq10 hq11 K6
  have hq10 := (cfg_cells ((G5.out.then K7.out).at_ HT1.out (fun x => x))).1
  have hq11 := (cfg_cells ((G5.out.then K7.out).at_ HT1.out (fun x => x))).2
  go_wp2_with (fail)
  refine (HQ2.out _ _ _ _ _ _ (RR.out _ ((G5.out.then K7.out).alloc _)) (Nat.le_trans S2.out ((G5.out.then K7.out).alloc _).size)).mono ?_
  rintro e w8 ⟨rfl, f8⟩
  have K8 := Lib.hid ((K7.out.alloc _).then f8)
  clear f8 hq10 hq11 K7
  have hq10 := (cfg_cells ((G5.out.then K8.out).at_ HT1.out (fun x => x))).1
  have hq11 := (cfg_cells ((G5.out.then K8.out).at_ HT1.out (fun x => x))).2
  go_wp2_with (fail)
  refine (HV.out _ _ _ _ _ (RR.out _ (G5.out.then K8.out)) (Nat.le_trans S2.out (G5.out.then K8.out).size)).mono ?_
  rintro e w9 ⟨rfl, f9⟩
  have K9 := Lib.hid (K8.out.then f9)
  clear f9 hq10 hq11 K8
  have hq10 := (cfg_cells ((G5.out.then K9.out).at_ HT1.out (fun x => x))).1
  have hq11 := (cfg_cells ((G5.out.then K9.out).at_ HT1.out (fun x => x))).2
  have hq20 := (cfg_cells (K9.out.at_ HT2.out (fun x => x))).1
  have hq21 := (cfg_cells (K9.out.at_ HT2.out (fun x => x))).2
  go_wp2_with (fail)
  refine (HS.out _ _ _ _ _ _ _ _ _ (RR.out _ (G5.out.then K9.out)) (Nat.le_trans S2.out (G5.out.then K9.out).size) (R5.out.fr K9.out S5.out (fun _ _ _ x => x)) (Nat.le_trans S5.out K9.out.size)).mono ?_
  rintro e w10 ⟨rfl, f10⟩
  go_wp2
  go_ret
  exact ⟨ret_bool (decide_eq_true (by omega)), (F2.out.then (G5.out.then K9.out)).then f10⟩

end Go.Proofs.YtbgpgaekckfjlaaDoor
