/-
  Enb: ensemble.Check.
-/
import Derived.Test.YtlckgkpgllhpbaaDoorEna
import Derived.Test.YtlckgkpgllhpbaaDoorRdb
namespace Go.Proofs.YtlckgkpgllhpbaaDoor
open Go.RowKit

theorem chk_long {v : Int} {ms : List Mem} (h : 7 < ms.length) : chk v ms = 3 := by unfold chk; rw [if_pos h]
theorem chkL_at {ms : List Mem} {k : Nat} {m : Mem} (h : ms[k]? = some m) (last s : Int) : chkL last s (ms.drop k) = if fitsM last m = true then chkL m.1 (s + m.2.2.1) (ms.drop (k + 1)) else none := by
  have hk := List.getElem?_eq_some_iff.1 h
  rw [List.drop_eq_getElem_cons hk.1, hk.2]
  rfl

theorem chk_none {v : Int} {ms : List Mem} (h7 : ¬ 7 < ms.length) (h : chkL 0 0 ms = none) : chk v ms = 140 := by unfold chk; rw [if_neg h7, h]
theorem chk_some {v t : Int} {ms : List Mem} (h7 : ¬ 7 < ms.length) (h : chkL 0 0 ms = some t) : chk v ms = if t = 0 ∨ v < 0 ∨ 4611686018427387904 < v then 140 else 0 := by unfold chk; rw [if_neg h7, h]
theorem bx_keep {w w2 : World} {cs : Array Value} {t : TypeId} {fr : Nat × Nat} (f : Fr NoB (w.alloc (.cells cs t fr)) w2) (i : Nat) (v : Value) (hv : cs[i]? = some v) : w2.cell? ⟨w.heap.size, i, none⟩ = some v := by
  rw [Lib.cell_of_heap (f.at_ (heap_alloc_new w _) (fun x => x)), hv]

/-- What Check holds of memory: the config's box, and the closure's variable. -/
structure CkW (w0 w : World) (v : Int) (A : Option Addr) (n c : Nat) (last : Int) : Prop where
  fr : Fr NoB w0 w
  bx : w.heap[w0.heap.size]? = some (.cells #[.int .i64 v, .slice A n c] 40 (0, 0))
  lt : w.heap[w0.heap.size + 1]? = some (.cells #[.int .i64 last] 3 (0, 0))
theorem CkW.keep {w0 w w' : World} {v : Int} {A : Option Addr} {n c : Nat} {last : Int} (h : CkW w0 w v A n c last) (f : Fr NoB w w') : CkW w0 w' v A n c last :=
  ⟨h.fr.then f, f.at_ h.bx (fun x => x), f.at_ h.lt (fun x => x)⟩
theorem CkW.store {w0 w : World} {v : Int} {A : Option Addr} {n c : Nat} {last : Int} (h : CkW w0 w v A n c last) (x : Int) : CkW w0 (w.setCell ⟨w0.heap.size + 1, 0, none⟩ (.int .i64 x)) v A n c x :=
  ⟨h.fr.setCell (p := ⟨w0.heap.size + 1, 0, none⟩) (fun k => absurd k (by simp)) _, (Below.heap_setCell _ _ _ _ (by simp)).trans h.bx, heap_set h.lt _⟩
theorem ck_start (w : World) (v : Int) (A : Option Addr) (n c : Nat) : CkW w ((w.alloc (.cells #[.int .i64 v, .slice A n c] 40)).alloc (.cells #[.int .i64 0] 3)) v A n c 0 where
  fr := ((Fr.refl NoB w).alloc _).alloc _
  bx := (Below.heap_alloc _ _ _ (by simp)).trans (heap_alloc_new w _)
  lt := by
    have h := heap_alloc_new (w.alloc (.cells #[.int .i64 v, .slice A n c] 40)) (.cells #[.int .i64 0] 3)
    rwa [show (w.alloc (.cells #[.int .i64 v, .slice A n c] 40)).heap.size = w.heap.size + 1 from by simp] at h

set_option maxRecDepth 4000 in
set_option maxHeartbeats 3200000 in
theorem check_calls (v : Int) (A : Option Addr) (ms : List Mem) (c lo hi : Nat) (w : World) (h : RdM w lo hi A ms) (hh : hi ≤ w.heap.size) (hl : ms.length ≤ 140737488355328) :
    Calls Tryd.prog 75 #[.agg #[.int .i64 v, .slice A ms.length c]] w fun e w' => e = .returned (.int .i64 (chk v ms)) ∧ Fr NoB w w' := by
  by_cases h7 : 7 < ms.length
  · rw [chk_long h7]
    have hi1 : (7 : Int) < (ms.length : Int) := by omega
    clear h h7 hl
    go_enter Tryd.func75, Tryd.ntmps75
    go_wp2
    go_ret
    exact ⟨rfl, (Fr.refl NoB w).alloc _⟩
  · have hi1 : (ms.length : Int) ≤ 7 := by omega
    have hmf : ∀ (fn : Fn) (first cap : Array Value) (w : World), (Instr.makeFunc fn first cap).run Tryd.prog w = .ok (.func fn first cap) w := fun _ _ _ _ => rfl
    have HM := Lib.hid h
    clear h
    go_enter Tryd.func75, Tryd.ntmps75
    go_wp2
    go_loopw [4, 16] (fun s i wr => ∃ (k : Nat) (t last : Int), k ≤ ms.length ∧ i = .int .i64 (k : Int) ∧ s = .int .i64 t ∧ 0 ≤ t ∧ t ≤ 1000 * (k : Int) ∧ chkL last t (ms.drop k) = chkL 0 0 ms ∧ CkW w wr v A ms.length c last) (fun _ i _ => ms.length - (intOf i).toNat)
    case atStart =>
      exact ⟨0, 0, 0, Nat.zero_le _, rfl, rfl, Int.le_refl _, by omega, by simp, ck_start w v A ms.length c⟩
    case round =>
      obtain ⟨k, t, last, hk, rfl, rfl, ht0, ht1, hck, hw⟩ := hrel
      have CK := Lib.hid hck
      have CW := Lib.hid hw
      clear hck hw
      by_cases hlt : k < ms.length
      · obtain ⟨b, o, rfl, hb1, hb2, hcs⟩ := HM.out (by omega)
        obtain ⟨d0, d1, d2, d3⟩ := hcs k ms[k] (List.getElem?_eq_getElem hlt)
        have hat := chkL_at (List.getElem?_eq_getElem hlt) last t
        rw [CK.out] at hat
        have HAT := Lib.hid hat
        clear hcs hat CK
        generalize ms[k] = m at d0 d1 d2 d3 HAT
        obtain ⟨m0, m1, m2, m3⟩ := m
        simp only at d0 d1 d2 d3
        have e0 := (CW.out.fr.cell (p := ⟨b, o + k * 4, none⟩) (by simp only; omega) (fun x => x)).trans d0
        have e1 := (CW.out.fr.cell (p := ⟨b, o + k * 4 + 1, none⟩) (by simp only; omega) (fun x => x)).trans d1
        have e2 := (CW.out.fr.cell (p := ⟨b, o + k * 4 + 2, none⟩) (by simp only; omega) (fun x => x)).trans d2
        have e3 := (CW.out.fr.cell (p := ⟨b, o + k * 4 + 3, none⟩) (by simp only; omega) (fun x => x)).trans d3
        clear d0 d1 d2 d3
        have hi2 : (k : Int) < (ms.length : Int) := by omega
        have hl0 := (cells_of CW.out.lt 0).1
        simp only [List.getElem?_toArray, List.getElem?_cons_zero] at hl0
        have hlB := Lib.lt_of_heap CW.out.lt
        have HFT := Lib.hid (fun (hB : w.heap.size + 1 < (wr.alloc (.cells #[.int .i64 m0, .int .u8 m1, .int .i64 m2, .int .i64 m3] 106)).heap.size) => fits_calls m0 m1 m2 m3 last (w.heap.size + 1) (wr.alloc (.cells #[.int .i64 m0, .int .u8 m1, .int .i64 m2, .int .i64 m3] 106)) hB (((Fr.refl NoB wr).alloc _).cell (p := ⟨w.heap.size + 1, 0, none⟩) hlB (fun x => x) |>.trans hl0))
        have HLB := Lib.hid hlB
        clear hl0 hlB
        go_wp2_with (fail)
        refine (HFT.out (by have := HLB.out; simp; omega)).mono ?_
        rintro e w2 ⟨rfl, f2⟩
        have CW2 := Lib.hid (CW.out.keep (((Fr.refl NoB wr).alloc _).then f2))
        have hb0 := bx_keep f2 0 _ rfl
        have hb2 := bx_keep f2 2 _ rfl
        clear f2 HFT HLB CW e0 e1 e2 e3
        cases hfit : fitsM last (m0, m1, m2, m3)
        · have hat := HAT.out
          rw [hfit, if_neg (by simp)] at hat
          have HN := Lib.hid (chk_none (v := v) h7 hat)
          clear hat hfit HAT
          go_wp2
          go_ret
          exact ⟨by rw [HN.out]; rfl, CW2.out.fr⟩
        · have hat := HAT.out
          rw [hfit, if_pos rfl] at hat
          have HN := Lib.hid hat
          have hm := (fitsM_iff last m0 m1 m2 m3).1 hfit
          have hm2 : 0 ≤ m2 ∧ m2 ≤ 1000 := by omega
          have hlt := (cells_of CW2.out.lt 0).1
          have hlf := (cells_of CW2.out.lt 0).2
          simp only [List.getElem?_toArray, List.getElem?_cons_zero] at hlt
          clear hat hfit HAT hm
          go_wp2
          go_roundw
          case rel => exact ⟨k + 1, t + m2, m0, by omega, by go_num, by go_num, by omega, by omega, HN.out.symm, CW2.out.store m0⟩
          case measure => simp [intOf]; omega
      · obtain rfl : k = ms.length := by omega
        have hck := CK.out
        rw [List.drop_length] at hck
        have HS := Lib.hid (chk_some (v := v) h7 hck.symm)
        have hc0 := (cells_of CW.out.bx 0).1
        simp only [List.getElem?_toArray, List.getElem?_cons_zero] at hc0
        clear hck CK
        go_wp2
        all_goals go_ret
        all_goals refine ⟨ret_int ?_, CW.out.fr⟩
        all_goals rw [HS.out]
        all_goals (try simp only [beq_iff_eq, beq_eq_false_iff_ne, ne_eq] at *)
        all_goals (split <;> omega)

end Go.Proofs.YtlckgkpgllhpbaaDoor
