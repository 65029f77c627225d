/-
  Enn: Ena, Enb, Ene, Enf, Enn.
-/
import Derived.Test.YtmlmbahimklfiaaGreatDoorKit
import Derived.Test.YtmlmbahimklfiaaGreatDoorEnp
import Derived.Test.YtmlmbahimklfiaaGreatDoorRdb
import Derived.Test.YtmlmbahimklfiaaGreatDoorTurp
/- Ena -/
namespace Go.Proofs.YtmlmbahimklfiaaGreatDoor
open Go.RowKit

/-- A member as a value. -/
def mval (m : Mem) : Value := .agg #[.int .i64 m.1, .int .u8 m.2.1, .int .i64 m.2.2.1, .int .i64 m.2.2.2]

theorem fitsM_iff (last m0 m1 m2 m3 : Int) : fitsM last (m0, m1, m2, m3) = true ↔ last < m0 ∧ m0 ≤ 7 ∧ ((m1 = 2 ∧ m2 = 0 ∧ m3 = 0) ∨ (m1 = 1 ∧ 0 ≤ m2 ∧ m2 ≤ 1000 ∧ 0 ≤ m3 ∧ m3 < 7)) := by
  unfold fitsM
  simp only
  split
  · simp only [Bool.false_eq_true, false_iff]; omega
  · split
    · rw [decide_eq_true_eq]; omega
    · rw [decide_eq_true_eq]; omega
theorem ret_bool {a b : Bool} (h : a = b) : Ending.returned (.bool a) = .returned (.bool b) := by rw [h]
set_option maxRecDepth 20000 in
theorem mem_neq (x0 x1 x2 x3 y0 y1 y2 y3 : Int) (W : World) : (binOp .neq 173 (.agg #[.int .i64 x0, .int .u8 x1, .int .i64 x2, .int .i64 x3]) (.agg #[.int .i64 y0, .int .u8 y1, .int .i64 y2, .int .i64 y3])).run Tryz.prog W = .ok (.bool (!((x0, x1, x2, x3) == (y0, y1, y2, y3)))) W := by
  obtain ⟨d, hd⟩ : ∃ d, 10000 = d + 1 + 1 + 1 := ⟨9997, rfl⟩
  rw [run_neq_struct, hd, run_equalIn_agg W _ 173 _ _ (by kernel_rfl) (by kernel_rfl)]
  have hf : (Program.fieldsOf Tryz.prog 173) = (match Tryz.prog.underlying 173 with | some (.struct fs) => fs | _ => #[]) := rfl
  rw [Tryz.underlying173] at hf
  rw [hf]
  simp [go_sem, Tryz.underlying3, Tryz.underlying171]
  have hb : ((x0, x1, x2, x3) == (y0, y1, y2, y3)) = decide (x0 = y0 ∧ x1 = y1 ∧ x2 = y2 ∧ x3 = y3) := by rw [Bool.eq_iff_iff]; simp
  rw [hb]
  by_cases h0 : x0 = y0 <;> by_cases h1 : x1 = y1 <;> by_cases h2 : x2 = y2 <;> by_cases h3 : x3 = y3 <;> simp [h0, h1, h2, h3]

set_option maxHeartbeats 1600000 in
theorem fits_calls (m0 m1 m2 m3 last : Int) (B : Nat) (w : World) (hB : B < w.heap.size) (hc : w.cell? ⟨B, 0, none⟩ = some (.int .i64 last)) :
    Calls Tryz.prog 160 #[.agg #[.int .i64 m0, .int .u8 m1, .int .i64 m2, .int .i64 m3], .pointer (some ⟨B, 0, none⟩)] w fun e w' => e = .returned (.bool (fitsM last (m0, m1, m2, m3))) ∧ Fr NoB w w' := by
  have hc2 : ∀ o, (w.alloc o).cell? ⟨B, 0, none⟩ = some (.int .i64 last) := fun o => (World.cell?_of_block (a := ⟨B, 0, none⟩) (Below.heap_alloc w o B hB)).trans hc
  clear hc
  go_enter Tryz.func160, Tryz.ntmps160
  go_wp2
  all_goals go_ret
  all_goals refine ⟨ret_bool ?_, (Fr.refl NoB w).alloc _⟩
  all_goals (try simp only [beq_iff_eq, beq_eq_false_iff_ne, ne_eq] at *)
  all_goals (rw [Bool.eq_iff_iff, fitsM_iff]; simp only [beq_iff_eq, decide_eq_true_eq, Bool.false_eq_true, false_iff]; omega)

set_option maxHeartbeats 1600000 in
theorem samem_calls (A A' : Option Addr) (l l' : List Mem) (c c' lo hi lo' hi' : Nat) (w : World) (h : RdM w lo hi A l) (h' : RdM w lo' hi' A' l') (hl : l.length ≤ 140737488355328) (hl' : l'.length ≤ 140737488355328) :
    Calls Tryz.prog 134 #[.slice A l.length c, .slice A' l'.length c'] w fun e w' => e = .returned (.bool (l == l')) ∧ ∃ n, w' = w.drewN n := by
  by_cases hne : l.length = l'.length
  · go_enter Tryz.func134, Tryz.ntmps134
    have HE := Lib.hid hne
    have hb : ((l.length : Int) != (l'.length : Int)) = false := by simp [hne]
    clear hne
    go_wp2
    clear hb
    go_loopw [4, 5] (fun r i wr => r = .bool false ∧ ∃ k : Nat, k ≤ l.length ∧ i = .int .i64 (k : Int) ∧ l.take k = l'.take k ∧ ∃ n, wr = w.drewN n) (fun _ i _ => l.length - (intOf i).toNat)
    case atStart => exact ⟨rfl, 0, Nat.zero_le _, rfl, by simp, 0, rfl⟩
    case round =>
      obtain ⟨rfl, k, hk, rfl, htk, n, rfl⟩ := hrel
      have HT := Lib.hid htk
      clear htk
      by_cases hlt : k < l.length
      · have hlt' : k < l'.length := by rw [← HE.out]; exact hlt
        obtain ⟨b, o, rfl, -, -, h0⟩ := h (by omega)
        obtain ⟨b', o', rfl, -, -, h0'⟩ := h' (by omega)
        obtain ⟨c0, c1, c2, c3⟩ := h0 k l[k] (List.getElem?_eq_getElem hlt)
        obtain ⟨d0, d1, d2, d3⟩ := h0' k l'[k] (List.getElem?_eq_getElem hlt')
        have HG := Lib.hid (List.getElem?_eq_getElem hlt)
        have HG' := Lib.hid (List.getElem?_eq_getElem hlt')
        clear h h' h0 h0'
        generalize l[k] = x at c0 c1 c2 c3 HG
        generalize l'[k] = y at d0 d1 d2 d3 HG'
        obtain ⟨x0, x1, x2, x3⟩ := x
        obtain ⟨y0, y1, y2, y3⟩ := y
        simp only at c0 c1 c2 c3 d0 d1 d2 d3
        have hi1 : ((k : Int) < (l.length : Int)) := by omega
        have hi2 : ((k : Int) < (l'.length : Int)) := by omega
        have hnq := mem_neq x0 x1 x2 x3 y0 y1 y2 y3
        obtain ⟨q, hq⟩ : ∃ q, ((x0, x1, x2, x3) == (y0, y1, y2, y3)) = q := ⟨_, rfl⟩
        rw [hq] at hnq
        have HQ := Lib.hid hq
        clear hq
        cases q
        · have hres : (l == l') = false := by
            rw [beq_eq_false_iff_ne]
            rintro rfl
            have h1 := HG.out
            rw [HG'.out] at h1
            have h2 := HQ.out
            cases h1
            simp at h2
          have HR := Lib.hid hres
          clear hres
          go_wp2
          go_quiet (fail)
          go_wp2
          go_ret
          exact ⟨by rw [HR.out]; rfl, n + nq, by simp⟩
        · go_wp2
          go_quiet (fail)
          go_wp2
          go_roundw
          case rel =>
            refine ⟨rfl, k + 1, by omega, by go_num, ?_, n + nq, by simp⟩
            rw [List.take_add_one, List.take_add_one, HG.out, HG'.out, HT.out, eq_of_beq HQ.out]
          case measure => simp [intOf]; omega
      · have hres : (l == l') = true := by
          rw [beq_iff_eq]
          have := HT.out
          rwa [List.take_of_length_le (by omega), List.take_of_length_le (by have := HE.out; omega)] at this
        have HR := Lib.hid hres
        clear hres h h'
        go_wp2
        go_ret
        exact ⟨by rw [HR.out]; rfl, n, rfl⟩
  · have hb : ((l.length : Int) != (l'.length : Int)) = true := by rw [bne_iff_ne]; omega
    have hres : (l == l') = false := by
      rw [beq_eq_false_iff_ne]
      rintro rfl
      exact hne rfl
    have HR := Lib.hid hres
    clear hres h h' hne
    go_enter Tryz.func134, Tryz.ntmps134
    go_wp2
    go_ret
    exact ⟨by rw [HR.out]; rfl, 0, rfl⟩

end Go.Proofs.YtmlmbahimklfiaaGreatDoor

/- Enb -/
namespace Go.Proofs.YtmlmbahimklfiaaGreatDoor
open Go.RowKit

theorem chk_long {v : Int} {ms : List Mem} (h : 7 < ms.length) : chk v ms = 3 := by unfold chk; rw [if_pos h]
theorem chkL_at {ms : List Mem} {k : Nat} {m : Mem} (h : ms[k]? = some m) (last s : Int) : chkL last s (ms.drop k) = if fitsM last m = true then chkL m.1 (s + m.2.2.1) (ms.drop (k + 1)) else none := by
  have hk := List.getElem?_eq_some_iff.1 h
  rw [List.drop_eq_getElem_cons hk.1, hk.2]
  rfl

theorem chk_none {v : Int} {ms : List Mem} (h7 : ¬ 7 < ms.length) (h : chkL 0 0 ms = none) : chk v ms = 140 := by unfold chk; rw [if_neg h7, h]
theorem chk_some {v t : Int} {ms : List Mem} (h7 : ¬ 7 < ms.length) (h : chkL 0 0 ms = some t) : chk v ms = if t = 0 ∨ v < 0 ∨ 4611686018427387904 < v then 140 else 0 := by unfold chk; rw [if_neg h7, h]
theorem bx_keep {w w2 : World} {cs : Array Value} {t : TypeId} {fr : Nat × Nat} (f : Fr NoB (w.alloc (.cells cs t fr)) w2) (i : Nat) (v : Value) (hv : cs[i]? = some v) : w2.cell? ⟨w.heap.size, i, none⟩ = some v := by
  rw [Lib.cell_of_heap (f.at_ (heap_alloc_new w _) (fun x => x)), hv]

/-- What Check holds of memory: the config's box, and the closure's variable. -/
structure CkW (w0 w : World) (v : Int) (A : Option Addr) (n c : Nat) (last : Int) : Prop where
  fr : Fr NoB w0 w
  bx : w.heap[w0.heap.size]? = some (.cells #[.int .i64 v, .slice A n c] 28 (0, 0))
  lt : w.heap[w0.heap.size + 1]? = some (.cells #[.int .i64 last] 3 (0, 0))
theorem CkW.keep {w0 w w' : World} {v : Int} {A : Option Addr} {n c : Nat} {last : Int} (h : CkW w0 w v A n c last) (f : Fr NoB w w') : CkW w0 w' v A n c last :=
  ⟨h.fr.then f, f.at_ h.bx (fun x => x), f.at_ h.lt (fun x => x)⟩
theorem CkW.store {w0 w : World} {v : Int} {A : Option Addr} {n c : Nat} {last : Int} (h : CkW w0 w v A n c last) (x : Int) : CkW w0 (w.setCell ⟨w0.heap.size + 1, 0, none⟩ (.int .i64 x)) v A n c x :=
  ⟨h.fr.setCell (p := ⟨w0.heap.size + 1, 0, none⟩) (fun k => absurd k (by simp)) _, (Below.heap_setCell _ _ _ _ (by simp)).trans h.bx, heap_set h.lt _⟩
theorem ck_start (w : World) (v : Int) (A : Option Addr) (n c : Nat) : CkW w ((w.alloc (.cells #[.int .i64 v, .slice A n c] 28)).alloc (.cells #[.int .i64 0] 3)) v A n c 0 where
  fr := ((Fr.refl NoB w).alloc _).alloc _
  bx := (Below.heap_alloc _ _ _ (by simp)).trans (heap_alloc_new w _)
  lt := by
    have h := heap_alloc_new (w.alloc (.cells #[.int .i64 v, .slice A n c] 28)) (.cells #[.int .i64 0] 3)
    rwa [show (w.alloc (.cells #[.int .i64 v, .slice A n c] 28)).heap.size = w.heap.size + 1 from by simp] at h

set_option maxRecDepth 4000 in
set_option maxHeartbeats 3200000 in
theorem check_calls (v : Int) (A : Option Addr) (ms : List Mem) (c lo hi : Nat) (w : World) (h : RdM w lo hi A ms) (hh : hi ≤ w.heap.size) (hl : ms.length ≤ 140737488355328) :
    Calls Tryz.prog 105 #[.agg #[.int .i64 v, .slice A ms.length c]] w fun e w' => e = .returned (.int .i64 (chk v ms)) ∧ Fr NoB w w' := by
  by_cases h7 : 7 < ms.length
  · rw [chk_long h7]
    have hi1 : (7 : Int) < (ms.length : Int) := by omega
    clear h h7 hl
    go_enter Tryz.func105, Tryz.ntmps105
    go_wp2
    go_ret
    exact ⟨rfl, (Fr.refl NoB w).alloc _⟩
  · have hi1 : (ms.length : Int) ≤ 7 := by omega
    have hmf : ∀ (fn : Fn) (first cap : Array Value) (w : World), (Instr.makeFunc fn first cap).run Tryz.prog w = .ok (.func fn first cap) w := fun _ _ _ _ => rfl
    have HM := Lib.hid h
    clear h
    go_enter Tryz.func105, Tryz.ntmps105
    go_wp2
    go_loopw [4, 16] (fun s i wr => ∃ (k : Nat) (t last : Int), k ≤ ms.length ∧ i = .int .i64 (k : Int) ∧ s = .int .i64 t ∧ 0 ≤ t ∧ t ≤ 1000 * (k : Int) ∧ chkL last t (ms.drop k) = chkL 0 0 ms ∧ CkW w wr v A ms.length c last) (fun _ i _ => ms.length - (intOf i).toNat)
    case atStart =>
      exact ⟨0, 0, 0, Nat.zero_le _, rfl, rfl, Int.le_refl _, by omega, by simp, ck_start w v A ms.length c⟩
    case round =>
      obtain ⟨k, t, last, hk, rfl, rfl, ht0, ht1, hck, hw⟩ := hrel
      have CK := Lib.hid hck
      have CW := Lib.hid hw
      clear hck hw
      by_cases hlt : k < ms.length
      · obtain ⟨b, o, rfl, hb1, hb2, hcs⟩ := HM.out (by omega)
        obtain ⟨d0, d1, d2, d3⟩ := hcs k ms[k] (List.getElem?_eq_getElem hlt)
        have hat := chkL_at (List.getElem?_eq_getElem hlt) last t
        rw [CK.out] at hat
        have HAT := Lib.hid hat
        clear hcs hat CK
        generalize ms[k] = m at d0 d1 d2 d3 HAT
        obtain ⟨m0, m1, m2, m3⟩ := m
        simp only at d0 d1 d2 d3
        have e0 := (CW.out.fr.cell (p := ⟨b, o + k * 4, none⟩) (by simp only; omega) (fun x => x)).trans d0
        have e1 := (CW.out.fr.cell (p := ⟨b, o + k * 4 + 1, none⟩) (by simp only; omega) (fun x => x)).trans d1
        have e2 := (CW.out.fr.cell (p := ⟨b, o + k * 4 + 2, none⟩) (by simp only; omega) (fun x => x)).trans d2
        have e3 := (CW.out.fr.cell (p := ⟨b, o + k * 4 + 3, none⟩) (by simp only; omega) (fun x => x)).trans d3
        clear d0 d1 d2 d3
        have hi2 : (k : Int) < (ms.length : Int) := by omega
        have hl0 := (cells_of CW.out.lt 0).1
        simp only [List.getElem?_toArray, List.getElem?_cons_zero] at hl0
        have hlB := Lib.lt_of_heap CW.out.lt
        have HFT := Lib.hid (fun (hB : w.heap.size + 1 < (wr.alloc (.cells #[.int .i64 m0, .int .u8 m1, .int .i64 m2, .int .i64 m3] 173)).heap.size) => fits_calls m0 m1 m2 m3 last (w.heap.size + 1) (wr.alloc (.cells #[.int .i64 m0, .int .u8 m1, .int .i64 m2, .int .i64 m3] 173)) hB (((Fr.refl NoB wr).alloc _).cell (p := ⟨w.heap.size + 1, 0, none⟩) hlB (fun x => x) |>.trans hl0))
        have HLB := Lib.hid hlB
        clear hl0 hlB
        go_wp2_with (fail)
        refine (HFT.out (by have := HLB.out; simp; omega)).mono ?_
        rintro e w2 ⟨rfl, f2⟩
        have CW2 := Lib.hid (CW.out.keep (((Fr.refl NoB wr).alloc _).then f2))
        have hb0 := bx_keep f2 0 _ rfl
        have hb2 := bx_keep f2 2 _ rfl
        clear f2 HFT HLB CW e0 e1 e2 e3
        cases hfit : fitsM last (m0, m1, m2, m3)
        · have hat := HAT.out
          rw [hfit, if_neg (by simp)] at hat
          have HN := Lib.hid (chk_none (v := v) h7 hat)
          clear hat hfit HAT
          go_wp2
          go_ret
          exact ⟨by rw [HN.out]; rfl, CW2.out.fr⟩
        · have hat := HAT.out
          rw [hfit, if_pos rfl] at hat
          have HN := Lib.hid hat
          have hm := (fitsM_iff last m0 m1 m2 m3).1 hfit
          have hm2 : 0 ≤ m2 ∧ m2 ≤ 1000 := by omega
          have hlt := (cells_of CW2.out.lt 0).1
          have hlf := (cells_of CW2.out.lt 0).2
          simp only [List.getElem?_toArray, List.getElem?_cons_zero] at hlt
          clear hat hfit HAT hm
          go_wp2
          go_roundw
          case rel => exact ⟨k + 1, t + m2, m0, by omega, by go_num, by go_num, by omega, by omega, HN.out.symm, CW2.out.store m0⟩
          case measure => simp [intOf]; omega
      · obtain rfl : k = ms.length := by omega
        have hck := CK.out
        rw [List.drop_length] at hck
        have HS := Lib.hid (chk_some (v := v) h7 hck.symm)
        have hc0 := (cells_of CW.out.bx 0).1
        simp only [List.getElem?_toArray, List.getElem?_cons_zero] at hc0
        clear hck CK
        go_wp2
        all_goals go_ret
        all_goals refine ⟨ret_int ?_, CW.out.fr⟩
        all_goals rw [HS.out]
        all_goals (try simp only [beq_iff_eq, beq_eq_false_iff_ne, ne_eq] at *)
        all_goals (split <;> omega)

end Go.Proofs.YtmlmbahimklfiaaGreatDoor

/- Ene -/
namespace Go.Proofs.YtmlmbahimklfiaaGreatDoor
open Go.RowKit

theorem Fr.upE {M : Nat → Prop} {w w1 w2 : World} (h : Fr NoB w w1) (h2 : Fr M w1 w2) (hm : ∀ k, M k → w.heap.size ≤ k) : Fr NoB w w2 :=
  h.trans h2 fun k hk hx => absurd (hm k hx) (by omega)
/-- A writer that the call made, and what stands in it. -/
structure WE (w0 w : World) (p : Nat) (L : List UInt8) (G : Option Nat) : Prop where
  a : Wtr w p G L
  fr : Fr NoB w0 w
  i : ∀ k, WF p G k → w0.heap.size ≤ k
theorem WE.next {w0 w w1 : World} {p : Nat} {L L' : List UInt8} {G G1 : Option Nat} (h : WE w0 w p L G) (a : Wtr w1 p G1 L') (f : Fr (WF p G) w w1) (g : ∀ k, WF p G1 k → WF p G k ∨ w.heap.size ≤ k) : WE w0 w1 p L' G1 :=
  ⟨a, h.fr.upE f h.i, fun k hk => (g k hk).elim (h.i k) (fun x => Nat.le_trans h.fr.size x)⟩
theorem WE.keep {w0 w w1 : World} {p : Nat} {L : List UInt8} {G : Option Nat} (h : WE w0 w p L G) (f : Fr NoB w w1) : WE w0 w1 p L G :=
  ⟨h.a.fr f (fun _ _ x => x), h.fr.then f, h.i⟩
def memV (m : Mem) : Nat → Int
  | 0 => m.1
  | 1 => m.2.1
  | 2 => m.2.2.1
  | _ => m.2.2.2
def memP (m : Mem) : Nat → List UInt8
  | 0 => []
  | j + 1 => memP m j ++ intB (memV m j)
theorem memP_four (m : Mem) : memP m 4 = memB m := by simp [memP, memV, memB]
theorem memP_len (m : Mem) (j : Nat) : (memP m j).length ≤ 10 * j := by
  induction j with
  | zero => simp [memP]
  | succ j ih => have := intB_len (memV m j); simp [memP]; omega
theorem chk_ver {v : Int} {ms : List Mem} (h : chk v ms = 0) : 0 ≤ v ∧ v ≤ 4611686018427387904 ∧ ms.length ≤ 7 := by
  unfold chk at h
  split at h
  · omega
  · split at h
    · omega
    · split at h
      · omega
      · omega

theorem idx_four (x0 x1 x2 x3 : Int) (w : World) :
    (Instr.index 251 (.agg #[.int .i64 x0, .int .i64 x1, .int .i64 x2, .int .i64 x3]) (.int .i64 0)).run Tryz.prog w = .ok (.int .i64 x0) w ∧ (Instr.index 251 (.agg #[.int .i64 x0, .int .i64 x1, .int .i64 x2, .int .i64 x3]) (.int .i64 1)).run Tryz.prog w = .ok (.int .i64 x1) w ∧
    (Instr.index 251 (.agg #[.int .i64 x0, .int .i64 x1, .int .i64 x2, .int .i64 x3]) (.int .i64 2)).run Tryz.prog w = .ok (.int .i64 x2) w ∧ (Instr.index 251 (.agg #[.int .i64 x0, .int .i64 x1, .int .i64 x2, .int .i64 x3]) (.int .i64 3)).run Tryz.prog w = .ok (.int .i64 x3) w := by
  refine ⟨?_, ?_, ?_, ?_⟩ <;> simp [Instr.index, run_underlying Tryz.underlying251, asIntOf, go_sem]

set_option maxRecDepth 8000 in
set_option maxHeartbeats 6400000 in
theorem put_config (v : Int) (A : Option Addr) (ms : List Mem) (c lo hi : Nat) (w : World) (h : RdM w lo hi A ms) (hh : hi ≤ w.heap.size) (hl : ms.length ≤ 140737488355328) (hok : chk v ms = 0) :
    Calls Tryz.prog 109 #[.agg #[.int .i64 v, .slice A ms.length c]] w fun e w' => ∃ A' c', e = .returned (.tuple #[.slice A' (ensB v ms).length c', .int .i64 0]) ∧ (ensB v ms).length ≤ c' ∧ c' ≤ maxLen ∧ Rd w' w.heap.size w'.heap.size A' (ensB v ms) ∧ Fr NoB w w' := by
  have HCK := Lib.hid (fun W (f : Fr NoB w W) => check_calls v A ms c lo hi W (h.fr f hh (fun _ _ _ x => x)) (Nat.le_trans hh f.size) hl)
  rw [hok] at HCK
  obtain ⟨v0, v1, hn7⟩ := chk_ver hok
  have hgood := chk_good hok
  have HM := Lib.hid h
  have hvl := intB_len v
  have hnl := intB_len (ms.length : Int)
  have hml : ∀ k, (memsB (ms.take k)).length ≤ 280 := fun k => by
    have h1 := memsB_len (ms.take k)
    rw [List.length_take] at h1
    omega
  have HL := Lib.hid hml
  have HV := Lib.hid hvl
  have HNL := Lib.hid hnl
  have HG := Lib.hid hgood
  have H7 := Lib.hid hn7
  clear h hok hml hvl hnl hgood
  have hn7i : (ms.length : Int) ≤ 7 := by omega
  go_enter Tryz.func109, Tryz.ntmps109
  go_wp2_with (fail)
  have F0 := Lib.hid ((Fr.refl NoB w).alloc (.cells #[.int .i64 v, .slice A ms.length c] 28))
  have HBX := Lib.hid (heap_alloc_new w (.cells #[.int .i64 v, .slice A ms.length c] 28))
  generalize w.alloc (.cells #[.int .i64 v, .slice A ms.length c] 28) = wb at F0 HBX ⊢
  refine (HCK.out _ F0.out).mono ?_
  rintro e w1 ⟨rfl, f1⟩
  have F1 := Lib.hid f1
  clear f1 HCK
  go_wp2_with (fail)
  refine (wNew _).mono ?_
  rintro e w2 ⟨rfl, a2, f2, -⟩
  have t2 : WE wb w2 w1.heap.size [] none := ⟨a2, F1.out.then f2, fun k hk => by
    rcases hk with rfl | hk
    · exact F1.out.size
    · cases hk⟩
  have HB2 := Lib.hid (t2.fr.at_ HBX.out (fun x => x))
  have hb0 := (cells_of HB2.out 0).1
  simp only [List.getElem?_toArray, List.getElem?_cons_zero] at hb0
  generalize w1.heap.size = p at t2 ⊢
  clear a2 f2
  go_wp2_with (fail)
  refine (wInt p none [] v _ (by omega) (by omega) t2.a (by simp)).mono ?_
  rintro e w3 ⟨rfl, G3, a3, f3, g3⟩
  rw [List.nil_append] at a3
  have T3 := Lib.hid (t2.next a3 f3 g3)
  clear t2 a3 f3 g3 hb0
  have hb1 := (cells_of (T3.out.fr.at_ HBX.out (fun x => x)) 1).1
  simp only [List.getElem?_toArray, List.getElem?_cons_zero, List.getElem?_cons_succ] at hb1
  go_wp2_with (fail)
  refine (wInt p G3 (intB v) ms.length _ (by omega) (by omega) T3.out.a (by have := HV.out; omega)).mono ?_
  rintro e w4 ⟨rfl, G4, a4, f4, g4⟩
  have T4 := Lib.hid (T3.out.next a4 f4 g4)
  clear a4 f4 g4 hb1 T3
  have hb1 := (cells_of (T4.out.fr.at_ HBX.out (fun x => x)) 1).1
  simp only [List.getElem?_toArray, List.getElem?_cons_zero, List.getElem?_cons_succ] at hb1
  go_wp2
  go_loopw [28] (fun i wr => ∃ (k : Nat) (G : Option Nat), k ≤ ms.length ∧ i = .int .i64 (k : Int) ∧ WE wb wr p (intB v ++ intB ms.length ++ memsB (ms.take k)) G) (fun i _ => ms.length - (intOf i).toNat)
  case atStart => exact ⟨0, _, Nat.zero_le _, rfl, by simpa [memsB] using T4.out⟩
  case round =>
    obtain ⟨k, G, hk, rfl, ht⟩ := hrel
    have TK := Lib.hid ht
    clear ht hb1 T4
    by_cases hlt : k < ms.length
    · obtain ⟨b, o, rfl, hb1, hb2, hcs⟩ := HM.out (by omega)
      obtain ⟨d0, d1, d2, d3⟩ := hcs k ms[k] (List.getElem?_eq_getElem hlt)
      have hgm := HG.out ms[k] (List.getElem_mem hlt)
      have hts : memsB (ms.take (k + 1)) = memsB (ms.take k) ++ memB ms[k] := by
        rw [List.take_add_one, List.getElem?_eq_getElem hlt, memsB_append]
        simp [memsB]
      have HTS := Lib.hid hts
      clear hcs hts
      generalize ms[k] = m at d0 d1 d2 d3 hgm HTS
      obtain ⟨m0, m1, m2, m3⟩ := m
      unfold GoodM at hgm
      simp only at d0 d1 d2 d3 hgm
      have FW : Hid (Fr NoB w wr) := F0.out.then TK.out.fr
      have e0 := (FW.out.cell (p := ⟨b, o + k * 4, none⟩) (by simp only; omega) (fun x => x)).trans d0
      have e1 := (FW.out.cell (p := ⟨b, o + k * 4 + 1, none⟩) (by simp only; omega) (fun x => x)).trans d1
      have e2 := (FW.out.cell (p := ⟨b, o + k * 4 + 2, none⟩) (by simp only; omega) (fun x => x)).trans d2
      have e3 := (FW.out.cell (p := ⟨b, o + k * 4 + 3, none⟩) (by simp only; omega) (fun x => x)).trans d3
      have hi2 : (k : Int) < (ms.length : Int) := by omega
      have HGM := Lib.hid hgm
      clear d0 d1 d2 d3 hgm
      have hw1 : wrap64 m1 = m1 := by have := HGM.out; unfold wrap64; omega
      have hw2 : IntKind.i64.wrap m1 = m1 := by have := HGM.out; rw [IntKind.wrap_i64]; omega
      have hLL : (intB v ++ intB ms.length ++ memsB (ms.take k)).length ≤ 300 := by
        rw [List.length_append, List.length_append]
        have := HV.out; have := HNL.out; have := HL.out k; omega
      have HLL := Lib.hid hLL
      clear hLL
      obtain ⟨L, hLQ⟩ : ∃ L, intB v ++ intB ms.length ++ memsB (ms.take k) = L := ⟨_, rfl⟩
      have HLQ := Lib.hid hLQ
      rw [hLQ] at TK HLL
      clear hLQ
      go_wp2
      go_loopw [42] (fun i wx => ∃ (j : Nat) (G2 : Option Nat), j ≤ 4 ∧ i = .int .i64 (j : Int) ∧ WE wb wx p (L ++ memP (m0, m1, m2, m3) j) G2) (fun i _ => 4 - (intOf i).toNat)
      case atStart => exact ⟨0, G, by omega, rfl, by simpa [memP] using TK.out.keep ((Fr.refl NoB wr).alloc _)⟩
      case round =>
        obtain ⟨j, G2, hj, rfl, ht⟩ := hrel
        have T5 := Lib.hid ht
        clear ht e0 e1 e2 e3
        have h5 : j = 0 ∨ j = 1 ∨ j = 2 ∨ j = 3 ∨ j = 4 := by omega
        rcases h5 with rfl | rfl | rfl | rfl | rfl
        · have hix := fun W => ((idx_four m0 m1 m2 m3 W).1)
          go_wp2_with (fail)
          refine (wInt p G2 _ m0 _ (by have := HGM.out; omega) (by have := HGM.out; omega) T5.out.a (by rw [List.length_append]; have := HLL.out; have := memP_len (m0, m1, m2, m3) 0; omega)).mono ?_
          rintro e w6 ⟨rfl, G6, a6, f6, g6⟩
          have T6 := Lib.hid (T5.out.next a6 f6 g6)
          clear a6 f6 g6
          go_wp2
          go_roundw
          case rel => exact ⟨0 + 1, G6, by omega, by go_num, by have h := T6.out; rw [List.append_assoc] at h; exact h⟩
          case measure => simp [intOf]
        · have hix := fun W => ((idx_four m0 m1 m2 m3 W).2.1)
          go_wp2_with (fail)
          refine (wInt p G2 _ m1 _ (by have := HGM.out; omega) (by have := HGM.out; omega) T5.out.a (by rw [List.length_append]; have := HLL.out; have := memP_len (m0, m1, m2, m3) 1; omega)).mono ?_
          rintro e w6 ⟨rfl, G6, a6, f6, g6⟩
          have T6 := Lib.hid (T5.out.next a6 f6 g6)
          clear a6 f6 g6
          go_wp2
          go_roundw
          case rel => exact ⟨1 + 1, G6, by omega, by go_num, by have h := T6.out; rw [List.append_assoc] at h; exact h⟩
          case measure => simp [intOf]
        · have hix := fun W => ((idx_four m0 m1 m2 m3 W).2.2.1)
          go_wp2_with (fail)
          refine (wInt p G2 _ m2 _ (by have := HGM.out; omega) (by have := HGM.out; omega) T5.out.a (by rw [List.length_append]; have := HLL.out; have := memP_len (m0, m1, m2, m3) 2; omega)).mono ?_
          rintro e w6 ⟨rfl, G6, a6, f6, g6⟩
          have T6 := Lib.hid (T5.out.next a6 f6 g6)
          clear a6 f6 g6
          go_wp2
          go_roundw
          case rel => exact ⟨2 + 1, G6, by omega, by go_num, by have h := T6.out; rw [List.append_assoc] at h; exact h⟩
          case measure => simp [intOf]
        · have hix := fun W => ((idx_four m0 m1 m2 m3 W).2.2.2)
          go_wp2_with (fail)
          refine (wInt p G2 _ m3 _ (by have := HGM.out; omega) (by have := HGM.out; omega) T5.out.a (by rw [List.length_append]; have := HLL.out; have := memP_len (m0, m1, m2, m3) 3; omega)).mono ?_
          rintro e w6 ⟨rfl, G6, a6, f6, g6⟩
          have T6 := Lib.hid (T5.out.next a6 f6 g6)
          clear a6 f6 g6
          go_wp2
          go_roundw
          case rel => exact ⟨3 + 1, G6, by omega, by go_num, by have h := T6.out; rw [List.append_assoc] at h; exact h⟩
          case measure => simp [intOf]
        · have h4 := T5.out
          rw [memP_four] at h4
          have T7 := Lib.hid h4
          clear h4
          go_wp2
          go_roundw
          case rel => exact ⟨k + 1, G2, by omega, by go_num, by rw [HTS.out, ← List.append_assoc, HLQ.out]; exact T7.out⟩
          case measure => simp [intOf]; omega
    · obtain rfl : k = ms.length := by omega
      have ht := TK.out
      rw [List.take_length] at ht
      have TE := Lib.hid ht
      have hle : (intB v ++ intB ms.length ++ memsB ms).length ≤ 140737488355328 := by
        have h1 := HL.out ms.length
        rw [List.take_length] at h1
        rw [List.length_append, List.length_append]
        have := HV.out; have := HNL.out; omega
      have HLE := Lib.hid hle
      clear ht hle TK hlt hk
      have hZ : intB v ++ intB ms.length ++ memsB ms = ensB v ms := by unfold ensB; rw [List.append_assoc]
      rw [hZ] at TE HLE
      obtain ⟨Z, hZZ⟩ : ∃ Z, ensB v ms = Z := ⟨_, rfl⟩
      have HZZ := Lib.hid hZZ
      rw [hZZ] at TE HLE
      clear hZ hZZ
      go_wp2_with (fail)
      refine (wDone p G _ _ TE.out.a HLE.out).mono ?_
      rintro e w8 ⟨v8, rfl, o8, b8⟩
      obtain ⟨A8, c8, rfl, n1, n2⟩ := own_form o8
      have R8 := own_rd o8
      go_wp2
      go_ret2
      rw [HZZ.out]
      exact ⟨A8, c8, rfl, n1, n2, R8.wide (Nat.le_trans F0.out.size TE.out.fr.size) (Nat.le_refl _), (F0.out.then TE.out.fr).then (Fr.ofBelow b8)⟩

end Go.Proofs.YtmlmbahimklfiaaGreatDoor

/- Enf -/
namespace Go.Proofs.YtmlmbahimklfiaaGreatDoor
open Go.RowKit

def findM (ms : List Mem) (id : Int) : Option Mem := ms.find? fun m => m.1 == id
def votM (ms : List Mem) (id : Int) : Bool := match findM ms id with
  | none => false
  | some m => m.2.1 == 1
theorem find_hit {ms : List Mem} {k : Nat} {m : Mem} {id : Int} (h : ms[k]? = some m) (hn : findM (ms.take k) id = none) (hm : m.1 = id) : findM ms id = some m := by
  have hk := List.getElem?_eq_some_iff.1 h
  unfold findM at *
  rw [← List.take_append_drop k ms, List.find?_append, hn, List.drop_eq_getElem_cons hk.1, hk.2]
  simp [hm]
theorem find_step {ms : List Mem} {k : Nat} {m : Mem} {id : Int} (h : ms[k]? = some m) (hn : findM (ms.take k) id = none) (hm : m.1 ≠ id) : findM (ms.take (k + 1)) id = none := by
  unfold findM at *
  rw [List.take_add_one, h, List.find?_append, hn]
  simp [hm]

theorem alloc_st (w : World) (o : Obj) (n : Nat) (hn : w.heap.size = n) : (w.alloc o).heap.size = n + 1 ∧ (w.alloc o).heap[n]? = some o ∧ ∀ (k : Nat) (v : Obj), w.heap[k]? = some v → (w.alloc o).heap[k]? = some v := by
  subst hn
  exact ⟨by simp, heap_alloc_new w o, fun k v h => (Below.heap_alloc w o k (Lib.lt_of_heap h)).trans h⟩
/-- A member's four values, or four zeros. -/
def memOr (o : Option Mem) : Value := match o with
  | none => .agg #[.int .i64 0, .int .u8 0, .int .i64 0, .int .i64 0]
  | some m => .agg #[.int .i64 m.1, .int .u8 m.2.1, .int .i64 m.2.2.1, .int .i64 m.2.2.2]

theorem results_row_tmp {P : Program} {fn : Func} {p u : Tmp} {ty : TypeId} (h : fn.results = #[.cell p ty, .tmp u]) (tmps : Array Value) (w : World) (g : Nat) (t : TypeId) (cs : Array Value) (fr : Nat × Nat) (d : TypeDesc)
    (hp : tmps.getD p undef = .pointer (some ⟨g, 0, none⟩)) (hg : w.heap[g]? = some (.cells cs t fr))
    (hu : P.underlying ty = some d) (hd : (match d with | .struct _ | .array _ _ => true | _ => false) = true) (hi : (P.info? ty).map (·.size) = some cs.size) :
    (results fn tmps).run P w = .ok (.tuple #[.agg cs, tmps.getD u undef]) w := by
  rw [results_cell_tmp h, hp]
  simp [asAddr, run_loadVar_row w g t ty cs fr d hg hu hd hi]
theorem four_set {w : World} {N : Nat} {t : TypeId} {x0 x1 x2 x3 : Value} (h : w.heap[N]? = some (.cells #[.int .i64 0, .int .u8 0, .int .i64 0, .int .i64 0] t (0, 0))) :
    ((((w.setCell ⟨N, 0, none⟩ x0).setCell ⟨N, 1, none⟩ x1).setCell ⟨N, 2, none⟩ x2).setCell ⟨N, 3, none⟩ x3).heap[N]? = some (.cells #[x0, x1, x2, x3] t (0, 0)) := by
  rw [heap_set (heap_set (heap_set (heap_set h x0) x1) x2) x3]
  rfl
theorem four_fr {w0 w : World} (h : Fr NoB w0 w) (N : Nat) (hN : w0.heap.size ≤ N) (x0 x1 x2 x3 : Value) : Fr NoB w0 ((((w.setCell ⟨N, 0, none⟩ x0).setCell ⟨N, 1, none⟩ x1).setCell ⟨N, 2, none⟩ x2).setCell ⟨N, 3, none⟩ x3) :=
  (((h.setCell (p := ⟨N, 0, none⟩) (fun k => absurd k (by simp only; omega)) _).setCell (p := ⟨N, 1, none⟩) (fun k => absurd k (by simp only; omega)) _).setCell (p := ⟨N, 2, none⟩) (fun k => absurd k (by simp only; omega)) _).setCell (p := ⟨N, 3, none⟩) (fun k => absurd k (by simp only; omega)) _

end Go.Proofs.YtmlmbahimklfiaaGreatDoor

/- Enf -/
namespace Go.Proofs.YtmlmbahimklfiaaGreatDoor
open Go.RowKit

theorem rCount_range (st : RSt) (m : Int) (hm : 0 ≤ m) : 0 ≤ (rCount st m).1 ∧ (rCount st m).1 ≤ m := by
  unfold rCount
  simp only
  split
  · simp; exact hm
  · simp only; omega
theorem info_mem : (Tryz.prog.info? 173).map (fun i => (i.zero, i.size, i.bytes)) = some (some (.agg #[.int .i64 0, .int .u8 0, .int .i64 0, .int .i64 0]), 4, 32) := by kernel_rfl

/-- What Get holds in its loop: a reader, the config under way in block E, its members a row of the call's own. -/
structure GeW (wb w : World) (lo p E : Nat) (v : Int) (V : Value) (l : List Mem) (st : RSt) : Prop where
  a : Rdr w lo p st
  fr : Fr NoB wb w
  lo1 : wb.heap.size ≤ lo
  lo2 : lo ≤ p
  pE : p < E
  bx : w.heap[E]? = some (.cells #[.int .i64 v, V] 28 (0, 0))
  own : w.ownsRow (E + 1) 173 4 V l.length (mv l)
theorem GeW.read {wb w w' : World} {lo p E : Nat} {v : Int} {V : Value} {l : List Mem} {st st' : RSt} (h : GeW wb w lo p E v V l st) (a : Rdr w' lo p st') (f : Fr (OneB p) w w') : GeW wb w' lo p E v V l st' :=
  ⟨a, h.fr.upE f (fun k hk => by have := h.lo1; have := h.lo2; simp only [OneB] at hk; omega), h.lo1, h.lo2, h.pE, f.at_ h.bx (by have := h.pE; simp only [OneB]; omega),
    own_keep h.own fun g hg => f.block g (h.own.lt g hg).2 (by have := h.pE; have := (h.own.lt g hg).1; simp only [OneB]; omega)⟩
theorem GeW.keep {wb w w' : World} {lo p E : Nat} {v : Int} {V : Value} {l : List Mem} {st : RSt} (h : GeW wb w lo p E v V l st) (f : Fr NoB w w') : GeW wb w' lo p E v V l st :=
  ⟨h.a.fr f (fun _ _ _ x => x) h.lo2, h.fr.then f, h.lo1, h.lo2, h.pE, f.at_ h.bx (fun x => x), own_keep h.own fun g hg => f.block g (h.own.lt g hg).2 (fun x => x)⟩

theorem GeW.set {wb w : World} {lo p E : Nat} {v : Int} {V : Value} {l : List Mem} {st : RSt} (h : GeW wb w lo p E v V l st) (K i : Nat) (hK : E < K) (hV : ∀ g, V.ownBlock = some g → g ≠ K) (u : Value) : GeW wb (w.setCell ⟨K, i, none⟩ u) lo p E v V l st := by
  have f : Fr (OneB K) w (w.setCell ⟨K, i, none⟩ u) := (Fr.refl (OneB K) w).setCell (p := ⟨K, i, none⟩) (fun _ => rfl) u
  have h1 := h.lo1
  have h2 := h.lo2
  have h3 := h.pE
  exact ⟨h.a.fr f (fun k _ hk hx => by simp only [OneB] at hx; omega) h.lo2, h.fr.setCell (p := ⟨K, i, none⟩) (fun k => absurd k (by simp only; omega)) u, h.lo1, h.lo2, h.pE, f.at_ h.bx (by simp only [OneB]; omega), own_keep h.own fun g hg => f.block g (h.own.lt g hg).2 (hV g hg)⟩

theorem own_form4 {w : World} {base e n size : Nat} {v : Value} {xs : List Value} (h : w.ownsRow base e size v n xs) : ∃ A c, v = .slice A n c ∧ n ≤ c ∧ c ≤ maxLen := by
  rcases h.2 with ⟨rfl, rfl⟩ | ⟨g, cap, cur, rfl, _, _, h1, h2, _⟩
  · exact ⟨none, 0, rfl, Nat.le_refl _, Nat.zero_le _⟩
  · exact ⟨_, cap, rfl, h1, h2⟩
theorem src_block (w : World) (cs : Array Value) (t : TypeId) (ys : List Value) (h : cs.toList = ys) : ∃ ad, some (⟨w.heap.size, 0, none⟩ : Addr) = some ad ∧ ∀ (j : Nat) (u : Value), ys[j]? = some u → (w.alloc (.cells cs t)).cell? (ad.add j) = some u := by
  subst h
  refine ⟨_, rfl, fun j u hj => ?_⟩
  rw [Lib.addr_add, Lib.cell_of_heap (heap_alloc_new w _)]
  simpa using hj
theorem two_set {w : World} {N : Nat} {t : TypeId} {x0 x1 : Value} (h : w.heap[N]? = some (.cells #[.int .i64 0, .slice none 0 0] t (0, 0))) :
    ((w.setCell ⟨N, 0, none⟩ x0).setCell ⟨N, 1, none⟩ x1).heap[N]? = some (.cells #[x0, x1] t (0, 0)) := by
  rw [heap_set (heap_set h x0) x1]
  rfl
theorem GeW.old {wb w : World} {lo p E : Nat} {v : Int} {V v' : Value} {l : List Mem} {st : RSt} {m : Mem} {o : Obj} {wA : World} (h : GeW wb w lo p E v V l st) (hA : App (E + 1) 173 4 V (l.length + 1) (mv l ++ mv [m]) (w.alloc o) v' wA) : wA.heap[E]? = some (.cells #[.int .i64 v, V] 28 (0, 0)) :=
  hA.fr.at_ (((Fr.refl NoB w).alloc o).at_ h.bx (fun x => x)) (fun hx => by have := (h.own.lt E hx).1; omega)
theorem GeW.push {wb w : World} {lo p E : Nat} {v : Int} {V v' : Value} {l : List Mem} {st : RSt} {m : Mem} {o : Obj} {wA : World} (h : GeW wb w lo p E v V l st) (hA : App (E + 1) 173 4 V (l.length + 1) (mv l ++ mv [m]) (w.alloc o) v' wA) : GeW wb (wA.setCell ⟨E, 1, none⟩ v') lo p E v v' (l ++ [m]) st := by
  have h1 := h.lo1
  have h2 := h.lo2
  have h3 := h.pE
  have hV : ∀ k, V.ownBlock = some k → E + 1 ≤ k := fun k hk => (h.own.lt k hk).1
  have fa : Fr (OneB E) wA (wA.setCell ⟨E, 1, none⟩ v') := (Fr.refl (OneB E) wA).setCell (p := ⟨E, 1, none⟩) (fun _ => rfl) v'
  refine ⟨?_, ?_, h1, h2, h3, ?_, ?_⟩
  · exact ((h.a.fr ((Fr.refl NoB w).alloc o) (fun _ _ _ x => x) h2).fr hA.fr (fun k _ hk hx => by have := hV k hx; omega) h2).fr fa (fun k _ hk hx => by simp only [OneB] at hx; omega) h2
  · exact ((h.fr.alloc o).upE hA.fr (fun k hk => by have := hV k hk; omega)).setCell (p := ⟨E, 1, none⟩) (fun k => absurd k (by simp only; omega)) v'
  · rw [heap_set (h.old hA)]; rfl
  · have := hA.own
    rw [← mv_append] at this
    rw [List.length_append]
    exact own_keep this fun g hg => Below.heap_setCell _ _ _ _ (by have := (this.lt g hg).1; simp only; omega)

set_option maxRecDepth 8000 in
set_option maxHeartbeats 6400000 in
theorem get_config (A : Option Addr) (b : List UInt8) (c lo hi : Nat) (w : World) (h : Rd w lo hi A b) (hh : hi ≤ w.heap.size) (hl : b.length ≤ 140737488355328) (v : Int) (ms : List Mem) (hg : getR b = (v, ms, some [])) (hck : chk v ms = 0) :
    Calls Tryz.prog 127 #[.slice A b.length c] w fun e w' => ∃ A' c', e = .returned (.tuple #[.agg #[.int .i64 v, .slice A' ms.length c'], .int .i64 0]) ∧ ms.length ≤ c' ∧ c' ≤ maxLen ∧ RdM w' w.heap.size w'.heap.size A' ms ∧ Fr NoB w w' := by
  obtain ⟨e1, e2⟩ := Prod.mk.injEq _ _ _ _ ▸ hg
  obtain ⟨e2, e3⟩ := Prod.mk.injEq _ _ _ _ ▸ e2
  have hrc := rCount_range (rInt (some b)).2 7 (by omega)
  obtain ⟨n, hn⟩ : ∃ n : Nat, (rCount (rInt (some b)).2 7).1 = (n : Int) := ⟨((rCount (rInt (some b)).2 7).1).toNat, by omega⟩
  obtain ⟨s1, hs1⟩ : ∃ s1, (rCount (rInt (some b)).2 7).2 = s1 := ⟨_, rfl⟩
  obtain ⟨s0, hs0⟩ : ∃ s0, (rInt (some b)).2 = s0 := ⟨_, rfl⟩
  have hn7 : (n : Int) ≤ 7 := by omega
  have hm : (rdMems n s1).1 = ms := by rw [← e2]; simp only [getR] at *; rw [hn, hs1]; rfl
  have hst : (rdMems n s1).2 = some [] := by rw [← e3]; simp only [getR] at *; rw [hn, hs1]; rfl
  have hv : (rInt (some b)).1 = v := e1
  rw [hs0] at hn hs1
  have HR := Lib.hid h
  have hI := fun W lo p (r : Rdr W lo p (some b)) => rInt_calls lo p (some b) W r
  rw [hv, hs0] at hI
  have HI := Lib.hid hI
  have hC := fun W lo p (r : Rdr W lo p s0) => rCount_calls lo p s0 7 W r
  rw [hn, hs1] at hC
  have HC := Lib.hid hC
  have HM := Lib.hid hm
  have HST := Lib.hid hst
  have HCK := Lib.hid hck
  clear h hI hC hm hst hck hrc hs0 hs1 hn hv e1 e2 e3 hg
  obtain ⟨i0, hi0, hz0, hz1, hz2⟩ := info_parts info_mem
  go_enter Tryz.func127, Tryz.ntmps127
  go_wp2_with (fail)
  have F0 := Lib.hid ((Fr.refl NoB w).alloc (.cells #[.int .i64 0, .slice none 0 0] 28))
  have HRV := Lib.hid (heap_alloc_new w (.cells #[.int .i64 0, .slice none 0 0] 28))
  generalize w.alloc (.cells #[.int .i64 0, .slice none 0 0] 28) = wb at F0 HRV ⊢
  refine (rNew_calls A b c lo hi wb (HR.out.fr F0.out hh (fun _ _ _ x => x)) hl).mono ?_
  rintro e w1 ⟨p, rfl, q1, q2, q3, -⟩
  have Q1 := Lib.hid q1
  have Q2 := Lib.hid q2
  have Q3 := Lib.hid q3
  clear q1 q2 q3 HR
  go_wp2_with (fail)
  refine (HI.out _ _ _ Q2.out).mono ?_
  rintro e w2 ⟨rfl, a2, f2, -⟩
  have HA2 := Lib.hid a2
  have F2 := Lib.hid (Q3.out.upE f2 (fun k hk => by simp only [OneB] at hk; have := Q1.out; omega))
  clear a2 f2 Q2 HI
  go_wp2_with (fail)
  have t3 : GeW wb (w2.alloc (.cells #[.int .i64 v, .slice none 0 0] 28)) wb.heap.size p w2.heap.size v (.slice none 0 0) [] s0 :=
    ⟨HA2.out.fr ((Fr.refl NoB w2).alloc _) (fun _ _ _ x => x) Q1.out, F2.out.alloc _, Nat.le_refl _, Q1.out, HA2.out.lt, heap_alloc_new w2 _, World.ownsRow_nil _ _ _ _⟩
  generalize w2.alloc (.cells #[.int .i64 v, .slice none 0 0] 28) = w3 at t3 ⊢
  generalize w2.heap.size = E at t3 ⊢
  refine (HC.out _ _ _ t3.a).mono ?_
  rintro e w4 ⟨rfl, a4, f4, -⟩
  have T4 := Lib.hid (t3.read a4 f4)
  clear t3 a4 f4 HC HA2 F2 e2 Q1 Q3
  go_wp2
  go_loopw [16] (fun i wr => ∃ (k : Nat) (V : Value), k ≤ n ∧ i = .int .i64 (k : Int) ∧ GeW wb wr wb.heap.size p E v V (rdMems k s1).1 (rdMems k s1).2) (fun i _ => n - (intOf i).toNat)
  case atStart => exact ⟨0, _, Nat.zero_le _, rfl, T4.out⟩
  case round =>
    obtain ⟨k, V, hk, rfl, ht⟩ := hrel
    have TK := Lib.hid ht
    clear ht T4
    by_cases hlt : k < n
    · have hki : (k : Int) < (n : Int) := by omega
      have hll := rdMems_len k s1
      have hstep : rdMems (k + 1) s1 = ((rdMems k s1).1 ++ [(rdMem (rdMems k s1).2).1], (rdMem (rdMems k s1).2).2) := rfl
      generalize (rdMems k s1).1 = l at TK hll hstep
      generalize (rdMems k s1).2 = st at TK hstep
      obtain ⟨x1, t1, g1⟩ : ∃ x t, rCount st 7 = (x, t) := ⟨_, _, rfl⟩
      obtain ⟨x2, t2, g2⟩ : ∃ x t, rCount t1 2 = (x, t) := ⟨_, _, rfl⟩
      obtain ⟨x3, t3, g3⟩ : ∃ x t, rCount t2 1000 = (x, t) := ⟨_, _, rfl⟩
      obtain ⟨x4, t4, g4⟩ : ∃ x t, rCount t3 7 = (x, t) := ⟨_, _, rfl⟩
      have hmem : rdMem st = ((x1, x2, x3, x4), t4) := by simp [rdMem, g1, g2, g3, g4]
      rw [hmem] at hstep
      have r2 := rCount_range t1 2 (by omega)
      rw [g2] at r2
      simp only at r2
      have hx2 : x2 % 256 = x2 := by omega
      have hC1 := fun W (r : Rdr W wb.heap.size p st) => rCount_calls wb.heap.size p st 7 W r
      have hC2 := fun W (r : Rdr W wb.heap.size p t1) => rCount_calls wb.heap.size p t1 2 W r
      have hC3 := fun W (r : Rdr W wb.heap.size p t2) => rCount_calls wb.heap.size p t2 1000 W r
      have hC4 := fun W (r : Rdr W wb.heap.size p t3) => rCount_calls wb.heap.size p t3 7 W r
      rw [g1] at hC1
      rw [g2] at hC2
      rw [g3] at hC3
      rw [g4] at hC4
      have HC1 := Lib.hid hC1
      have HC2 := Lib.hid hC2
      have HC3 := Lib.hid hC3
      have HC4 := Lib.hid hC4
      have HSTEP := Lib.hid hstep
      have HLL := Lib.hid hll
      clear hC1 hC2 hC3 hC4 hstep hmem g1 g2 g3 g4 r2 hll
      go_wp2_with (fail)
      refine (HC1.out _ TK.out.a).mono ?_
      rintro e w5 ⟨rfl, a5, f5, -⟩
      have T5 := Lib.hid (TK.out.read a5 f5)
      have HBV := Lib.hid (fun g (hg : V.ownBlock = some g) => Nat.ne_of_lt (T5.out.own.lt g hg).2)
      have HEK := Lib.hid (Lib.lt_of_heap T5.out.bx)
      clear a5 f5 TK HC1
      go_wp2_with (fail)
      have hmk := heap_alloc_new w5 (.cells #[.int .i64 x1, .int .u8 0, .int .i64 0, .int .i64 0] 173)
      have T5b := Lib.hid (T5.out.keep ((Fr.refl NoB w5).alloc (.cells #[.int .i64 x1, .int .u8 0, .int .i64 0, .int .i64 0] 173)))
      generalize w5.alloc (.cells #[.int .i64 x1, .int .u8 0, .int .i64 0, .int .i64 0] 173) = w5b at hmk T5b ⊢
      generalize w5.heap.size = K at hmk HBV HEK ⊢
      refine (HC2.out _ T5b.out.a).mono ?_
      rintro e w6 ⟨rfl, a6, f6, -⟩
      have T6 := Lib.hid (T5b.out.read a6 f6)
      have hKp : ¬ OneB p K := by have := HEK.out; have := T5b.out.pE; simp only [OneB]; omega
      have hm6 := f6.at_ hmk hKp
      have HM6 := Lib.hid hm6
      have y1 := (cells_of hm6 1).1
      have z1 := (cells_of hm6 1).2
      simp only [List.getElem?_toArray, List.getElem?_cons_zero, List.getElem?_cons_succ] at y1
      clear a6 f6 hmk T5b HC2 hm6
      go_wp2_with (fail)
      have T6b := Lib.hid (T6.out.set K 1 HEK.out HBV.out (.int .u8 x2))
      have hm6b : (w6.setCell ⟨K, 1, none⟩ (.int .u8 x2)).heap[K]? = some (.cells #[.int .i64 x1, .int .u8 x2, .int .i64 0, .int .i64 0] 173 (0, 0)) := by rw [heap_set HM6.out]; rfl
      generalize w6.setCell ⟨K, 1, none⟩ (.int .u8 x2) = w6b at hm6b T6b ⊢
      clear T6 HM6 y1 z1
      refine (HC3.out _ T6b.out.a).mono ?_
      rintro e w7 ⟨rfl, a7, f7, -⟩
      have T7 := Lib.hid (T6b.out.read a7 f7)
      have hm7 := f7.at_ hm6b hKp
      clear a7 f7 T6b hm6b HC3
      go_wp2_with (fail)
      refine (HC4.out _ T7.out.a).mono ?_
      rintro e w8 ⟨rfl, a8, f8, -⟩
      have T8 := Lib.hid (T7.out.read a8 f8)
      have hm8 := f8.at_ hm7 hKp
      clear a8 f8 T7 hm7 HC4
      obtain ⟨AV, cV, hVe, _, _⟩ := own_form4 T8.out.own
      subst hVe
      have y2 := (cells_of hm8 2).1
      have z2 := (cells_of hm8 2).2
      have y3 := (cells_of hm8 3).1
      have z3 := (cells_of hm8 3).2
      have T9 := Lib.hid ((T8.out.set K 2 HEK.out HBV.out (.int .i64 x3)).set K 3 HEK.out HBV.out (.int .i64 x4))
      have hm9 : ((w8.setCell ⟨K, 2, none⟩ (.int .i64 x3)).setCell ⟨K, 3, none⟩ (.int .i64 x4)).heap[K]? = some (.cells #[.int .i64 x1, .int .u8 x2, .int .i64 x3, .int .i64 x4] 173 (0, 0)) := by rw [heap_set (heap_set hm8 _) _]; rfl
      have u0 := (cells_of hm9 0).1
      have u1 := (cells_of hm9 1).1
      have u2 := (cells_of hm9 2).1
      have u3 := (cells_of hm9 3).1
      have uE := (cells_of T9.out.bx 1).1
      simp only [List.getElem?_toArray, List.getElem?_cons_zero, List.getElem?_cons_succ] at y2 y3 u0 u1 u2 u3 uE
      have hsrc : ∀ (t : TypeId) (j : Nat) (u : Value), (mv [(x1, x2, x3, x4)])[j]? = some u → (((w8.setCell ⟨K, 2, none⟩ (.int .i64 x3)).setCell ⟨K, 3, none⟩ (.int .i64 x4)).alloc (.cells #[.int .i64 x1, .int .u8 x2, .int .i64 x3, .int .i64 x4] t)).cell? ((⟨w8.heap.size, 0, none⟩ : Addr).add j) = some u := fun t j u hj => by
        obtain ⟨ad, h1, h2⟩ := src_block ((w8.setCell ⟨K, 2, none⟩ (.int .i64 x3)).setCell ⟨K, 3, none⟩ (.int .i64 x4)) #[.int .i64 x1, .int .u8 x2, .int .i64 x3, .int .i64 x4] t (mv [(x1, x2, x3, x4)]) rfl
        have hsz : ((w8.setCell ⟨K, 2, none⟩ (.int .i64 x3)).setCell ⟨K, 3, none⟩ (.int .i64 x4)).heap.size = w8.heap.size := by simp [World.setCell]
        rw [hsz] at h1
        cases h1
        exact h2 j u hj
      have HSRC := Lib.hid hsrc
      clear hm8 hm9 T8 hsrc
      go_wp2_with (at_builtin; go_loud (refine wpList_append_src _ rfl _ _ 26 rfl (E + 1) 173 i0 (.agg #[.int .i64 0, .int .u8 0, .int .i64 0, .int .i64 0]) 4 32 Tryz.underlying26 hi0 hz0 hz1 hz2 rfl (by decide) (.slice AV l.length cV) l.length (mv l) rfl (T9.out.own.alloc _) _ 1 _ (mv [(x1, x2, x3, x4)]) rfl rfl (fun _ => ⟨_, rfl, HSRC.out _⟩) (mv_one _) (by have := HLL.out; unfold maxLen; omega) (by have := HLL.out; omega) (by have := Lib.lt_of_heap T9.out.bx; simp at this ⊢; omega) ?_))
      intro v' wA hA
      obtain ⟨A2, c2, hv2, _, _⟩ := own_form4 hA.own
      subst hv2
      have T10 := Lib.hid (T9.out.push hA)
      have hold := T9.out.old hA
      have q1 := (cells_of hold 1).1
      have q2 := (cells_of hold 1).2
      simp only [List.getElem?_toArray, List.getElem?_cons_zero, List.getElem?_cons_succ] at q1
      clear hA hold T9 HSRC u0 u1 u2 u3 uE y2 y3 z2 z3
      go_wp2
      go_roundw
      case rel => exact ⟨k + 1, _, by omega, by go_num, by rw [HSTEP.out]; exact T10.out⟩
      case measure => simp [intOf]; omega
    · obtain rfl : k = n := by omega
      have ht := TK.out
      rw [HM.out, HST.out] at ht
      obtain ⟨AV, cV, hVe, hl1, hl2⟩ := own_form4 ht.own
      subst hVe
      have TE := Lib.hid ht
      have hrdm := own_rdm ht.own
      have hml : ms.length = k := by rw [← HM.out, rdMems_len]
      have hwh := rWhole_calls wb.heap.size p _ wr ht.a
      rw [show rWhole (some []) = true from rfl] at hwh
      have hcc := check_calls v AV ms cV (E + 1) wr.heap.size wr hrdm (Nat.le_refl _) (by omega)
      rw [HCK.out] at hcc
      have HWH := Lib.hid hwh
      have HCC := Lib.hid hcc
      have HRD := Lib.hid hrdm
      have b0 := (cells_of ht.bx 0).1
      have b1 := (cells_of ht.bx 1).1
      simp only [List.getElem?_toArray, List.getElem?_cons_zero, List.getElem?_cons_succ] at b0 b1
      clear ht hwh hcc hrdm TK HM HST HCK hlt hk hi0 hz0 hz1 hz2 hml
      go_wp2_with (fail)
      refine HWH.out.mono ?_
      rintro e w5 ⟨rfl, rfl⟩
      go_wp2_with (fail)
      refine HCC.out.mono ?_
      rintro e w9 ⟨rfl, f9⟩
      have T9 := Lib.hid (TE.out.keep f9)
      have hres := T9.out.fr.at_ HRV.out (fun x => x)
      have HRES := Lib.hid hres
      have c0 := (cells_of T9.out.bx 0).1
      have c1 := (cells_of T9.out.bx 1).1
      have r0 := (cells_of hres 0).1
      have r1 := (cells_of hres 1).1
      have z0 := (cells_of hres 0).2
      have z1 := (cells_of hres 1).2
      simp only [List.getElem?_toArray, List.getElem?_cons_zero, List.getElem?_cons_succ] at c0 c1 r0 r1
      have F9 := Lib.hid f9
      have HwE : Hid (w.heap.size < E) := by
        have h1 := TE.out.lo1
        have h2 := TE.out.lo2
        have h3 := TE.out.pE
        have h4 := Lib.lt_of_heap HRV.out
        show w.heap.size < E
        omega
      clear f9 hres HCC HWH
      go_wp2
      refine bodyPost_ret (v := .tuple #[.agg #[.int .i64 v, .slice AV ms.length cV], .int .i64 0]) (results_row_tmp (fn := Tryz.f127) (p := 2) (u := 3) (ty := 28) (by kernel_rfl) _ _ w.heap.size 28 _ _ _ rfl (two_set HRES.out) Tryz.underlying28 rfl (by kernel_rfl)) rfl ⟨AV, cV, rfl, hl1, hl2, ?_, ?_⟩
      · have hf : Fr (OneB w.heap.size) wr ((w9.setCell ⟨w.heap.size, 0, none⟩ (.int .i64 v)).setCell ⟨w.heap.size, 1, none⟩ (.slice AV ms.length cV)) := ((F9.out.no (M := OneB w.heap.size)).setCell (p := ⟨w.heap.size, 0, none⟩) (fun _ => rfl) _).setCell (p := ⟨w.heap.size, 1, none⟩) (fun _ => rfl) _
        exact (HRD.out.fr hf (Nat.le_refl _) (fun k hk _ hx => by simp only [OneB] at hx; have := HwE.out; omega)).wide (by have := HwE.out; omega) hf.size
      · exact (((F0.out.then TE.out.fr).then F9.out).setCell (p := ⟨w.heap.size, 0, none⟩) (fun k => absurd k (by simp)) _).setCell (p := ⟨w.heap.size, 1, none⟩) (fun k => absurd k (by simp)) _

end Go.Proofs.YtmlmbahimklfiaaGreatDoor

/- Enn -/
namespace Go.Proofs.YtmlmbahimklfiaaGreatDoor

theorem numAt_front (f k acc u : Nat) (r : List UInt8) (hk : k + f = 9) (hu : u < 2 * 128 ^ f) (h0 : 0 < k → 0 < u) : numAt k acc (b128 f u ++ r) = some (acc + u * 128 ^ k, r) := by
  induction f generalizing k acc u with
  | zero =>
    have hk9 : k = 9 := by omega
    subst hk9
    have := h0 (by omega)
    have e : (UInt8.ofNat u).toNat = u := by simp only [UInt8.toNat_ofNat']; omega
    simp only [b128, List.cons_append, List.nil_append, numAt, e]
    rw [if_neg (by omega), if_neg (by omega)]
  | succ f ih =>
    by_cases h : u < 128
    · have e : (UInt8.ofNat u).toNat = u := by simp only [UInt8.toNat_ofNat']; omega
      rw [b128_lt h]
      simp only [List.cons_append, List.nil_append, numAt, e]
      have hnot : ¬ ((u = 0 ∧ 0 < k) ∨ (1 < u ∧ k = 9)) := by
        rintro (⟨h1, h2⟩ | ⟨h1, h2⟩)
        · have := h0 h2; omega
        · omega
      rw [if_neg (by omega), if_neg hnot]
    · have e : (UInt8.ofNat (u % 128 + 128)).toNat = u % 128 + 128 := by simp only [UInt8.toNat_ofNat']; omega
      rw [b128_ge (by omega)]
      simp only [List.cons_append, numAt, e]
      rw [if_pos (by omega), ih _ _ _ (by omega) (by rw [Nat.pow_succ] at hu; omega) (by omega)]
      congr 2
      rw [show u % 128 + 128 - 128 = u % 128 by omega, Nat.pow_succ, Nat.add_assoc, ← Nat.mul_assoc, Nat.mul_right_comm, ← Nat.add_mul]
      congr 2
      omega
theorem numAt_cut (f k acc u q : Nat) (hk : k + f = 9) (hq : q < (b128 f u).length) : numAt k acc ((b128 f u).take q) = none := by
  induction f generalizing k acc u q with
  | zero =>
    have : q = 0 := by simp [b128] at hq; exact hq
    subst this
    rfl
  | succ f ih =>
    cases q with
    | zero => rfl
    | succ q =>
      by_cases h : u < 128
      · rw [b128_lt h] at hq; simp at hq
      · have e : (UInt8.ofNat (u % 128 + 128)).toNat = u % 128 + 128 := by simp only [UInt8.toNat_ofNat']; omega
        rw [b128_ge (by omega)] at hq ⊢
        simp only [List.take_succ_cons, numAt, e]
        rw [if_pos (by omega)]
        exact ih _ _ _ _ (by omega) (by simpa using hq)
theorem unzig_zig (n : Int) : unzig (zig n) = n := by
  unfold unzig zig
  split <;> split <;> omega
theorem rInt_front {n : Int} (h1 : -9223372036854775808 ≤ n) (h2 : n ≤ 9223372036854775807) (r : List UInt8) : rInt (some (intB n ++ r)) = (n, some r) := by
  have h := numAt_front 9 0 0 (zig n) r rfl (by have := zig_lt h1 h2; omega) (by omega)
  unfold rInt intB
  simp only [h]
  rw [Nat.pow_zero, Nat.mul_one, Nat.zero_add, unzig_zig]
theorem rInt_cut (n : Int) (q : Nat) (hq : q < (intB n).length) : rInt (some ((intB n).take q)) = (0, none) := by
  have h := numAt_cut 9 0 0 (zig n) q rfl hq
  unfold rInt intB
  simp only [h]
theorem rBytes_of {st st' : RSt} {n m : Int} (h : rInt st = (n, st')) (h0 : 0 ≤ n) (hm : n ≤ m) : rBytes st m = tk st' n := by
  unfold rBytes rCount
  rw [h]
  simp only
  rw [if_neg (by omega)]
theorem rBytes_front (l r : List UInt8) (hl : l.length ≤ 9223372036854775807) : rBytes (some (textB l ++ r)) l.length = (l, some r) := by
  unfold textB
  rw [List.append_assoc, rBytes_of (rInt_front (by omega) (by omega) _) (by omega) (by omega)]
  unfold tk
  simp only
  rw [if_pos (by simp; omega), Int.toNat_natCast, List.take_left, List.drop_left]
theorem rBytes_cut (l : List UInt8) (q : Nat) (hl : l.length ≤ 9223372036854775807) (hq : q < (textB l).length) : (rBytes (some ((textB l).take q)) l.length).2 = none := by
  unfold textB at hq ⊢
  by_cases h : q < (intB l.length).length
  · rw [List.take_append_of_le_length (by omega), rBytes_of (rInt_cut _ _ h) (by omega) (by omega)]
    rfl
  · rw [List.take_append, List.take_of_length_le (by omega), rBytes_of (rInt_front (by omega) (by omega) _) (by omega) (by omega)]
    unfold tk
    simp only
    rw [if_neg]
    simp at hq ⊢
    omega

/-- A thing: its sort (of four), its number, its bytes. -/
abbrev Thing := Int × Int × List UInt8
def putB (x : Thing) : List UInt8 := if x.1 % 4 = 0 then [UInt8.ofNat (x.2.1 % 256).toNat] else if x.1 % 4 = 1 then intB x.2.1 else textB x.2.2
theorem putB_len (x : Thing) : (putB x).length ≤ x.2.2.length + 10 := by
  unfold putB
  split
  · simp
  · split
    · have := intB_len x.2.1; omega
    · exact textB_len _
def catB : List Thing → List UInt8
  | [] => []
  | x :: l => putB x ++ catB l
theorem catB_append (a b : List Thing) : catB (a ++ b) = catB a ++ catB b := by
  induction a with
  | nil => rfl
  | cons x a ih => simp [catB, ih]
/-- A thing is read: is it the one, and what is left. -/
def rdOne (st : RSt) (x : Thing) : Bool × RSt :=
  if x.1 % 4 = 0 then ((rByte st).1 == UInt8.ofNat (x.2.1 % 256).toNat, (rByte st).2)
  else if x.1 % 4 = 1 then ((rInt st).1 == x.2.1, (rInt st).2)
  else ((rBytes st x.2.2.length).1 == x.2.2, (rBytes st x.2.2.length).2)
def rdAll : List Thing → RSt → Bool × RSt
  | [], st => (true, st)
  | x :: l, st => if (rdOne st x).1 = true ∧ rGood (rdOne st x).2 = true then rdAll l (rdOne st x).2 else (false, (rdOne st x).2)
def Fits (x : Thing) : Prop := (-9223372036854775808 ≤ x.2.1 ∧ x.2.1 ≤ 9223372036854775807) ∧ x.2.2.length ≤ 9223372036854775807
theorem rdOne_front {x : Thing} (hx : Fits x) (r : List UInt8) : rdOne (some (putB x ++ r)) x = (true, some r) := by
  unfold rdOne putB
  split
  · simp [rByte]
  · split
    · rw [rInt_front hx.1.1 hx.1.2]; simp
    · rw [rBytes_front _ _ hx.2]; simp
theorem rdOne_cut {x : Thing} (hx : Fits x) (q : Nat) (hq : q < (putB x).length) : (rdOne (some ((putB x).take q)) x).2 = none := by
  unfold rdOne putB at *
  split
  · rename_i h
    rw [if_pos h] at hq
    simp at hq
    subst hq
    rfl
  · rename_i h
    rw [if_neg h] at hq
    split
    · rename_i h1
      rw [if_pos h1] at hq
      rw [rInt_cut _ _ hq]
    · rename_i h1
      rw [if_neg h1] at hq
      exact rBytes_cut _ _ hx.2 hq
theorem rdAll_front (l : List Thing) (hl : ∀ x ∈ l, Fits x) (r : List UInt8) : rdAll l (some (catB l ++ r)) = (true, some r) := by
  induction l with
  | nil => rfl
  | cons x l ih =>
    unfold rdAll catB
    rw [List.append_assoc, rdOne_front (hl x (by simp)), if_pos ⟨rfl, rfl⟩]
    exact ih fun y hy => hl y (by simp [hy])
theorem rdAll_cut (l : List Thing) (hl : ∀ x ∈ l, Fits x) (q : Nat) (hq : q < (catB l).length) : rdAll l (some ((catB l).take q)) = (false, none) := by
  induction l generalizing q with
  | nil => simp [catB] at hq
  | cons x l ih =>
    simp only [catB] at hq ⊢
    unfold rdAll
    by_cases h : q < (putB x).length
    · rw [List.take_append_of_le_length (by omega), rdOne_cut (hl x (by simp)) q h, if_neg (by simp [rGood])]
    · rw [List.take_append, List.take_of_length_le (by omega), rdOne_front (hl x (by simp)), if_pos ⟨rfl, rfl⟩]
      rw [List.length_append] at hq
      exact ih (fun y hy => hl y (by simp [hy])) _ (by omega)

end Go.Proofs.YtmlmbahimklfiaaGreatDoor

/- Gtp -/
namespace Go.Proofs.YtmlmbahimklfiaaGreatDoor

theorem rCount_front {n m : Int} (h0 : 0 ≤ n) (h1 : n ≤ m) (hm : m ≤ 9223372036854775807) (r : List UInt8) : rCount (some (intB n ++ r)) m = (n, some r) := by
  unfold rCount
  rw [rInt_front (by omega) (by omega)]
  simp only
  rw [if_neg (by omega)]
theorem rCount_back {st : RSt} {m n : Int} {r : List UInt8} (h : rCount st m = (n, some r)) : ∃ l, st = some l ∧ intB n ++ r = l ∧ 0 ≤ n ∧ n ≤ m := by
  unfold rCount at h
  cases st with
  | none => simp [rInt] at h
  | some l =>
    cases hn : rInt (some l) with
    | mk x t =>
      rw [hn] at h
      simp only at h
      split at h
      · cases h
      · cases h
        exact ⟨l, rfl, (rInt_back hn).1, by omega, by omega⟩
theorem rCount_nothing (m : Int) : (rCount none m).2 = none := by
  unfold rCount rInt
  simp only
  split <;> rfl
theorem rdMem_nothing : (rdMem none).2 = none := by
  simp only [rdMem, rCount_nothing]
theorem rdMem_front {m : Mem} (h : GoodM m) (r : List UInt8) : rdMem (some (memB m ++ r)) = (m, some r) := by
  unfold GoodM at h
  have e1 := rCount_front (n := m.1) (m := 7) (by omega) (by omega) (by omega) (intB m.2.1 ++ (intB m.2.2.1 ++ (intB m.2.2.2 ++ r)))
  have e2 := rCount_front (n := m.2.1) (m := 2) (by omega) (by omega) (by omega) (intB m.2.2.1 ++ (intB m.2.2.2 ++ r))
  have e3 := rCount_front (n := m.2.2.1) (m := 1000) (by omega) (by omega) (by omega) (intB m.2.2.2 ++ r)
  have e4 := rCount_front (n := m.2.2.2) (m := 7) (by omega) (by omega) (by omega) r
  have hb : memB m ++ r = intB m.1 ++ (intB m.2.1 ++ (intB m.2.2.1 ++ (intB m.2.2.2 ++ r))) := by simp [memB]
  simp only [rdMem]
  rw [hb, e1, e2, e3, e4]
theorem rdMem_back {st : RSt} {m : Mem} {r : List UInt8} (h : rdMem st = (m, some r)) : ∃ l, st = some l ∧ memB m ++ r = l := by
  obtain ⟨x1, t1, g1⟩ : ∃ x t, rCount st 7 = (x, t) := ⟨_, _, rfl⟩
  obtain ⟨x2, t2, g2⟩ : ∃ x t, rCount t1 2 = (x, t) := ⟨_, _, rfl⟩
  obtain ⟨x3, t3, g3⟩ : ∃ x t, rCount t2 1000 = (x, t) := ⟨_, _, rfl⟩
  obtain ⟨x4, t4, g4⟩ : ∃ x t, rCount t3 7 = (x, t) := ⟨_, _, rfl⟩
  simp only [rdMem, g1, g2, g3, g4] at h
  cases h
  obtain ⟨l3, rfl, e4, -⟩ := rCount_back g4
  obtain ⟨l2, rfl, e3, -⟩ := rCount_back g3
  obtain ⟨l1, rfl, e2, -⟩ := rCount_back g2
  obtain ⟨l0, rfl, e1, -⟩ := rCount_back g1
  refine ⟨l0, rfl, ?_⟩
  rw [← e1, ← e2, ← e3, ← e4]
  simp [memB]
theorem memsB_at {l : List Mem} {k : Nat} {m : Mem} (h : l[k]? = some m) : memsB (l.drop k) = memB m ++ memsB (l.drop (k + 1)) := by
  have hk := List.getElem?_eq_some_iff.1 h
  rw [List.drop_eq_getElem_cons hk.1, hk.2]
  rfl
theorem rdMems_front {l : List Mem} (h : ∀ m ∈ l, GoodM m) (r : List UInt8) (k : Nat) (hk : k ≤ l.length) : rdMems k (some (memsB l ++ r)) = (l.take k, some (memsB (l.drop k) ++ r)) := by
  induction k with
  | zero => simp [rdMems]
  | succ k ih =>
    have hlt : k < l.length := by omega
    rw [rdMems, ih (by omega)]
    simp only
    rw [memsB_at (List.getElem?_eq_getElem hlt), List.append_assoc, rdMem_front (h _ (List.getElem_mem hlt)), List.take_succ_eq_append_getElem hlt]
theorem rdMems_back {k : Nat} {st : RSt} {l : List Mem} {r : List UInt8} (h : rdMems k st = (l, some r)) : ∃ b, st = some b ∧ memsB l ++ r = b := by
  induction k generalizing l r with
  | zero => cases h; exact ⟨r, rfl, rfl⟩
  | succ k ih =>
    rw [rdMems] at h
    cases hd : rdMem (rdMems k st).2 with
    | mk m t =>
      rw [hd] at h
      cases h
      obtain ⟨b1, e1, e2⟩ := rdMem_back hd
      obtain ⟨b, rfl, e3⟩ := ih (l := (rdMems k st).1) (r := b1) (by rw [← e1])
      refine ⟨b, rfl, ?_⟩
      have e4 : memsB [m] ++ r = memB m ++ r := by simp [memsB]
      rw [memsB_append, List.append_assoc, e4, e2, e3]
theorem chk_len {v : Int} {ms : List Mem} (h : chk v ms = 0) : ms.length ≤ 7 ∧ 0 ≤ v ∧ v ≤ 4611686018427387904 := by
  unfold chk at h
  split at h
  · omega
  · split at h
    · omega
    · split at h
      · omega
      · omega
theorem getR_front {v : Int} {ms : List Mem} (h : chk v ms = 0) (r : List UInt8) : getR (ensB v ms ++ r) = (v, ms, some r) := by
  obtain ⟨h7, hv0, hv1⟩ := chk_len h
  have e1 := rInt_front (n := v) (by omega) (by omega) (intB ms.length ++ (memsB ms ++ r))
  have e2 := rCount_front (n := (ms.length : Int)) (m := 7) (by omega) (by omega) (by omega) (memsB ms ++ r)
  have e3 := rdMems_front (chk_good h) r ms.length (Nat.le_refl _)
  have hb : ensB v ms ++ r = intB v ++ (intB ms.length ++ (memsB ms ++ r)) := by simp [ensB]
  simp only [getR]
  rw [hb, e1]
  simp only
  rw [e2]
  simp only [Int.toNat_natCast]
  rw [e3]
  simp [memsB]
theorem get_front {v : Int} {ms : List Mem} (h : chk v ms = 0) : getE (ensB v ms) = some (v, ms) := by
  have := getR_front h []
  rw [List.append_nil] at this
  unfold getE
  rw [this]
  simp only
  rw [if_pos ⟨rfl, h⟩]
theorem get_back {b : List UInt8} {v : Int} {ms : List Mem} (h : getE b = some (v, ms)) : ensB v ms = b ∧ chk v ms = 0 := by
  unfold getE at h
  split at h
  · rename_i hh
    obtain ⟨h1, h2⟩ := hh
    simp only [Option.some.injEq, Prod.mk.injEq] at h
    obtain ⟨rfl, rfl⟩ := h
    refine ⟨?_, h2⟩
    have hw : (getR b).2.2 = some [] := by simpa [rWhole] using h1
    clear h1 h2
    simp only [getR] at hw ⊢
    obtain ⟨x, t, g1⟩ : ∃ x t, rInt (some b) = (x, t) := ⟨_, _, rfl⟩
    obtain ⟨y, u, g2⟩ : ∃ y u, rCount t 7 = (y, u) := ⟨_, _, rfl⟩
    obtain ⟨l, s, g3⟩ : ∃ l s, rdMems y.toNat u = (l, s) := ⟨_, _, rfl⟩
    rw [g1] at hw ⊢
    simp only at hw ⊢
    rw [g2] at hw ⊢
    simp only at hw ⊢
    rw [g3] at hw ⊢
    simp only at hw ⊢
    subst hw
    obtain ⟨b2, rfl, e3⟩ := rdMems_back g3
    obtain ⟨b1, rfl, e2, hy0, hy1⟩ := rCount_back g2
    have e1 := (rInt_back g1).1
    have hl := rdMems_len y.toNat (some b2)
    rw [g3] at hl
    simp only at hl
    rw [← e1, ← e2, ← e3, ensB, hl, Int.toNat_of_nonneg hy0]
    simp
  · cases h
theorem get_cut {v : Int} {ms : List Mem} (h : chk v ms = 0) {q : Nat} (hq : q < (ensB v ms).length) : getE ((ensB v ms).take q) = none := by
  cases hg : getE ((ensB v ms).take q) with
  | none => rfl
  | some x =>
    obtain ⟨v', ms'⟩ := x
    obtain ⟨e, hc⟩ := get_back hg
    have h1 := getR_front hc ((ensB v ms).drop q)
    rw [e, List.take_append_drop] at h1
    have h2 := getR_front h []
    rw [List.append_nil, h1] at h2
    simp only [Prod.mk.injEq, Option.some.injEq] at h2
    have := congrArg List.length h2.2.2
    simp at this
    omega

/-- The reference's reading: an Int, or one more than the most. -/
def smR (st : RSt) (m : Int) : Int × RSt := (if (rInt st).1 < 0 ∨ m < (rInt st).1 then m + 1 else (rInt st).1, (rInt st).2)
def rdMem2 (st : RSt) : Mem × RSt :=
  (((smR st 7).1, (smR (smR st 7).2 2).1, (smR (smR (smR st 7).2 2).2 1000).1, (smR (smR (smR (smR st 7).2 2).2 1000).2 7).1), (smR (smR (smR (smR st 7).2 2).2 1000).2 7).2)
def rdMems2 : Nat → RSt → List Mem × RSt
  | 0, st => ([], st)
  | n + 1, st => ((rdMems2 n st).1 ++ [(rdMem2 (rdMems2 n st).2).1], (rdMem2 (rdMems2 n st).2).2)
theorem rdMems2_len (n : Nat) (st : RSt) : (rdMems2 n st).1.length = n := by
  induction n with
  | zero => rfl
  | succ n ih => simp [rdMems2, ih]
def getR2 (b : List UInt8) : Int × List Mem × RSt :=
  let s0 := rInt (some b)
  let s1 := rCount s0.2 7
  let s2 := rdMems2 s1.1.toNat s1.2
  (s0.1, s2.1, s2.2)
def getE2 (b : List UInt8) : Option (Int × List Mem) :=
  if rWhole (getR2 b).2.2 = true ∧ chk (getR2 b).1 (getR2 b).2.1 = 0 then some ((getR2 b).1, (getR2 b).2.1) else none
theorem sm_step (st : RSt) (m : Int) : (rCount st m = smR st m) ∨ ((rCount st m).2 = none ∧ (smR st m).1 = m + 1) := by
  unfold rCount smR
  by_cases h : (rInt st).1 < 0 ∨ m < (rInt st).1
  · right
    simp [h]
  · left
    simp [h]
theorem smR_nothing (m : Int) : (smR none m).2 = none := rfl
theorem mem_step (st : RSt) : (rdMem st = rdMem2 st) ∨ ((rdMem st).2 = none ∧ ¬ GoodM (rdMem2 st).1) := by
  unfold GoodM
  simp only [rdMem, rdMem2]
  rcases sm_step st 7 with e1 | ⟨n1, b1⟩
  · rw [e1]
    rcases sm_step (smR st 7).2 2 with e2 | ⟨n2, b2⟩
    · rw [e2]
      rcases sm_step (smR (smR st 7).2 2).2 1000 with e3 | ⟨n3, b3⟩
      · rw [e3]
        rcases sm_step (smR (smR (smR st 7).2 2).2 1000).2 7 with e4 | ⟨n4, b4⟩
        · rw [e4]; exact .inl rfl
        · right
          refine ⟨n4, ?_⟩
          rw [b4]; omega
      · right
        refine ⟨by rw [n3]; exact rCount_nothing _, ?_⟩
        rw [b3]; omega
    · right
      refine ⟨by rw [n2, rCount_nothing]; exact rCount_nothing _, ?_⟩
      rw [b2]; omega
  · right
    refine ⟨by rw [n1, rCount_nothing, rCount_nothing]; exact rCount_nothing _, ?_⟩
    rw [b1]; omega
theorem mems_step (n : Nat) (st : RSt) : (rdMems n st = rdMems2 n st) ∨ ((rdMems n st).2 = none ∧ ∃ m ∈ (rdMems2 n st).1, ¬ GoodM m) := by
  induction n with
  | zero => exact .inl rfl
  | succ n ih =>
    rw [rdMems, rdMems2]
    rcases ih with e | ⟨h1, m, hm, hb⟩
    · rw [e]
      rcases mem_step (rdMems2 n st).2 with e2 | ⟨h1, hb⟩
      · rw [e2]; exact .inl rfl
      · exact .inr ⟨h1, _, by simp, hb⟩
    · right
      refine ⟨?_, m, by simp [hm], hb⟩
      simp only
      rw [h1]
      exact rdMem_nothing
theorem ref_get (b : List UInt8) : getE2 b = getE b := by
  unfold getE2 getE getR2 getR
  simp only
  rcases mems_step (rCount (rInt (some b)).2 7).1.toNat (rCount (rInt (some b)).2 7).2 with e | ⟨h1, m, hm, hb⟩
  · rw [e]
  · rw [if_neg (fun hx => hb (chk_good hx.2 m hm)), h1, if_neg (fun hx => by have := hx.1; simp [rWhole] at this)]

end Go.Proofs.YtmlmbahimklfiaaGreatDoor

/- Enm -/
namespace Go.Proofs.YtmlmbahimklfiaaGreatDoor
open Go.RowKit

set_option maxRecDepth 8000 in
set_option maxHeartbeats 6400000 in
theorem get_any (A : Option Addr) (b : List UInt8) (c lo hi : Nat) (w : World) (h : Rd w lo hi A b) (hh : hi ≤ w.heap.size) (hl : b.length ≤ 140737488355328) (v : Int) (ms : List Mem) (fin : RSt) (hg : getR b = (v, ms, fin)) :
    Calls Tryz.prog 127 #[.slice A b.length c] w fun e w' => (∃ A' c', e = .returned (.tuple #[.agg #[.int .i64 v, .slice A' ms.length c'], .int .i64 0]) ∧ ms.length ≤ c' ∧ c' ≤ maxLen ∧ RdM w' w.heap.size w'.heap.size A' ms ∧ Fr NoB w w' ∧ (rWhole fin = true ∧ chk v ms = 0)) ∨ (e = .returned (.tuple #[.agg #[.int .i64 0, .slice none 0 0], .int .i64 4]) ∧ Fr NoB w w' ∧ ¬ (rWhole fin = true ∧ chk v ms = 0)) := by
  obtain ⟨e1, e2⟩ := Prod.mk.injEq _ _ _ _ ▸ hg
  obtain ⟨e2, e3⟩ := Prod.mk.injEq _ _ _ _ ▸ e2
  have hrc := rCount_range (rInt (some b)).2 7 (by omega)
  obtain ⟨n, hn⟩ : ∃ n : Nat, (rCount (rInt (some b)).2 7).1 = (n : Int) := ⟨((rCount (rInt (some b)).2 7).1).toNat, by omega⟩
  obtain ⟨s1, hs1⟩ : ∃ s1, (rCount (rInt (some b)).2 7).2 = s1 := ⟨_, rfl⟩
  obtain ⟨s0, hs0⟩ : ∃ s0, (rInt (some b)).2 = s0 := ⟨_, rfl⟩
  have hn7 : (n : Int) ≤ 7 := by omega
  have hm : (rdMems n s1).1 = ms := by rw [← e2]; simp only [getR] at *; rw [hn, hs1]; rfl
  have hst : (rdMems n s1).2 = fin := by rw [← e3]; simp only [getR] at *; rw [hn, hs1]; rfl
  have hv : (rInt (some b)).1 = v := e1
  rw [hs0] at hn hs1
  have HR := Lib.hid h
  have hI := fun W lo p (r : Rdr W lo p (some b)) => rInt_calls lo p (some b) W r
  rw [hv, hs0] at hI
  have HI := Lib.hid hI
  have hC := fun W lo p (r : Rdr W lo p s0) => rCount_calls lo p s0 7 W r
  rw [hn, hs1] at hC
  have HC := Lib.hid hC
  have HM := Lib.hid hm
  have HST := Lib.hid hst
  clear h hI hC hm hst hrc hs0 hs1 hn hv e1 e2 e3 hg
  obtain ⟨i0, hi0, hz0, hz1, hz2⟩ := info_parts info_mem
  go_enter Tryz.func127, Tryz.ntmps127
  go_wp2_with (fail)
  have F0 := Lib.hid ((Fr.refl NoB w).alloc (.cells #[.int .i64 0, .slice none 0 0] 28))
  have HRV := Lib.hid (heap_alloc_new w (.cells #[.int .i64 0, .slice none 0 0] 28))
  generalize w.alloc (.cells #[.int .i64 0, .slice none 0 0] 28) = wb at F0 HRV ⊢
  refine (rNew_calls A b c lo hi wb (HR.out.fr F0.out hh (fun _ _ _ x => x)) hl).mono ?_
  rintro e w1 ⟨p, rfl, q1, q2, q3, -⟩
  have Q1 := Lib.hid q1
  have Q2 := Lib.hid q2
  have Q3 := Lib.hid q3
  clear q1 q2 q3 HR
  go_wp2_with (fail)
  refine (HI.out _ _ _ Q2.out).mono ?_
  rintro e w2 ⟨rfl, a2, f2, -⟩
  have HA2 := Lib.hid a2
  have F2 := Lib.hid (Q3.out.upE f2 (fun k hk => by simp only [OneB] at hk; have := Q1.out; omega))
  clear a2 f2 Q2 HI
  go_wp2_with (fail)
  have t3 : GeW wb (w2.alloc (.cells #[.int .i64 v, .slice none 0 0] 28)) wb.heap.size p w2.heap.size v (.slice none 0 0) [] s0 :=
    ⟨HA2.out.fr ((Fr.refl NoB w2).alloc _) (fun _ _ _ x => x) Q1.out, F2.out.alloc _, Nat.le_refl _, Q1.out, HA2.out.lt, heap_alloc_new w2 _, World.ownsRow_nil _ _ _ _⟩
  generalize w2.alloc (.cells #[.int .i64 v, .slice none 0 0] 28) = w3 at t3 ⊢
  generalize w2.heap.size = E at t3 ⊢
  refine (HC.out _ _ _ t3.a).mono ?_
  rintro e w4 ⟨rfl, a4, f4, -⟩
  have T4 := Lib.hid (t3.read a4 f4)
  clear t3 a4 f4 HC HA2 F2 e2 Q1 Q3
  go_wp2
  go_loopw [16] (fun i wr => ∃ (k : Nat) (V : Value), k ≤ n ∧ i = .int .i64 (k : Int) ∧ GeW wb wr wb.heap.size p E v V (rdMems k s1).1 (rdMems k s1).2) (fun i _ => n - (intOf i).toNat)
  case atStart => exact ⟨0, _, Nat.zero_le _, rfl, T4.out⟩
  case round =>
    obtain ⟨k, V, hk, rfl, ht⟩ := hrel
    have TK := Lib.hid ht
    clear ht T4
    by_cases hlt : k < n
    · have hki : (k : Int) < (n : Int) := by omega
      have hll := rdMems_len k s1
      have hstep : rdMems (k + 1) s1 = ((rdMems k s1).1 ++ [(rdMem (rdMems k s1).2).1], (rdMem (rdMems k s1).2).2) := rfl
      generalize (rdMems k s1).1 = l at TK hll hstep
      generalize (rdMems k s1).2 = st at TK hstep
      obtain ⟨x1, t1, g1⟩ : ∃ x t, rCount st 7 = (x, t) := ⟨_, _, rfl⟩
      obtain ⟨x2, t2, g2⟩ : ∃ x t, rCount t1 2 = (x, t) := ⟨_, _, rfl⟩
      obtain ⟨x3, t3, g3⟩ : ∃ x t, rCount t2 1000 = (x, t) := ⟨_, _, rfl⟩
      obtain ⟨x4, t4, g4⟩ : ∃ x t, rCount t3 7 = (x, t) := ⟨_, _, rfl⟩
      have hmem : rdMem st = ((x1, x2, x3, x4), t4) := by simp [rdMem, g1, g2, g3, g4]
      rw [hmem] at hstep
      have r2 := rCount_range t1 2 (by omega)
      rw [g2] at r2
      simp only at r2
      have hx2 : x2 % 256 = x2 := by omega
      have hC1 := fun W (r : Rdr W wb.heap.size p st) => rCount_calls wb.heap.size p st 7 W r
      have hC2 := fun W (r : Rdr W wb.heap.size p t1) => rCount_calls wb.heap.size p t1 2 W r
      have hC3 := fun W (r : Rdr W wb.heap.size p t2) => rCount_calls wb.heap.size p t2 1000 W r
      have hC4 := fun W (r : Rdr W wb.heap.size p t3) => rCount_calls wb.heap.size p t3 7 W r
      rw [g1] at hC1
      rw [g2] at hC2
      rw [g3] at hC3
      rw [g4] at hC4
      have HC1 := Lib.hid hC1
      have HC2 := Lib.hid hC2
      have HC3 := Lib.hid hC3
      have HC4 := Lib.hid hC4
      have HSTEP := Lib.hid hstep
      have HLL := Lib.hid hll
      clear hC1 hC2 hC3 hC4 hstep hmem g1 g2 g3 g4 r2 hll
      go_wp2_with (fail)
      refine (HC1.out _ TK.out.a).mono ?_
      rintro e w5 ⟨rfl, a5, f5, -⟩
      have T5 := Lib.hid (TK.out.read a5 f5)
      have HBV := Lib.hid (fun g (hg : V.ownBlock = some g) => Nat.ne_of_lt (T5.out.own.lt g hg).2)
      have HEK := Lib.hid (Lib.lt_of_heap T5.out.bx)
      clear a5 f5 TK HC1
      go_wp2_with (fail)
      have hmk := heap_alloc_new w5 (.cells #[.int .i64 x1, .int .u8 0, .int .i64 0, .int .i64 0] 173)
      have T5b := Lib.hid (T5.out.keep ((Fr.refl NoB w5).alloc (.cells #[.int .i64 x1, .int .u8 0, .int .i64 0, .int .i64 0] 173)))
      generalize w5.alloc (.cells #[.int .i64 x1, .int .u8 0, .int .i64 0, .int .i64 0] 173) = w5b at hmk T5b ⊢
      generalize w5.heap.size = K at hmk HBV HEK ⊢
      refine (HC2.out _ T5b.out.a).mono ?_
      rintro e w6 ⟨rfl, a6, f6, -⟩
      have T6 := Lib.hid (T5b.out.read a6 f6)
      have hKp : ¬ OneB p K := by have := HEK.out; have := T5b.out.pE; simp only [OneB]; omega
      have hm6 := f6.at_ hmk hKp
      have HM6 := Lib.hid hm6
      have y1 := (cells_of hm6 1).1
      have z1 := (cells_of hm6 1).2
      simp only [List.getElem?_toArray, List.getElem?_cons_zero, List.getElem?_cons_succ] at y1
      clear a6 f6 hmk T5b HC2 hm6
      go_wp2_with (fail)
      have T6b := Lib.hid (T6.out.set K 1 HEK.out HBV.out (.int .u8 x2))
      have hm6b : (w6.setCell ⟨K, 1, none⟩ (.int .u8 x2)).heap[K]? = some (.cells #[.int .i64 x1, .int .u8 x2, .int .i64 0, .int .i64 0] 173 (0, 0)) := by rw [heap_set HM6.out]; rfl
      generalize w6.setCell ⟨K, 1, none⟩ (.int .u8 x2) = w6b at hm6b T6b ⊢
      clear T6 HM6 y1 z1
      refine (HC3.out _ T6b.out.a).mono ?_
      rintro e w7 ⟨rfl, a7, f7, -⟩
      have T7 := Lib.hid (T6b.out.read a7 f7)
      have hm7 := f7.at_ hm6b hKp
      clear a7 f7 T6b hm6b HC3
      go_wp2_with (fail)
      refine (HC4.out _ T7.out.a).mono ?_
      rintro e w8 ⟨rfl, a8, f8, -⟩
      have T8 := Lib.hid (T7.out.read a8 f8)
      have hm8 := f8.at_ hm7 hKp
      clear a8 f8 T7 hm7 HC4
      obtain ⟨AV, cV, hVe, _, _⟩ := own_form4 T8.out.own
      subst hVe
      have y2 := (cells_of hm8 2).1
      have z2 := (cells_of hm8 2).2
      have y3 := (cells_of hm8 3).1
      have z3 := (cells_of hm8 3).2
      have T9 := Lib.hid ((T8.out.set K 2 HEK.out HBV.out (.int .i64 x3)).set K 3 HEK.out HBV.out (.int .i64 x4))
      have hm9 : ((w8.setCell ⟨K, 2, none⟩ (.int .i64 x3)).setCell ⟨K, 3, none⟩ (.int .i64 x4)).heap[K]? = some (.cells #[.int .i64 x1, .int .u8 x2, .int .i64 x3, .int .i64 x4] 173 (0, 0)) := by rw [heap_set (heap_set hm8 _) _]; rfl
      have u0 := (cells_of hm9 0).1
      have u1 := (cells_of hm9 1).1
      have u2 := (cells_of hm9 2).1
      have u3 := (cells_of hm9 3).1
      have uE := (cells_of T9.out.bx 1).1
      simp only [List.getElem?_toArray, List.getElem?_cons_zero, List.getElem?_cons_succ] at y2 y3 u0 u1 u2 u3 uE
      have hsrc : ∀ (t : TypeId) (j : Nat) (u : Value), (mv [(x1, x2, x3, x4)])[j]? = some u → (((w8.setCell ⟨K, 2, none⟩ (.int .i64 x3)).setCell ⟨K, 3, none⟩ (.int .i64 x4)).alloc (.cells #[.int .i64 x1, .int .u8 x2, .int .i64 x3, .int .i64 x4] t)).cell? ((⟨w8.heap.size, 0, none⟩ : Addr).add j) = some u := fun t j u hj => by
        obtain ⟨ad, h1, h2⟩ := src_block ((w8.setCell ⟨K, 2, none⟩ (.int .i64 x3)).setCell ⟨K, 3, none⟩ (.int .i64 x4)) #[.int .i64 x1, .int .u8 x2, .int .i64 x3, .int .i64 x4] t (mv [(x1, x2, x3, x4)]) rfl
        have hsz : ((w8.setCell ⟨K, 2, none⟩ (.int .i64 x3)).setCell ⟨K, 3, none⟩ (.int .i64 x4)).heap.size = w8.heap.size := by simp [World.setCell]
        rw [hsz] at h1
        cases h1
        exact h2 j u hj
      have HSRC := Lib.hid hsrc
      clear hm8 hm9 T8 hsrc
      go_wp2_with (at_builtin; go_loud (refine wpList_append_src _ rfl _ _ 26 rfl (E + 1) 173 i0 (.agg #[.int .i64 0, .int .u8 0, .int .i64 0, .int .i64 0]) 4 32 Tryz.underlying26 hi0 hz0 hz1 hz2 rfl (by decide) (.slice AV l.length cV) l.length (mv l) rfl (T9.out.own.alloc _) _ 1 _ (mv [(x1, x2, x3, x4)]) rfl rfl (fun _ => ⟨_, rfl, HSRC.out _⟩) (mv_one _) (by have := HLL.out; unfold maxLen; omega) (by have := HLL.out; omega) (by have := Lib.lt_of_heap T9.out.bx; simp at this ⊢; omega) ?_))
      intro v' wA hA
      obtain ⟨A2, c2, hv2, _, _⟩ := own_form4 hA.own
      subst hv2
      have T10 := Lib.hid (T9.out.push hA)
      have hold := T9.out.old hA
      have q1 := (cells_of hold 1).1
      have q2 := (cells_of hold 1).2
      simp only [List.getElem?_toArray, List.getElem?_cons_zero, List.getElem?_cons_succ] at q1
      clear hA hold T9 HSRC u0 u1 u2 u3 uE y2 y3 z2 z3
      go_wp2
      go_roundw
      case rel => exact ⟨k + 1, _, by omega, by go_num, by rw [HSTEP.out]; exact T10.out⟩
      case measure => simp [intOf]; omega
    · obtain rfl : k = n := by omega
      have ht := TK.out
      rw [HM.out, HST.out] at ht
      obtain ⟨AV, cV, hVe, hl1, hl2⟩ := own_form4 ht.own
      subst hVe
      have TE := Lib.hid ht
      have hrdm := own_rdm ht.own
      have hml : ms.length = k := by rw [← HM.out, rdMems_len]
      have hwh := rWhole_calls wb.heap.size p fin wr ht.a
      have hcc := check_calls v AV ms cV (E + 1) wr.heap.size wr hrdm (Nat.le_refl _) (by omega)
      have HCC := Lib.hid hcc
      have HRD := Lib.hid hrdm
      have b0 := (cells_of ht.bx 0).1
      have b1 := (cells_of ht.bx 1).1
      simp only [List.getElem?_toArray, List.getElem?_cons_zero, List.getElem?_cons_succ] at b0 b1
      have HwE : Hid (w.heap.size < E) := by
        have h1 := TE.out.lo1
        have h2 := TE.out.lo2
        have h3 := TE.out.pE
        have h4 := Lib.lt_of_heap HRV.out
        show w.heap.size < E
        omega
      clear ht hcc hrdm TK HM HST hlt hk hi0 hz0 hz1 hz2 hml
      cases hW : rWhole fin
      · rw [hW] at hwh
        have HWH := Lib.hid hwh
        have hres := TE.out.fr.at_ HRV.out (fun x => x)
        have HRES := Lib.hid hres
        have r0 := (cells_of hres 0).1
        have r1 := (cells_of hres 1).1
        have z0 := (cells_of hres 0).2
        have z1 := (cells_of hres 1).2
        simp only [List.getElem?_toArray, List.getElem?_cons_zero, List.getElem?_cons_succ] at r0 r1
        have HWF := Lib.hid hW
        clear hwh hres hW HCC
        go_wp2_with (fail)
        refine HWH.out.mono ?_
        rintro e w5 ⟨rfl, rfl⟩
        go_wp2
        refine bodyPost_ret (v := .tuple #[.agg #[.int .i64 0, .slice none 0 0], .int .i64 4]) (results_row_tmp (fn := Tryz.f127) (p := 2) (u := 3) (ty := 28) (by kernel_rfl) _ _ w.heap.size 28 _ _ _ rfl (two_set HRES.out) Tryz.underlying28 rfl (by kernel_rfl)) rfl (.inr ⟨rfl, ?_, fun hx => by have h1 := hx.1; first | cases h1 | (rw [HWF.out] at h1; cases h1)⟩)
        exact ((F0.out.then TE.out.fr).setCell (p := ⟨w.heap.size, 0, none⟩) (fun k => absurd k (by simp)) _).setCell (p := ⟨w.heap.size, 1, none⟩) (fun k => absurd k (by simp)) _
      · rw [hW] at hwh
        have HWH := Lib.hid hwh
        have HWF := Lib.hid hW
        clear hwh hW
        go_wp2_with (fail)
        refine HWH.out.mono ?_
        rintro e w5 ⟨rfl, rfl⟩
        go_wp2_with (fail)
        refine HCC.out.mono ?_
        rintro e w9 ⟨rfl, f9⟩
        have T9 := Lib.hid (TE.out.keep f9)
        have hres := T9.out.fr.at_ HRV.out (fun x => x)
        have HRES := Lib.hid hres
        have c0 := (cells_of T9.out.bx 0).1
        have c1 := (cells_of T9.out.bx 1).1
        have r0 := (cells_of hres 0).1
        have r1 := (cells_of hres 1).1
        have z0 := (cells_of hres 0).2
        have z1 := (cells_of hres 1).2
        simp only [List.getElem?_toArray, List.getElem?_cons_zero, List.getElem?_cons_succ] at c0 c1 r0 r1
        have F9 := Lib.hid f9
        clear f9 hres HCC HWH
        by_cases hck : chk v ms = 0
        · have HCK := Lib.hid hck
          rw [hck]
          clear hck
          go_wp2
          refine bodyPost_ret (v := .tuple #[.agg #[.int .i64 v, .slice AV ms.length cV], .int .i64 0]) (results_row_tmp (fn := Tryz.f127) (p := 2) (u := 3) (ty := 28) (by kernel_rfl) _ _ w.heap.size 28 _ _ _ rfl (two_set HRES.out) Tryz.underlying28 rfl (by kernel_rfl)) rfl (.inl ⟨AV, cV, rfl, hl1, hl2, ?_, ?_, by first | rfl | exact HWF.out, by first | rfl | exact HCK.out⟩)
          · have hf : Fr (OneB w.heap.size) wr ((w9.setCell ⟨w.heap.size, 0, none⟩ (.int .i64 v)).setCell ⟨w.heap.size, 1, none⟩ (.slice AV ms.length cV)) := ((F9.out.no (M := OneB w.heap.size)).setCell (p := ⟨w.heap.size, 0, none⟩) (fun _ => rfl) _).setCell (p := ⟨w.heap.size, 1, none⟩) (fun _ => rfl) _
            exact (HRD.out.fr hf (Nat.le_refl _) (fun k hk _ hx => by simp only [OneB] at hx; have := HwE.out; omega)).wide (by have := HwE.out; omega) hf.size
          · exact (((F0.out.then TE.out.fr).then F9.out).setCell (p := ⟨w.heap.size, 0, none⟩) (fun k => absurd k (by simp)) _).setCell (p := ⟨w.heap.size, 1, none⟩) (fun k => absurd k (by simp)) _
        · have hckb : (chk v ms != 0) = true := by simp [hck]
          have HN := Lib.hid hck
          clear hck
          go_wp2
          refine bodyPost_ret (v := .tuple #[.agg #[.int .i64 0, .slice none 0 0], .int .i64 4]) (results_row_tmp (fn := Tryz.f127) (p := 2) (u := 3) (ty := 28) (by kernel_rfl) _ _ w.heap.size 28 _ _ _ rfl (two_set HRES.out) Tryz.underlying28 rfl (by kernel_rfl)) rfl (.inr ⟨rfl, ?_, fun hx => HN.out hx.2⟩)
          exact (((F0.out.then TE.out.fr).then F9.out).setCell (p := ⟨w.heap.size, 0, none⟩) (fun k => absurd k (by simp)) _).setCell (p := ⟨w.heap.size, 1, none⟩) (fun k => absurd k (by simp)) _

/-- Get of any bytes. -/
theorem get_calls (A : Option Addr) (b : List UInt8) (c lo hi : Nat) (w : World) (h : Rd w lo hi A b) (hh : hi ≤ w.heap.size) (hl : b.length ≤ 140737488355328) :
    Calls Tryz.prog 127 #[.slice A b.length c] w fun e w' => ∃ (v : Int) (A' : Option Addr) (ms : List Mem) (c' : Nat) (z : Int), e = .returned (.tuple #[.agg #[.int .i64 v, .slice A' ms.length c'], .int .i64 z]) ∧ RdM w' w.heap.size w'.heap.size A' ms ∧ Fr NoB w w' ∧ ((getE b = some (v, ms) ∧ z = 0) ∨ (getE b = none ∧ v = 0 ∧ ms = [] ∧ z = 4)) := by
  obtain ⟨v, ms, fin, hg⟩ : ∃ v ms fin, getR b = (v, ms, fin) := ⟨_, _, _, rfl⟩
  refine (get_any A b c lo hi w h hh hl v ms fin hg).mono ?_
  rintro e w' (⟨A', c', rfl, h1, h2, h3, h4, h5⟩ | ⟨rfl, h4, h5⟩)
  · exact ⟨v, A', ms, c', 0, rfl, h3, h4, .inl ⟨by unfold getE; rw [hg]; exact if_pos h5, rfl⟩⟩
  · exact ⟨0, none, [], 0, 4, rfl, RdM.nil _ _ _ _, h4, .inr ⟨by unfold getE; rw [hg]; exact if_neg h5, rfl, rfl, rfl⟩⟩

set_option maxRecDepth 4000 in
set_option maxHeartbeats 3200000 in
theorem put_bad (v : Int) (A : Option Addr) (ms : List Mem) (c lo hi : Nat) (w : World) (h : RdM w lo hi A ms) (hh : hi ≤ w.heap.size) (hl : ms.length ≤ 140737488355328) (hbad : chk v ms ≠ 0) :
    Calls Tryz.prog 109 #[.agg #[.int .i64 v, .slice A ms.length c]] w fun e w' => e = .returned (.tuple #[.slice none 0 0, .int .i64 (chk v ms)]) ∧ Fr NoB w w' := by
  have HC := Lib.hid (fun W (f : Fr NoB w W) => check_calls v A ms c lo hi W (h.fr f hh (fun _ _ _ x => x)) (Nat.le_trans hh f.size) hl)
  have hckb : (chk v ms != 0) = true := by simp [hbad]
  clear h hbad
  go_enter Tryz.func109, Tryz.ntmps109
  go_wp2_with (fail)
  refine (HC.out _ ((Fr.refl NoB w).alloc _)).mono ?_
  rintro e w1 ⟨rfl, f1⟩
  have F1 := Lib.hid (((Fr.refl NoB w).alloc _).then f1)
  clear f1 HC
  go_wp2
  go_ret2
  exact ⟨rfl, F1.out⟩

end Go.Proofs.YtmlmbahimklfiaaGreatDoor

/- Enn -/
namespace Go.Proofs.YtmlmbahimklfiaaGreatDoor
open Go.RowKit

/-- What Put answers: bytes and an error. -/
def putE (v : Int) (ms : List Mem) : List UInt8 × Int := if chk v ms = 0 then (ensB v ms, 0) else ([], chk v ms)
theorem putE_len (v : Int) (ms : List Mem) : (putE v ms).1.length ≤ 400 := by
  unfold putE
  split
  · rename_i h
    have h7 := (chk_len h).1
    have h1 := memsB_len ms
    have h2 := intB_len v
    have h3 := intB_len (ms.length : Int)
    simp only [ensB, List.length_append]
    omega
  · simp
theorem putE_ok {v : Int} {ms : List Mem} (h : (putE v ms).2 = 0) : getE (putE v ms).1 = some (v, ms) := by
  unfold putE at h ⊢
  by_cases hc : chk v ms = 0
  · rw [if_pos hc]; exact get_front hc
  · rw [if_neg hc] at h; exact absurd h hc
theorem put_calls (v : Int) (A : Option Addr) (ms : List Mem) (c lo hi : Nat) (w : World) (h : RdM w lo hi A ms) (hh : hi ≤ w.heap.size) (hl : ms.length ≤ 140737488355328) :
    Calls Tryz.prog 109 #[.agg #[.int .i64 v, .slice A ms.length c]] w fun e w' => ∃ A' c', e = .returned (.tuple #[.slice A' (putE v ms).1.length c', .int .i64 (putE v ms).2]) ∧ Rd w' w.heap.size w'.heap.size A' (putE v ms).1 ∧ Fr NoB w w' := by
  unfold putE
  by_cases hc : chk v ms = 0
  · rw [if_pos hc]
    refine (put_config v A ms c lo hi w h hh hl hc).mono ?_
    rintro e w' ⟨A', c', rfl, -, -, h1, h2⟩
    exact ⟨A', c', rfl, h1, h2⟩
  · rw [if_neg hc]
    refine (put_bad v A ms c lo hi w h hh hl hc).mono ?_
    rintro e w' ⟨rfl, h2⟩
    exact ⟨none, 0, rfl, Rd.nil _ _ _ _, h2⟩
def getV (b : List UInt8) : Int × List Mem × Int := match getE b with
  | some (v, ms) => (v, ms, 0)
  | none => (0, [], 4)
theorem getV_len (b : List UInt8) : (getV b).2.1.length ≤ 7 := by
  unfold getV
  cases hg : getE b with
  | none => simp
  | some x =>
    obtain ⟨v, ms⟩ := x
    exact (chk_len (get_back hg).2).1
theorem getV_of {b : List UInt8} {v : Int} {ms : List Mem} {z : Int} (h : (getE b = some (v, ms) ∧ z = 0) ∨ (getE b = none ∧ v = 0 ∧ ms = [] ∧ z = 4)) : v = (getV b).1 ∧ ms = (getV b).2.1 ∧ z = (getV b).2.2 := by
  unfold getV
  rcases h with ⟨h, rfl⟩ | ⟨h, rfl, rfl, rfl⟩
  · rw [h]; exact ⟨rfl, rfl, rfl⟩
  · rw [h]; exact ⟨rfl, rfl, rfl⟩
theorem getV_some {b : List UInt8} {v : Int} {ms : List Mem} (h : getE b = some (v, ms)) : getV b = (v, ms, 0) := by
  unfold getV
  rw [h]
theorem get_any2 (A : Option Addr) (b : List UInt8) (c lo hi : Nat) (w : World) (h : Rd w lo hi A b) (hh : hi ≤ w.heap.size) (hl : b.length ≤ 140737488355328) :
    Calls Tryz.prog 127 #[.slice A b.length c] w fun e w' => ∃ A' c', e = .returned (.tuple #[.agg #[.int .i64 (getV b).1, .slice A' (getV b).2.1.length c'], .int .i64 (getV b).2.2]) ∧ RdM w' w.heap.size w'.heap.size A' (getV b).2.1 ∧ Fr NoB w w' := by
  refine (get_calls A b c lo hi w h hh hl).mono ?_
  rintro e w' ⟨v, A', ms, c', z, rfl, h1, h2, h3⟩
  obtain ⟨rfl, rfl, rfl⟩ := getV_of h3
  exact ⟨A', c', rfl, h1, h2⟩
theorem Rd.pre {w : World} {lo hi : Nat} {A : Option Addr} {a b : List UInt8} (h : Rd w lo hi A (a ++ b)) : Rd w lo hi A a := by
  have := h.take (n := a.length)
  rwa [List.take_left' rfl] at this

theorem Rd.step {w w' : World} {A : Option Addr} {l : List UInt8} (h : Rd w 0 w.heap.size A l) (f : Fr NoB w w') : Rd w' 0 w'.heap.size A l := (h.fr f (Nat.le_refl _) (fun _ _ _ x => x)).wide (Nat.le_refl _) f.size
theorem RdM.step {w w' : World} {A : Option Addr} {l : List Mem} (h : RdM w 0 w.heap.size A l) (f : Fr NoB w w') : RdM w' 0 w'.heap.size A l := (h.fr f (Nat.le_refl _) (fun _ _ _ x => x)).wide (Nat.le_refl _) f.size

end Go.Proofs.YtmlmbahimklfiaaGreatDoor
