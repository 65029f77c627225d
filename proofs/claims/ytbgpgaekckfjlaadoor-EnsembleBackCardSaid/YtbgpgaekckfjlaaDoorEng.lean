/-
  Eng: the statements' own 'three', 'has' and 'awake'; SameEnsemble.
-/
import Derived.Test.YtbgpgaekckfjlaaDoorEnc
import Derived.Test.YtbgpgaekckfjlaaDoorEnf
namespace Go.Proofs.YtbgpgaekckfjlaaDoor
open Go.RowKit

set_option maxHeartbeats 1600000 in
theorem three_calls (a b c : Int) (w : World) :
    Calls Tryd.prog 36 #[.int .i64 a, .int .i64 b, .int .i64 c] w fun e w' => ∃ A, e = .returned (.agg #[.int .i64 5, .slice A 3 3]) ∧ RdM w' w.heap.size w'.heap.size A [(1, 1, a, 0), (2, 1, b, 0), (3, 1, c, 0)] ∧ Fr NoB w w' := by
  go_enter Tryd.func36, Tryd.ntmps36
  go_wp2
  have hm : ((w.alloc (.cells #[.int .i64 5, .slice (some ⟨w.heap.size + 1, 0, none⟩) 3 3] 25)).alloc (.cells #[.int .i64 1, .int .u8 1, .int .i64 a, .int .i64 0, .int .i64 2, .int .u8 1, .int .i64 b, .int .i64 0, .int .i64 3, .int .u8 1, .int .i64 c, .int .i64 0] 30)).heap[w.heap.size + 1]? = some (.cells #[.int .i64 1, .int .u8 1, .int .i64 a, .int .i64 0, .int .i64 2, .int .u8 1, .int .i64 b, .int .i64 0, .int .i64 3, .int .u8 1, .int .i64 c, .int .i64 0] 30 (0, 0)) := by
    have h := heap_alloc_new (w.alloc (.cells #[.int .i64 5, .slice (some ⟨w.heap.size + 1, 0, none⟩) 3 3] 25)) (.cells #[.int .i64 1, .int .u8 1, .int .i64 a, .int .i64 0, .int .i64 2, .int .u8 1, .int .i64 b, .int .i64 0, .int .i64 3, .int .u8 1, .int .i64 c, .int .i64 0] 30)
    rwa [show (w.alloc (.cells #[.int .i64 5, .slice (some ⟨w.heap.size + 1, 0, none⟩) 3 3] 25)).heap.size = w.heap.size + 1 from by simp] at h
  have hr : ((w.alloc (.cells #[.int .i64 5, .slice (some ⟨w.heap.size + 1, 0, none⟩) 3 3] 25)).alloc (.cells #[.int .i64 1, .int .u8 1, .int .i64 a, .int .i64 0, .int .i64 2, .int .u8 1, .int .i64 b, .int .i64 0, .int .i64 3, .int .u8 1, .int .i64 c, .int .i64 0] 30)).heap[w.heap.size]? = some (.cells #[.int .i64 5, .slice (some ⟨w.heap.size + 1, 0, none⟩) 3 3] 25 (0, 0)) :=
    (Below.heap_alloc _ _ _ (by simp)).trans (heap_alloc_new w _)
  refine bodyPost_ret (v := .agg #[.int .i64 5, .slice (some ⟨w.heap.size + 1, 0, none⟩) 3 3]) (results_cell_row (fn := Tryd.f36) (p := 6) (ty := 25) (by kernel_rfl) _ _ w.heap.size 25 _ _ _ rfl hr Tryd.underlying25 rfl (by kernel_rfl)) rfl ⟨_, rfl, ?_, ((Fr.refl NoB w).alloc _).alloc _⟩
  exact (rdm_block (l := [(1, 1, a, 0), (2, 1, b, 0), (3, 1, c, 0)]) hm rfl).wide (by omega) (Lib.lt_of_heap hm)

set_option maxHeartbeats 1600000 in
theorem sameE_calls (v : Int) (A A' : Option Addr) (l : List Mem) (c c' lo hi lo' hi' : Nat) (w : World) (h : RdM w lo hi A l) (hh : hi ≤ w.heap.size) (h' : RdM w lo' hi' A' l) (hh' : hi' ≤ w.heap.size) (hl : l.length ≤ 140737488355328) :
    Calls Tryd.prog 24 #[.agg #[.int .i64 v, .slice A l.length c], .agg #[.int .i64 v, .slice A' l.length c']] w fun e w' => e = .returned (.bool true) ∧ Fr NoB w w' := by
  have hs := fun W (f : Fr NoB w W) => samem_calls A A' l l c c' lo hi lo' hi' W (h.fr f hh (fun _ _ _ x => x)) (h'.fr f hh' (fun _ _ _ x => x)) hl hl
  rw [show (l == l) = true by simp] at hs
  have HS := Lib.hid hs
  clear hs h h'
  go_enter Tryd.func24, Tryd.ntmps24
  go_wp2_with (go_at_call 57; refine (HS.out _ (((Fr.refl NoB w).alloc _).alloc _)).mono ?_; rintro e w1 ⟨rfl, n, rfl⟩)
  go_ret
  exact ⟨rfl, (((Fr.refl NoB w).alloc _).alloc _).drewN n⟩

set_option maxHeartbeats 1600000 in
theorem has_calls (A : Option Addr) (l : List Int) (c lo hi : Nat) (x : Int) (w : World) (h : RdI w lo hi A l) (hl : l.length ≤ 140737488355328) :
    Calls Tryd.prog 27 #[.slice A l.length c, .int .i64 x] w fun e w' => e = .returned (.bool (l.contains x)) ∧ ∃ n, w' = w.drewN n := by
  have hll : (l.length : Int) ≤ 140737488355328 := by omega
  go_enter Tryd.func27, Tryd.ntmps27
  go_wp2
  go_loopw [5] (fun i wr => ∃ k : Nat, k ≤ l.length ∧ i = .int .i64 (k : Int) ∧ (l.take k).contains x = false ∧ ∃ n, wr = w.drewN n) (fun i _ => l.length - (intOf i).toNat)
  case atStart => exact ⟨0, Nat.zero_le _, rfl, by simp, 0, rfl⟩
  case round =>
    obtain ⟨k, hk, rfl, htk, n, rfl⟩ := hrel
    have HT := Lib.hid htk
    clear htk
    by_cases hlt : k < l.length
    · obtain ⟨b, o, rfl, -, -, h0⟩ := h (by omega)
      have hc := h0 k hlt
      have HG := Lib.hid (show l.getD k 0 = l[k] by simp [List.getD, hlt])
      clear h h0
      generalize l.getD k 0 = y at hc HG
      have hi1 : (k : Int) < (l.length : Int) := by omega
      have HK := Lib.hid hlt
      by_cases hxy : y = x
      · subst hxy
        go_wp2
        go_ret
        have hm : y ∈ l := by rw [HG.out]; exact List.getElem_mem _
        refine ⟨ret_bool (by simp [hm]), n, rfl⟩
      · have hb : (y == x) = false := by simp [hxy]
        have HX := Lib.hid hxy
        clear hxy
        go_wp2
        go_roundw
        case rel =>
          refine ⟨k + 1, by omega, by go_num, ?_, n, rfl⟩
          have h1 := HT.out
          have h2 := HX.out
          rw [List.take_succ_eq_append_getElem HK.out, ← HG.out]
          simp at h1 ⊢
          exact ⟨h1, fun e => h2 e.symm⟩
        case measure => simp [intOf]; omega
    · obtain rfl : k = l.length := by omega
      have h1 := HT.out
      rw [List.take_length] at h1
      have H1 := Lib.hid h1
      clear h hlt hk h1 HT
      go_wp2
      go_ret
      exact ⟨ret_bool H1.out.symm, n, rfl⟩

end Go.Proofs.YtbgpgaekckfjlaaDoor
