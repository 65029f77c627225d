/-
  Numbers: WireNumbers's walk.
-/
import Derived.Test.YtmklmjggichfhaaDoorWrites
import Derived.Test.YtmklmjggichfhaaDoorReads
import Derived.Test.YtmklmjggichfhaaDoorTurp
import Derived.Test.YtmklmjggichfhaaDoorFrames
import Derived.Test.YtmklmjggichfhaaDoorBackp
import Derived.Deep.RegionHeld3
import Derived.Laws.OwnMore
namespace Go.Proofs.YtmklmjggichfhaaDoor
open Go.RowKit

def numsL : List Int := [0, -1, 1, 63, 64, -64, -65, 8191, 8192, 2147483647, -2147483648, 4611686018427387903, 4611686018427387904, 9223372036854775807, -9223372036854775808]
theorem numsL_range : ∀ k : Fin 15, -9223372036854775808 ≤ numsL.getD k.val 0 ∧ numsL.getD k.val 0 ≤ 9223372036854775807 := by decide
/-- Block N holds the numbers. -/
def NumsAt (N : Nat) (w : World) : Prop := N < w.heap.size ∧ ∀ k, k < 15 → w.cell? ⟨N, k, none⟩ = some (.int .i64 (numsL.getD k 0))
theorem NumsAt.fr {N : Nat} {w w' : World} (h : NumsAt N w) (f : Fr NoB w w') : NumsAt N w' :=
  ⟨Nat.lt_of_lt_of_le h.1 f.size, fun k hk => (f.cell (p := ⟨N, k, none⟩) h.1 (fun x => x)).trans (h.2 k hk)⟩
theorem nums_start (w : World) (t : TypeId) (fr : Nat × Nat) : NumsAt w.heap.size (w.alloc (.cells #[.int .i64 0, .int .i64 (-1), .int .i64 1, .int .i64 63, .int .i64 64, .int .i64 (-64), .int .i64 (-65), .int .i64 8191, .int .i64 8192, .int .i64 2147483647, .int .i64 (-2147483648), .int .i64 4611686018427387903, .int .i64 4611686018427387904, .int .i64 9223372036854775807, .int .i64 (-9223372036854775808)] t fr)) := by
  refine ⟨by simp, fun k hk => (Lib.cell_of_heap (heap_alloc_new w _) k).trans ?_⟩
  match k, hk with
  | 0, _ => rfl
  | 1, _ => rfl
  | 2, _ => rfl
  | 3, _ => rfl
  | 4, _ => rfl
  | 5, _ => rfl
  | 6, _ => rfl
  | 7, _ => rfl
  | 8, _ => rfl
  | 9, _ => rfl
  | 10, _ => rfl
  | 11, _ => rfl
  | 12, _ => rfl
  | 13, _ => rfl
  | 14, _ => rfl
  | k + 15, h => omega
/-- One thing in a new block. -/
theorem dfs_one (w : World) (s m : Int) (t : TypeId) (fr : Nat × Nat) (h : -9223372036854775808 ≤ m ∧ m ≤ 9223372036854775807) : Dfs (w.alloc (.cells #[.int .i64 s, .int .i64 m, .slice none 0 0] t fr)) (some ⟨w.heap.size, 0, none⟩) 1 1048576 := fun _ => by
  refine ⟨w.heap.size, 0, rfl, by simp, fun i hi => ?_⟩
  obtain rfl : i = 0 := by omega
  refine ⟨s, m, none, [], 0, h, by simp, Nat.le_refl _, by unfold maxLen; omega, Rd.nil _ _ _ _, ?_, ?_, ?_⟩
  · exact (Lib.cell_of_heap (heap_alloc_new w _) 0)
  · exact (Lib.cell_of_heap (heap_alloc_new w _) 1)
  · exact (Lib.cell_of_heap (heap_alloc_new w _) 2)

theorem dds_three (w : World) (s m : Int) (t : TypeId) (fr : Nat × Nat) : Dds (w.alloc (.cells #[.int .i64 s, .int .i64 m, .slice none 0 0, .int .i64 0, .int .i64 0, .slice none 0 0, .int .i64 1, .int .i64 0, .slice none 0 0] t fr)) (some ⟨w.heap.size, 0, none⟩) 3 := fun _ => by
  refine ⟨w.heap.size, 0, rfl, by simp, fun i hi => ?_⟩
  have hcell := fun k => Lib.cell_of_heap (heap_alloc_new w (.cells #[.int .i64 s, .int .i64 m, .slice none 0 0, .int .i64 0, .int .i64 0, .slice none 0 0, .int .i64 1, .int .i64 0, .slice none 0 0] t fr)) k
  match i, hi with
  | 0, _ => exact ⟨s, m, hcell 0, hcell 1⟩
  | 1, _ => exact ⟨0, 0, hcell 3, hcell 4⟩
  | 2, _ => exact ⟨1, 0, hcell 6, hcell 7⟩
  | i + 3, h => omega
theorem rd_made (w : World) (n k : Nat) (hk : k ≤ n) (t : TypeId) (fr : Nat × Nat) : Rd (w.alloc (.cells (madeCells #[.int .u8 0] n) t fr)) w.heap.size (w.heap.size + 1) (some ⟨w.heap.size, 0, none⟩) (List.replicate k 0) := by
  refine rd_block (heap_alloc_new w _) ?_
  rw [toList_madeCells_one, List.length_replicate, List.take_replicate, Nat.min_eq_left hk]
  simp [bv]

def oddL : List (List UInt8) := [[128, 0], [128], [129, 128, 0], [255, 255, 255, 255, 255, 255, 255, 255, 255, 2], [255, 255, 255, 255, 255, 255, 255, 255, 255, 129, 0], [], [4, 97], [1], [8, 97, 98, 99]]
theorem oddL_len : ∀ j : Fin 9, (oddL.getD j.val []).length ≤ 11 := by decide
/-- Block N holds the odd rows. -/
def OddAt (N : Nat) (w : World) : Prop := N < w.heap.size ∧ ∀ j, j < 9 → ∃ A c, w.cell? ⟨N, j, none⟩ = some (.slice A (oddL.getD j []).length c) ∧ Rd w 0 w.heap.size A (oddL.getD j [])
theorem OddAt.fr {N : Nat} {w w' : World} (h : OddAt N w) (f : Fr NoB w w') : OddAt N w' :=
  ⟨Nat.lt_of_lt_of_le h.1 f.size, fun k hk => by
    obtain ⟨A, c, h1, h2⟩ := h.2 k hk
    exact ⟨A, c, (f.cell (p := ⟨N, k, none⟩) h.1 (fun x => x)).trans h1, (h2.fr f (Nat.le_refl _) (fun _ _ _ x => x)).wide (Nat.le_refl _) f.size⟩⟩
theorem alloc_step (w : World) (o : Obj) (n : Nat) (hn : w.heap.size = n) : (w.alloc o).heap.size = n + 1 ∧ (w.alloc o).heap[n]? = some o ∧ ∀ (k : Nat) (v : Obj), w.heap[k]? = some v → (w.alloc o).heap[k]? = some v := by
  subst hn
  exact ⟨by simp, heap_alloc_new w o, fun k v h => (Below.heap_alloc w o k (Lib.lt_of_heap h)).trans h⟩
theorem odd_start (w : World) (t t2 : TypeId) : OddAt (w.heap.size + 1 + 1 + 1 + 1 + 1 + 1 + 1 + 1 + 1) ((((((((((w.alloc (.cells #[.int .u8 128, .int .u8 0] t)).alloc (.cells #[.int .u8 128] t)).alloc (.cells #[.int .u8 129, .int .u8 128, .int .u8 0] t)).alloc (.cells #[.int .u8 255, .int .u8 255, .int .u8 255, .int .u8 255, .int .u8 255, .int .u8 255, .int .u8 255, .int .u8 255, .int .u8 255, .int .u8 2] t)).alloc (.cells #[.int .u8 255, .int .u8 255, .int .u8 255, .int .u8 255, .int .u8 255, .int .u8 255, .int .u8 255, .int .u8 255, .int .u8 255, .int .u8 129, .int .u8 0] t)).alloc (.cells #[] t)).alloc (.cells #[.int .u8 4, .int .u8 97] t)).alloc (.cells #[.int .u8 1] t)).alloc (.cells #[.int .u8 8, .int .u8 97, .int .u8 98, .int .u8 99] t)).alloc (.cells #[.slice (some ⟨w.heap.size, 0, none⟩) 2 2, .slice (some ⟨w.heap.size + 1, 0, none⟩) 1 1, .slice (some ⟨w.heap.size + 1 + 1, 0, none⟩) 3 3, .slice (some ⟨w.heap.size + 1 + 1 + 1, 0, none⟩) 10 10, .slice (some ⟨w.heap.size + 1 + 1 + 1 + 1, 0, none⟩) 11 11, .slice (some ⟨w.heap.size + 1 + 1 + 1 + 1 + 1, 0, none⟩) 0 0, .slice (some ⟨w.heap.size + 1 + 1 + 1 + 1 + 1 + 1, 0, none⟩) 2 2, .slice (some ⟨w.heap.size + 1 + 1 + 1 + 1 + 1 + 1 + 1, 0, none⟩) 1 1, .slice (some ⟨w.heap.size + 1 + 1 + 1 + 1 + 1 + 1 + 1 + 1, 0, none⟩) 4 4] t2)) := by
  obtain ⟨s0, a0, k0⟩ := alloc_step w (.cells #[.int .u8 128, .int .u8 0] t) _ rfl
  generalize w.alloc (.cells #[.int .u8 128, .int .u8 0] t) = w0 at s0 a0 k0 ⊢
  obtain ⟨s1, a1, k1⟩ := alloc_step w0 (.cells #[.int .u8 128] t) _ s0
  generalize w0.alloc (.cells #[.int .u8 128] t) = w1 at s1 a1 k1 ⊢
  obtain ⟨s2, a2, k2⟩ := alloc_step w1 (.cells #[.int .u8 129, .int .u8 128, .int .u8 0] t) _ s1
  generalize w1.alloc (.cells #[.int .u8 129, .int .u8 128, .int .u8 0] t) = w2 at s2 a2 k2 ⊢
  obtain ⟨s3, a3, k3⟩ := alloc_step w2 (.cells #[.int .u8 255, .int .u8 255, .int .u8 255, .int .u8 255, .int .u8 255, .int .u8 255, .int .u8 255, .int .u8 255, .int .u8 255, .int .u8 2] t) _ s2
  generalize w2.alloc (.cells #[.int .u8 255, .int .u8 255, .int .u8 255, .int .u8 255, .int .u8 255, .int .u8 255, .int .u8 255, .int .u8 255, .int .u8 255, .int .u8 2] t) = w3 at s3 a3 k3 ⊢
  obtain ⟨s4, a4, k4⟩ := alloc_step w3 (.cells #[.int .u8 255, .int .u8 255, .int .u8 255, .int .u8 255, .int .u8 255, .int .u8 255, .int .u8 255, .int .u8 255, .int .u8 255, .int .u8 129, .int .u8 0] t) _ s3
  generalize w3.alloc (.cells #[.int .u8 255, .int .u8 255, .int .u8 255, .int .u8 255, .int .u8 255, .int .u8 255, .int .u8 255, .int .u8 255, .int .u8 255, .int .u8 129, .int .u8 0] t) = w4 at s4 a4 k4 ⊢
  obtain ⟨s5, a5, k5⟩ := alloc_step w4 (.cells #[] t) _ s4
  generalize w4.alloc (.cells #[] t) = w5 at s5 a5 k5 ⊢
  obtain ⟨s6, a6, k6⟩ := alloc_step w5 (.cells #[.int .u8 4, .int .u8 97] t) _ s5
  generalize w5.alloc (.cells #[.int .u8 4, .int .u8 97] t) = w6 at s6 a6 k6 ⊢
  obtain ⟨s7, a7, k7⟩ := alloc_step w6 (.cells #[.int .u8 1] t) _ s6
  generalize w6.alloc (.cells #[.int .u8 1] t) = w7 at s7 a7 k7 ⊢
  obtain ⟨s8, a8, k8⟩ := alloc_step w7 (.cells #[.int .u8 8, .int .u8 97, .int .u8 98, .int .u8 99] t) _ s7
  generalize w7.alloc (.cells #[.int .u8 8, .int .u8 97, .int .u8 98, .int .u8 99] t) = w8 at s8 a8 k8 ⊢
  obtain ⟨s9, a9, k9⟩ := alloc_step w8 (.cells #[.slice (some ⟨w.heap.size, 0, none⟩) 2 2, .slice (some ⟨w.heap.size + 1, 0, none⟩) 1 1, .slice (some ⟨w.heap.size + 1 + 1, 0, none⟩) 3 3, .slice (some ⟨w.heap.size + 1 + 1 + 1, 0, none⟩) 10 10, .slice (some ⟨w.heap.size + 1 + 1 + 1 + 1, 0, none⟩) 11 11, .slice (some ⟨w.heap.size + 1 + 1 + 1 + 1 + 1, 0, none⟩) 0 0, .slice (some ⟨w.heap.size + 1 + 1 + 1 + 1 + 1 + 1, 0, none⟩) 2 2, .slice (some ⟨w.heap.size + 1 + 1 + 1 + 1 + 1 + 1 + 1, 0, none⟩) 1 1, .slice (some ⟨w.heap.size + 1 + 1 + 1 + 1 + 1 + 1 + 1 + 1, 0, none⟩) 4 4] t2) _ s8
  generalize w8.alloc (.cells #[.slice (some ⟨w.heap.size, 0, none⟩) 2 2, .slice (some ⟨w.heap.size + 1, 0, none⟩) 1 1, .slice (some ⟨w.heap.size + 1 + 1, 0, none⟩) 3 3, .slice (some ⟨w.heap.size + 1 + 1 + 1, 0, none⟩) 10 10, .slice (some ⟨w.heap.size + 1 + 1 + 1 + 1, 0, none⟩) 11 11, .slice (some ⟨w.heap.size + 1 + 1 + 1 + 1 + 1, 0, none⟩) 0 0, .slice (some ⟨w.heap.size + 1 + 1 + 1 + 1 + 1 + 1, 0, none⟩) 2 2, .slice (some ⟨w.heap.size + 1 + 1 + 1 + 1 + 1 + 1 + 1, 0, none⟩) 1 1, .slice (some ⟨w.heap.size + 1 + 1 + 1 + 1 + 1 + 1 + 1 + 1, 0, none⟩) 4 4] t2) = w9 at s9 a9 k9 ⊢
  have h0 := k9 _ _ (k8 _ _ (k7 _ _ (k6 _ _ (k5 _ _ (k4 _ _ (k3 _ _ (k2 _ _ (k1 _ _ (a0)))))))))
  have h1 := k9 _ _ (k8 _ _ (k7 _ _ (k6 _ _ (k5 _ _ (k4 _ _ (k3 _ _ (k2 _ _ (a1))))))))
  have h2 := k9 _ _ (k8 _ _ (k7 _ _ (k6 _ _ (k5 _ _ (k4 _ _ (k3 _ _ (a2)))))))
  have h3 := k9 _ _ (k8 _ _ (k7 _ _ (k6 _ _ (k5 _ _ (k4 _ _ (a3))))))
  have h4 := k9 _ _ (k8 _ _ (k7 _ _ (k6 _ _ (k5 _ _ (a4)))))
  have h5 := k9 _ _ (k8 _ _ (k7 _ _ (k6 _ _ (a5))))
  have h6 := k9 _ _ (k8 _ _ (k7 _ _ (a6)))
  have h7 := k9 _ _ (k8 _ _ (a7))
  have h8 := k9 _ _ (a8)
  have h9 := a9
  refine ⟨Lib.lt_of_heap h9, fun j hj => ?_⟩
  match j, hj with
  | 0, _ => exact ⟨_, 2, Lib.cell_of_heap h9 0, (rd_block (l := [128, 0]) h0 rfl).wide (Nat.zero_le _) (Lib.lt_of_heap h0)⟩
  | 1, _ => exact ⟨_, 1, Lib.cell_of_heap h9 1, (rd_block (l := [128]) h1 rfl).wide (Nat.zero_le _) (Lib.lt_of_heap h1)⟩
  | 2, _ => exact ⟨_, 3, Lib.cell_of_heap h9 2, (rd_block (l := [129, 128, 0]) h2 rfl).wide (Nat.zero_le _) (Lib.lt_of_heap h2)⟩
  | 3, _ => exact ⟨_, 10, Lib.cell_of_heap h9 3, (rd_block (l := [255, 255, 255, 255, 255, 255, 255, 255, 255, 2]) h3 rfl).wide (Nat.zero_le _) (Lib.lt_of_heap h3)⟩
  | 4, _ => exact ⟨_, 11, Lib.cell_of_heap h9 4, (rd_block (l := [255, 255, 255, 255, 255, 255, 255, 255, 255, 129, 0]) h4 rfl).wide (Nat.zero_le _) (Lib.lt_of_heap h4)⟩
  | 5, _ => exact ⟨_, 0, Lib.cell_of_heap h9 5, (rd_block (l := []) h5 rfl).wide (Nat.zero_le _) (Lib.lt_of_heap h5)⟩
  | 6, _ => exact ⟨_, 2, Lib.cell_of_heap h9 6, (rd_block (l := [4, 97]) h6 rfl).wide (Nat.zero_le _) (Lib.lt_of_heap h6)⟩
  | 7, _ => exact ⟨_, 1, Lib.cell_of_heap h9 7, (rd_block (l := [1]) h7 rfl).wide (Nat.zero_le _) (Lib.lt_of_heap h7)⟩
  | 8, _ => exact ⟨_, 4, Lib.cell_of_heap h9 8, (rd_block (l := [8, 97, 98, 99]) h8 rfl).wide (Nat.zero_le _) (Lib.lt_of_heap h8)⟩
  | j + 9, h => omega

def zer8 : List UInt8 := [0, 0, 0, 0, 0, 0, 0, 0]
def odd9 : List UInt8 := [1, 0, 16, 0, 0, 0, 0, 0, 1]
theorem zer8_frame : frameB [] = zer8 := by decide +kernel
theorem zer8_more : unframe (zer8 ++ [7]) = some [] := by decide +kernel
theorem odd9_none : unframe odd9 = none := by decide +kernel
theorem unframe_gsome {l x : List UInt8} {w w' : World} {e : Ending} (hx : unframe l = some x) (h : Unframed l w e w') : ∃ A c, e = .returned (.tuple #[.slice A x.length c, .int .i64 ((8 + x.length : Nat) : Int), .int .i64 0]) ∧ Rd w' w.heap.size w'.heap.size A x ∧ Fr NoB w w' := by
  have := unframe_gen h
  unfold uX uN uE at this
  rw [hx] at this
  exact this
def RdF (w : World) (e : Ending) (w' : World) (l : List UInt8) (n : Nat) : Prop := ∃ A c, e = .returned (.tuple #[.slice A n c, .int .i64 0]) ∧ n ≤ c ∧ c ≤ maxLen ∧ Rd w' w.heap.size w'.heap.size A l ∧ Fr NoB w w'
theorem num_frame (Z F : List UInt8) (hF : frameB Z = F) (n m : Nat) (hn : Z.length = n) (hm : 8 + n = m) (h : n ≤ 1048576) (W : World) (A : Option Addr) (c lo hi : Nat) (r : Rd W lo hi A Z) (hh : hi ≤ W.heap.size) :
    Calls Tryd.prog 33 #[.slice A n c] W fun e w' => RdF W e w' F m := by
  subst hn; subst hm; subst hF
  refine (frame_calls A Z c lo hi W r hh h).mono ?_
  rintro e w' ⟨v, rfl, o, f⟩
  obtain ⟨A', c', rfl, h1, h2⟩ := own_form o
  rw [frameB_len] at *
  have r := own_rd (l := frameB Z) (by rw [frameB_len]; exact o)
  exact ⟨A', c', rfl, h1, h2, r, f⟩
theorem num_unframe (J Z : List UInt8) (hJ : unframe J = some Z) (n m k : Nat) (hn : J.length = n) (hm : Z.length = m) (hk : 8 + m = k) (hl : n ≤ 140737488355328) (W : World) (A : Option Addr) (c lo hi : Nat) (r : Rd W lo hi A J) (hh : hi ≤ W.heap.size) (hc : n ≤ c) (hcm : c ≤ maxLen) :
    Calls Tryd.prog 35 #[.slice A n c] W fun e w' => ∃ A' c', e = .returned (.tuple #[.slice A' m c', .int .i64 (k : Int), .int .i64 0]) ∧ Fr NoB W w' := by
  subst hn; subst hm; subst hk
  refine (unframe_calls A J c lo hi W r hh hc hcm hl).mono ?_
  intro e w' h
  obtain ⟨A', c', rfl, -, f⟩ := unframe_gsome hJ h
  exact ⟨A', c', rfl, f⟩
theorem num_none (W : World) (A : Option Addr) (c lo hi : Nat) (r : Rd W lo hi A odd9) (hh : hi ≤ W.heap.size) (hc : 9 ≤ c) (hcm : c ≤ maxLen) :
    Calls Tryd.prog 35 #[.slice A 9 c] W fun e w' => e = .returned (.tuple #[.slice none 0 0, .int .i64 0, .int .i64 4]) ∧ Fr NoB W w' := by
  refine (unframe_calls A odd9 c lo hi W r hh hc hcm (by decide)).mono ?_
  rintro e w' ⟨h, f⟩
  rw [odd9_none] at h
  exact ⟨h, f⟩
theorem num_same (W : World) (A A' : Option Addr) (c c' lo hi lo' hi' : Nat) (r : Rd W lo hi A zer8) (r' : Rd W lo' hi' A' zer8) :
    Calls Tryd.prog 18 #[.slice A 8 c, .slice A' 8 c'] W fun e w' => e = .returned (.bool true) ∧ ∃ n, w' = W.drewN n :=
  same_calls A A' zer8 zer8 c c' lo hi lo' hi' W r r' (by decide) (by decide)
theorem num_made (n k : Nat) (hk : k ≤ n) (hn : n ≤ 1048577) : ∃ (M : Array Value) (Z : List UInt8), Z = List.replicate k 0 ∧ (∀ W : World, (Instr.makeSlice 22 (.int .i64 (n : Int)) (.int .i64 (n : Int))).run Tryd.prog W = .ok (.slice (some ⟨W.heap.size, 0, none⟩) n n) (W.alloc (.cells M 5))) ∧ ∀ (W : World) (t : TypeId) (fr : Nat × Nat), Rd (W.alloc (.cells M t fr)) W.heap.size (W.heap.size + 1) (some ⟨W.heap.size, 0, none⟩) Z := by
  obtain ⟨i0, hi, hz0, hz1, hz2⟩ := info_parts info_byte
  refine ⟨madeCells #[.int .u8 0] n, List.replicate k 0, rfl, fun W => ?_, fun W t fr => rd_made W n k hk t fr⟩
  have h := run_make (P := Tryd.prog) W 22 5 i0 (.int .u8 0) Tryd.underlying22 hi hz0 .i64 .i64 (n : Int) (n : Int) (by omega) (by omega) (by rw [hz2]; omega) (by omega)
  rw [hz1] at h
  simpa [Value.cells] using h

set_option maxRecDepth 8000 in
set_option maxHeartbeats 12800000 in
theorem numbers_walk (w : World) : Calls Tryd.prog 10 #[] w fun e w' => e = .returned (.bool true) ∧ Below w.heap.size w w' := by
  have HN := Lib.hid fun t fr => nums_start w t fr
  have HO := Lib.hid odd_start
  obtain ⟨M, Z, hZ, hmk, hmr⟩ := num_made 1048577 1048576 (by omega) (by omega)
  obtain ⟨M8, Z8, hZ8, hmk8, hmr8⟩ := num_made 8 8 (by omega) (by omega)
  rw [show ((1048577 : Nat) : Int) = 1048577 from rfl] at hmk
  rw [show ((8 : Nat) : Int) = 8 from rfl] at hmk8
  have hzl : Z.length = 1048576 := by rw [hZ, List.length_replicate]
  have hz8 : Z8 = zer8 := by rw [hZ8]; rfl
  subst hz8
  clear hZ hZ8
  obtain ⟨F, hF⟩ : ∃ F, frameB Z = F := ⟨_, rfl⟩
  have hu : unframe F = some Z := by have h := unframe_more Z [] (by omega); rwa [List.append_nil, hF] at h
  have hfl : F.length = 1048584 := by rw [← hF, frameB_len, hzl]
  have HFL := Lib.hid (fun W (A : Option Addr) (n c : Nat) (h : 1048576 < n) (hm : n ≤ 140737488355328) => frame_long A n c W h hm)
  have HF1 := Lib.hid (num_frame Z F hF 1048576 1048584 hzl rfl (by omega))
  have HF0 := Lib.hid (num_frame [] zer8 zer8_frame 0 8 rfl rfl (by omega))
  have HU1 := Lib.hid (num_unframe F Z hu 1048584 1048576 1048584 hfl hzl rfl (by omega))
  have HU2 := Lib.hid (num_unframe (zer8 ++ [7]) [] zer8_more 9 0 8 rfl rfl rfl (by omega))
  have HMK := Lib.hid hmk
  have HMR := Lib.hid hmr
  have HMK8 := Lib.hid hmk8
  have HMR8 := Lib.hid hmr8
  clear hmk hmr hmk8 hmr8 hzl hF hu hfl
  go_enter Tryd.func10, Tryd.ntmps10
  go_wp2
  go_loopw [0, 2] (fun r i wr => r = .bool false ∧ ∃ k : Nat, k ≤ 15 ∧ i = .int .i64 (k : Int) ∧ NumsAt w.heap.size wr ∧ Fr NoB w wr) (fun _ i _ => 15 - (intOf i).toNat)
  case atStart => exact ⟨rfl, 0, by omega, rfl, HN.out _ _, (Fr.refl NoB w).alloc _⟩
  case round =>
    obtain ⟨rfl, k, hk, rfl, hn, hf⟩ := hrel
    have NN := Lib.hid hn
    have FF := Lib.hid hf
    clear hn hf
    by_cases hlt : k < 15
    · have hc := NN.out.2 k hlt
      have hran := numsL_range ⟨k, hlt⟩
      simp only at hran
      generalize numsL.getD k 0 = n at hc hran
      have HRAN := Lib.hid hran
      have HCC : Hid (∀ W, Fr NoB wr W → W.cell? ⟨w.heap.size, k, none⟩ = some (.int .i64 n)) := fun W f => (f.cell (p := ⟨w.heap.size, k, none⟩) NN.out.1 (fun x => x)).trans hc
      have hi1 : (k : Int) < 15 := by omega
      have HF1 := Lib.hid (rInt_front hran.1 hran.2 [])
      have HF2 := Lib.hid (rInt_cut n)
      have HBL := Lib.hid (intB_len n)
      obtain ⟨Z, hZ⟩ : ∃ Z, intB n = Z := ⟨_, rfl⟩
      have HZ := Lib.hid hZ
      rw [hZ, List.append_nil] at HF1
      rw [hZ] at HF2 HBL
      clear hran hZ
      go_wp2_with (first
        | (go_at_call 15; refine (wNew _).mono ?_; rintro e w1 ⟨rfl, a1, f1, s1⟩; have hc1 := HCC.out w1 f1)
        | (go_at_call 16; refine (wInt _ none [] n _ HRAN.out.1 HRAN.out.2 a1 (by simp)).mono ?_; rintro e w2 ⟨rfl, G2, a2, f2, g2⟩; have F2 := Lib.hid (f1.up f2 (none_up _)); rw [List.nil_append, HZ.out] at a2)
        | (go_at_call 17; refine (wDone _ _ _ _ a2 (by have := HBL.out; omega)).mono ?_; rintro e w3 ⟨v3, rfl, o3, b3⟩; obtain ⟨A3, c3, rfl, m1, m2⟩ := own_form o3; have R3 := Lib.hid (own_rd o3); have F3 := Lib.hid (F2.out.then (Fr.ofBelow b3)); have M1 := Lib.hid m1; clear o3 b3 m1 m2 s1)
        | (go_at_call 12; refine (rNew_calls A3 Z c3 _ _ _ R3.out (by have := HBL.out; omega)).mono ?_; rintro e w4 ⟨p4, rfl, q1, q2, q3, -⟩; have F4 := Lib.hid (F3.out.then q3); have hc4 := HCC.out w4 F4.out; have hI := fun W h => rInt_calls w3.heap.size p4 (some Z) W h; rw [HF1.out] at hI; have HI := Lib.hid hI; clear hI; have Q2 := Lib.hid (q2.fr ((Fr.refl NoB w4).drew) (fun _ _ _ x => x) q1); have G4 := Lib.hid q3; clear q2 q3))
      go_region_held3 (fun W => W.cell? ⟨w.heap.size, k, none⟩ = some (.int .i64 n)) (first | exact hc4 | exact hc5 | exact HCC.out _ ((F3.out.then G5.out).alloc _) | exact hc7) (first
        | (go_at_call 13; refine (HI.out _ Q2.out).mono ?_; rintro e w5 ⟨rfl, r5, f5, -⟩; have G5 := Lib.hid ((G4.out.drew).up f5 (fun k hk => by simp only [OneB] at hk; omega)); have hc5 := HCC.out w5 (F3.out.then G5.out); have hwh := rWhole_calls _ p4 _ w5 r5; rw [show rWhole (some []) = true from rfl] at hwh; have HWH := Lib.hid hwh; clear hwh f5 r5)
        | (go_at_call 31; refine HWH.out.mono ?_; rintro e w6 ⟨rfl, rfl⟩)
        | (go_at_call 7; refine (writes_walk _ 1 1 _ (dfs_one _ 1 n _ _ HRAN.out) (Nat.le_refl _) (by unfold maxLen; omega)).mono ?_; rintro e w7 ⟨rfl, b7⟩; have G7 := Lib.hid ((G5.out.alloc _).then (Fr.ofBelow b7)); have hc7 := HCC.out w7 (F3.out.then G7.out); clear b7))
      have HM : Hid (∀ W, Fr NoB w3 W → ∀ q, q < Z.length → Calls Tryd.prog 12 #[.slice A3 q c3] W fun e w' => ∃ p, e = .returned (.pointer (some ⟨p, 0, none⟩)) ∧ W.heap.size ≤ p ∧ Rdr w' W.heap.size p (some (Z.take q)) ∧ Fr NoB W w' ∧ w'.heap.size = p + 1) := fun W f q hq => by
        have h := rNew_calls A3 (Z.take q) c3 _ _ W ((R3.out.fr f (Nat.le_refl _) (fun _ _ _ x => x)).take) (by rw [List.length_take]; have := HBL.out; omega)
        rw [show (Z.take q).length = q by rw [List.length_take]; omega] at h
        exact h
      have hz10 : (Z.length : Int) ≤ 10 := by have := HBL.out; omega
      clear a1 f1 hc1 a2 f2 g2 hc4 hc5 hc7 hc Q2 HI HWH q1
      go_wp2
      go_loopw [0, 6] (fun r i wr2 => r = .bool false ∧ ∃ q : Nat, q ≤ Z.length ∧ i = .int .i64 (q : Int) ∧ Fr NoB w3 wr2) (fun _ i _ => Z.length - (intOf i).toNat)
      case atStart => exact ⟨rfl, 0, by omega, rfl, G7.out⟩
      case round =>
        obtain ⟨rfl, q, hq, rfl, g8⟩ := hrel
        have G8 := Lib.hid g8
        clear g8
        by_cases hqz : q < Z.length
        · have hqi : (q : Int) < (Z.length : Int) := by omega
          have hqc : (q : Int) ≤ (c3 : Int) := by have := M1.out; omega
          have HNR := Lib.hid (HM.out _ G8.out q hqz)
          have hcut := HF2.out q hqz
          have HCUT := Lib.hid hcut
          clear hcut
          go_wp2_with (go_at_call 12; refine HNR.out.mono ?_; rintro e w9 ⟨p9, rfl, q1, q2, q3, -⟩; have hI := rInt_calls _ p9 _ w9 q2; rw [HCUT.out] at hI; have HI := Lib.hid hI; have G9 := Lib.hid (G8.out.then q3); have HS9 := Lib.hid (Nat.le_trans G8.out.size q1); clear hI q1 q2 q3)
          refine HI.out.mono ?_
          rintro e w10 ⟨rfl, r10, f10, -⟩
          have hg := rGood_calls _ p9 _ w10 r10
          rw [show rGood none = false from rfl] at hg
          have HG := Lib.hid hg
          have G10 := Lib.hid (G9.out.up f10 (fun k hk => by simp only [OneB] at hk; have := HS9.out; omega))
          clear hg r10 f10
          go_wp2_with (go_at_call 14; refine HG.out.mono ?_; rintro e w11 ⟨rfl, rfl⟩)
          go_roundw
          case rel => exact ⟨rfl, q + 1, by omega, by go_num, G10.out⟩
          case measure => simp [intOf]; omega
        · go_wp2
          go_roundw
          case rel => exact ⟨rfl, k + 1, by omega, by go_num, NN.out.fr (F3.out.then G8.out), (FF.out.then F3.out).then G8.out⟩
          case measure => simp [intOf]; omega
    · have F1 := Lib.hid FF.out
      clear FF NN HN
      go_wp2
      obtain ⟨N, hN⟩ : ∃ N, wr.heap.size + 1 + 1 + 1 + 1 + 1 + 1 + 1 + 1 + 1 = N := ⟨_, rfl⟩
      have ho := HO.out wr
      rw [hN] at ho ⊢
      have HO2 := Lib.hid ho
      clear ho hN HO
      go_loopw [0, 9] (fun r i wx => r = .bool false ∧ ∃ k : Nat, k ≤ 9 ∧ i = .int .i64 (k : Int) ∧ OddAt N wx ∧ Fr NoB w wx) (fun _ i _ => 9 - (intOf i).toNat)
      case atStart => exact ⟨rfl, 0, by omega, rfl, HO2.out _ _, (((((((((((F1.out).alloc _).alloc _).alloc _).alloc _).alloc _).alloc _).alloc _).alloc _).alloc _).alloc _)⟩
      case round =>
        obtain ⟨rfl, k, hk, rfl, ho, hf⟩ := hrel
        have OO := Lib.hid ho
        have FF := Lib.hid hf
        clear ho hf F1 HO2
        by_cases hlt : k < 9
        · have hi1 : (k : Int) < 9 := by omega
          go_wp2
          go_loopw [0, 10] (fun r i wx => r = .bool false ∧ ∃ s : Nat, s ≤ 5 ∧ i = .int .i64 (s : Int) ∧ OddAt N wx ∧ Fr NoB w wx) (fun _ i _ => 5 - (intOf i).toNat)
          case atStart => exact ⟨rfl, 0, by omega, rfl, OO.out, FF.out⟩
          case round =>
            obtain ⟨rfl, s, hs, rfl, ho, hf⟩ := hrel
            have OO := Lib.hid ho
            have FF := Lib.hid hf
            clear ho hf
            by_cases hs5 : s < 5
            · have hi2 : (s : Int) < 5 := by omega
              go_wp2
              go_loopw [0, 11] (fun r i wx => r = .bool false ∧ ∃ z : Int, -1 ≤ z ∧ z ≤ 5 ∧ i = .int .i64 z ∧ OddAt N wx ∧ Fr NoB w wx) (fun _ i _ => (5 - intOf i).toNat)
              case atStart => exact ⟨rfl, -1, by omega, by omega, rfl, OO.out, FF.out⟩
              case round =>
                obtain ⟨rfl, z, hz1, hz2, rfl, ho, hf⟩ := hrel
                obtain ⟨A, c, hcell, hr⟩ := ho.2 k hlt
                have hl := oddL_len ⟨k, hlt⟩
                simp only at hl
                generalize oddL.getD k [] = l at hcell hr hl
                have OO := Lib.hid ho
                have FF := Lib.hid hf
                have HR := Lib.hid hr
                have HL := Lib.hid hl
                clear ho hf hr hl
                by_cases hz5 : z < 5
                · go_wp2_with (go_at_call 4; refine (reads_walk A l c _ 3 3 _ ((HR.out.fr ((Fr.refl NoB _).alloc _) (Nat.le_refl _) (fun _ _ _ x => x)).wide (Nat.le_refl _) (by simp)) (by have := HL.out; omega) (dds_three _ _ _ _ _) (Nat.le_refl _) (by unfold maxLen; omega)).mono ?_; rintro e w9 ⟨rfl, b9⟩; have G9 := Lib.hid (((Fr.refl NoB _).alloc _).then (Fr.ofBelow (M := NoB) b9)))
                  go_roundw
                  case rel => exact ⟨rfl, z + 1, by omega, by omega, by go_num, OO.out.fr G9.out, FF.out.then G9.out⟩
                  case measure => simp [intOf]; omega
                · go_wp2
                  go_roundw
                  case rel => exact ⟨rfl, s + 1, by omega, by go_num, OO.out, FF.out⟩
                  case measure => simp [intOf]; omega
            · go_wp2
              go_roundw
              case rel => exact ⟨rfl, k + 1, by omega, by go_num, OO.out, FF.out⟩
              case measure => simp [intOf]; omega
        · have F2 := Lib.hid FF.out
          clear FF OO
          have hmk := HMK.out
          have hmk8 := HMK8.out
          go_wp2_with (fail)
          refine (HFL.out _ _ 1048577 1048577 (by omega) (by omega)).mono ?_
          rintro e w1 ⟨rfl, rfl⟩
          have RZ := Lib.hid (HMR.out wr 5 (0, 0))
          have G1 := Lib.hid (F2.out.alloc (.cells M 5))
          have hs1 : (wr.alloc (.cells M 5)).heap.size = wr.heap.size + 1 := by simp
          generalize wr.alloc (.cells M 5) = w1 at RZ G1 hs1 ⊢
          have HS1 := Lib.hid hs1
          clear hs1 F2 hmk
          go_wp2_with (fail)
          refine (HF1.out _ _ _ _ _ RZ.out (Nat.le_of_eq HS1.out.symm)).mono ?_
          rintro e w2 ⟨A2, c2, rfl, m1, m2, r2, f2⟩
          have R2 := Lib.hid r2
          have G2 := Lib.hid (G1.out.then f2)
          have M1 := Lib.hid m1
          have M2 := Lib.hid m2
          clear r2 f2 m1 m2 RZ HS1
          go_wp2_with (fail)
          refine (HU1.out _ _ _ _ _ R2.out (Nat.le_refl _) M1.out M2.out).mono ?_
          rintro e w3 ⟨A3, c3, rfl, f3⟩
          have G3 := Lib.hid (G2.out.then f3)
          clear f3 R2 M1 M2
          go_wp2_with (fail)
          refine (HF0.out _ none 0 0 0 (Rd.nil _ _ _ _) (Nat.zero_le _)).mono ?_
          rintro e w4 ⟨A4, c4, rfl, -, -, r4, f4⟩
          have R4 := Lib.hid r4
          have G4 := Lib.hid (G3.out.then f4)
          clear r4 f4
          go_wp2_with (fail)
          refine (copy_calls A4 zer8 c4 _ _ _ R4.out (by decide)).mono ?_
          rintro e w5 ⟨v5, rfl, o5, b5⟩
          have HO5 := Lib.hid o5
          have HB5 := Lib.hid b5
          clear o5 b5
          obtain ⟨i0, hi0, hz0, hz1, hz2⟩ := info_parts info_byte
          go_wp2_with (at_builtin; refine wpList_append_src _ rfl _ _ 22 rfl w4.heap.size 5 i0 (.int .u8 0) 1 1 Tryd.underlying22 hi0 hz0 hz1 hz2 rfl (by decide) v5 8 (bv zer8) rfl (HO5.out.alloc _) _ 1 _ (bv [7]) rfl rfl (rd_block (l := [7]) (heap_alloc_new w5 _) rfl).srcs (bv_one _) (by decide) (by decide) (Nat.le_trans HB5.out.size (by simp)) ?_)
          intro v6 w6 hA
          have K6 := Lib.hid (((Fr.ofBelow (M := NoB) HB5.out).alloc (.cells #[.int .u8 7] 5)).up hA.fr (fun k hk => (HO5.out.lt k hk).1))
          rw [← bv_append] at hA
          obtain ⟨A6, c6, hv6, k1, k2, r6⟩ := hA.rd
          have hv6b : v6 = .slice A6 9 c6 := hv6
          clear hv6 hA hz0 hz1 hz2 hi0 HO5 HB5
          subst hv6b
          have HK1 := Lib.hid k1
          have HK2 := Lib.hid k2
          have R6 := Lib.hid r6
          clear k1 k2 r6
          go_wp2_with (fail)
          refine (HU2.out _ _ _ _ _ R6.out (Nat.le_refl _) HK1.out HK2.out).mono ?_
          rintro e w7 ⟨A7, c7, rfl, f7⟩
          have K7 := Lib.hid (K6.out.then f7)
          clear f7 K6 HK1 HK2 R6
          go_wp2_with (fail)
          refine (num_none _ _ 9 _ _ (rd_block (l := odd9) (heap_alloc_new w7 _) rfl) (by simp) (Nat.le_refl _) (by decide)).mono ?_
          rintro e w8 ⟨rfl, f8⟩
          have K8 := Lib.hid ((K7.out.alloc _).then f8)
          clear f8 K7
          go_wp2_with (first
            | (go_at_call 18; refine (num_same _ A4 _ c4 8 _ _ _ _ (R4.out.fr (K8.out.alloc _) (Nat.le_refl _) (fun _ _ _ x => x)) (HMR8.out w8 _ _)).mono ?_; rintro e w9 ⟨rfl, n9, rfl⟩)
            | (go_at_call 11; refine (awake_calls _).mono ?_; rintro e w10 ⟨rfl, f10⟩))
          go_ret
          exact ⟨rfl, ((G4.out.then ((K8.out.alloc _).drewN n9)).then f10).toBelow'⟩

end Go.Proofs.YtmklmjggichfhaaDoor
