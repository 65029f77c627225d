/-
  Buf: bytes.Buffer inside a wire.Writer: what is put stands behind what was put; which blocks are touched.
-/
import Derived.Test.YtljioepkbbbibaaDoorBase
import Derived.Test.YtljioepkbbbibaaDoorShelf
import Derived.Test.YtljioepkbbbibaaDoorRows
namespace Go.Proofs.YtljioepkbbbibaaDoor
open Go.RowKit

/-- Block p is a wire.Writer that has only been written and holds the cells vs; its row is block G. -/
def WtrV (w : World) (p : Nat) (G : Option Nat) (vs : List Value) : Prop :=
  ∃ lr : Int, (G = none ∧ vs = [] ∧ w.heap[p]? = some (.cells #[.slice none 0 0, .int .i64 0, .int .i8 lr] 81 (0, 0))) ∨
    (∃ g cap cur, G = some g ∧ g ≠ p ∧ 0 < vs.length ∧ w.heap[p]? = some (.cells #[.slice (some ⟨g, 0, none⟩) vs.length cap, .int .i64 0, .int .i8 lr] 81 (0, 0)) ∧
      w.heap[g]? = some (.cells cur 5 (0, 0)) ∧ vs.length ≤ cap ∧ cap ≤ maxLen ∧ cur.size = cap ∧ cur.toList.take vs.length = vs)

/-- The blocks that a writer may touch. -/
def WF (p : Nat) (G : Option Nat) : Nat → Prop := fun k => k = p ∨ G = some k

theorem WtrV.keep {w w' : World} {p : Nat} {G : Option Nat} {vs : List Value} (h : WtrV w p G vs) (hs : ∀ k, WF p G k → w'.heap[k]? = w.heap[k]?) : WtrV w' p G vs := by
  obtain ⟨lr, h | ⟨g, cap, cur, rfl, h1, h2, h3, h4, h5⟩⟩ := h
  · exact ⟨lr, .inl ⟨h.1, h.2.1, (hs p (.inl rfl)).trans h.2.2⟩⟩
  · exact ⟨lr, .inr ⟨g, cap, cur, rfl, h1, h2, (hs p (.inl rfl)).trans h3, (hs g (.inr rfl)).trans h4, h5⟩⟩
theorem WtrV.fr {M : Nat → Prop} {w w' : World} {p : Nat} {G : Option Nat} {vs : List Value} (h : WtrV w p G vs) (hf : Fr M w w') (hm : ∀ k, WF p G k → ¬ M k) : WtrV w' p G vs := by
  refine h.keep fun k hk => hf.block k ?_ (hm k hk)
  obtain ⟨lr, h | ⟨g, cap, cur, rfl, h1, h2, h3, h4, h5⟩⟩ := h
  · obtain ⟨rfl, _, h⟩ := h
    rcases hk with rfl | hk
    · exact Lib.lt_of_heap h
    · cases hk
  · rcases hk with rfl | hk
    · exact Lib.lt_of_heap h3
    · cases hk; exact Lib.lt_of_heap h4
theorem WtrV.lt {w : World} {p : Nat} {G : Option Nat} {vs : List Value} (h : WtrV w p G vs) {k : Nat} (hk : WF p G k) : k < w.heap.size := by
  obtain ⟨lr, h | ⟨g, cap, cur, rfl, h1, h2, h3, h4, h5⟩⟩ := h
  · obtain ⟨rfl, _, h⟩ := h
    rcases hk with rfl | hk
    · exact Lib.lt_of_heap h
    · cases hk
  · rcases hk with rfl | hk
    · exact Lib.lt_of_heap h3
    · cases hk; exact Lib.lt_of_heap h4
theorem WtrV.drewN {w : World} {p : Nat} {G : Option Nat} {vs : List Value} (h : WtrV w p G vs) (n : Nat) : WtrV (w.drewN n) p G vs := h
theorem WtrV.new (w : World) : WtrV (w.alloc (.cells #[.slice none 0 0, .int .i64 0, .int .i8 0] 81)) w.heap.size none [] :=
  ⟨0, .inl ⟨rfl, rfl, heap_alloc_new w _⟩⟩

set_option maxHeartbeats 400000 in
theorem buf_len (p : Nat) (A : Option Addr) (n c : Nat) (lr : Int) (w : World) (hn : n ≤ maxLen) (h : w.heap[p]? = some (.cells #[.slice A n c, .int .i64 0, .int .i8 lr] 81 (0, 0))) :
    Calls Tryd.prog 96 #[.pointer (some ⟨p, 0, none⟩)] w fun e w' => e = .returned (.int .i64 n) ∧ ∃ k, w' = w.drewN k := by
  have c0 : w.cell? ⟨p, 0, none⟩ = some (.slice A n c) := by rw [Lib.cell_of_heap h]; rfl
  have c1 : w.cell? ⟨p, 1, none⟩ = some (.int .i64 0) := by rw [Lib.cell_of_heap h]; rfl
  clear h
  unfold maxLen at hn
  go_enter Tryd.func96, Tryd.ntmps96
  go_wp2
  go_quiet (fail)
  go_wp2
  go_ret
  exact ⟨rfl, _, rfl⟩

theorem cells_of {w : World} {p : Nat} {cs : Array Value} {t : TypeId} (h : w.heap[p]? = some (.cells cs t (0, 0))) (i : Nat) : w.cell? ⟨p, i, none⟩ = cs[i]? ∧ w.frozen? ⟨p, i, none⟩ = false :=
  ⟨Lib.cell_of_heap h i, Lib.frozen_of_heap h i⟩
theorem heap_set {w : World} {p i : Nat} {cs : Array Value} {t : TypeId} {fr : Nat × Nat} (h : w.heap[p]? = some (.cells cs t fr)) (u : Value) : (w.setCell ⟨p, i, none⟩ u).heap[p]? = some (.cells (cs.setIfInBounds i u) t fr) := by
  simp [World.setCell, Array.getElem?_modify, h]
theorem heap_far {w : World} {p k : Nat} (h : k ≠ p) (i : Nat) (u : Value) : (w.setCell ⟨p, i, none⟩ u).heap[k]? = w.heap[k]? := Below.heap_setCell w ⟨p, i, none⟩ u k h

/-- What the buffer is behind grow: the old cells, and n more of whatever. -/
def Grown1 (p n : Nat) (vs : List Value) (w w' : World) : Prop :=
  ∃ xs g, xs.length = n ∧ w.heap.size ≤ g ∧ WtrV w' p (some g) (vs ++ xs) ∧ Fr (OneB p) w w'

theorem grown1_end {p n l N cap2 : Nat} {vs : List Value} {w w2 : World} {lr : Int} {A : Value} {cells : Array Value} (hl : vs.length = l) (hn : 0 < n)
    (hp : w2.heap[p]? = some (.cells #[A, .int .i64 0, .int .i8 lr] 81 (0, 0))) (hN : w2.heap[N]? = some (.cells cells 5 (0, 0))) (hNp : N ≠ p) (hNs : w.heap.size ≤ N)
    (hcs : cells.size = cap2) (htk : cells.toList.take l = vs) (hcap : l + n ≤ cap2) (hm : cap2 ≤ maxLen) (hf : Fr (OneB p) w w2) (V1 : Value) :
    Grown1 p n vs w (((w2.setCell ⟨p, 0, none⟩ V1).setCell ⟨p, 1, none⟩ (.int .i64 0)).setCell ⟨p, 0, none⟩ (.slice (some ⟨N, 0, none⟩) (l + n) cap2)) := by
  have e : vs ++ (cells.toList.take (l + n)).drop l = cells.toList.take (l + n) := by
    rw [← htk]
    have := List.take_append_drop l (cells.toList.take (l + n))
    rwa [List.take_take, Nat.min_eq_left (by omega)] at this
  have hlen : (cells.toList.take (l + n)).length = l + n := by simp; omega
  refine ⟨(cells.toList.take (l + n)).drop l, N, by rw [List.length_drop, hlen]; omega, hNs, ?_, ?_⟩
  · rw [e]
    refine ⟨lr, .inr ⟨N, cap2, cells, rfl, hNp, by omega, ?_, ?_, by omega, hm, hcs, by rw [hlen]⟩⟩
    · rw [hlen, heap_set (heap_set (heap_set hp _) _) _]; rfl
    · rw [heap_far hNp, heap_far hNp, heap_far hNp, hN]
  · exact ((hf.setCell (p := ⟨p, 0, none⟩) (fun _ => rfl) _).setCell (p := ⟨p, 1, none⟩) (fun _ => rfl) _).setCell (p := ⟨p, 0, none⟩) (fun _ => rfl) _

set_option maxHeartbeats 1600000 in
theorem grow_row (p g cap n : Nat) (lr : Int) (cur : Array Value) (vs : List Value) (w : World)
    (hp : w.heap[p]? = some (.cells #[.slice (some ⟨g, 0, none⟩) vs.length cap, .int .i64 0, .int .i8 lr] 81 (0, 0)))
    (hg : w.heap[g]? = some (.cells cur 5 (0, 0))) (hlc : vs.length ≤ cap) (hcm : cap ≤ maxLen) (hcs : cur.size = cap) (htk : cur.toList.take vs.length = vs) (hl0 : 0 < vs.length)
    (h1 : ∀ v ∈ vs, v.oneCell' = true) (hn : 1 ≤ n) (hroom : cap - vs.length < n) (hlim : vs.length + n ≤ 140737488355328) :
    Calls Tryd.prog 86 #[.pointer (some ⟨p, 0, none⟩), .int .i64 n] w fun e w' => e = .returned (.int .i64 vs.length) ∧ Grown1 p n vs w w' := by
  have hnil : ∀ W, (binOp .eql 24 (.slice (some ⟨g, 0, none⟩) vs.length cap) (.slice none 0 0)).run Tryd.prog W = .ok (.bool false) W := fun W => Lib.run_eql_slice_some_nil W _ _ _ Tryd.underlying24
  generalize hl : vs.length = l at *
  have HL := Lib.hid hl; clear hl
  go_enter Tryd.func86, Tryd.ntmps86
  go_wp2_with (go_at_call 96; refine (buf_len p _ l cap lr _ (by omega) hp).mono ?_)
  rintro e W0 ⟨rfl, k, hW0⟩
  have hp0 : W0.heap[p]? = some (.cells #[.slice (some ⟨g, 0, none⟩) l cap, .int .i64 0, .int .i8 lr] 81 (0, 0)) := by rw [hW0]; exact hp
  have hg0 : W0.heap[g]? = some (.cells cur 5 (0, 0)) := by rw [hW0]; exact hg
  have hF0 : Fr (OneB p) w W0 := by rw [hW0]; exact (Fr.refl _ _).drewN _
  have hsz : W0.heap.size = w.heap.size := by rw [hW0]; rfl
  have HZ := Lib.hid hsz
  clear hW0 hsz hp hg
  have c0 : W0.cell? ⟨p, 0, none⟩ = some (.slice (some ⟨g, 0, none⟩) l cap) := (cells_of hp0 0).1
  have c1 : W0.cell? ⟨p, 1, none⟩ = some (.int .i64 0) := (cells_of hp0 1).1
  have f0 : W0.frozen? ⟨p, 0, none⟩ = false := (cells_of hp0 0).2
  have f1 : W0.frozen? ⟨p, 1, none⟩ = false := (cells_of hp0 1).2
  have hcm' := hcm
  unfold maxLen at hcm'
  go_wp2_with (go_at_call 85; refine (Tryd.Buffer_tryGrow_none_at p 0 _ l cap n _ c0 hlc hcm hroom).mono ?_; rintro e w' ⟨rfl, rfl⟩)
  have hc2 : cap ≤ 140737488355328 := by omega
  have h1' : ∀ v ∈ cur.toList.take l, v.oneCell' = true := by rw [htk]; exact h1
  have hpW := Lib.lt_of_heap hp0
  have hwn : IntKind.i64.wrap (n : Int) = n := by rw [IntKind.wrap_i64]; omega
  go_region_with (
      go_at_call 98
      refine (Tryd.bytes_growSlice_row g l cap n cur _ ?_ hcs hlc hn hlim hc2 h1').mono ?_
      exact hg0
      rintro e w2 ⟨cap2, cells, rfl, hN, hcsz, htk2, hcap2, hcm2, hbel⟩
      have hp2 := (hbel.block p hpW).trans hp0
      have d0 : w2.cell? ⟨p, 0, none⟩ = some (.slice (some ⟨g, 0, none⟩) l cap) := (cells_of hp2 0).1
      have d1 : w2.cell? ⟨p, 1, none⟩ = some (.int .i64 0) := (cells_of hp2 1).1
      have e0 : w2.frozen? ⟨p, 0, none⟩ = false := (cells_of hp2 0).2
      have e1 : w2.frozen? ⟨p, 1, none⟩ = false := (cells_of hp2 1).2)
  all_goals (
    go_wp2
    go_ret
    have hZ : w'.heap.size = w.heap.size := HZ.out
    exact ⟨rfl, grown1_end HL.out (by omega) hp2 hN (by show w'.heap.size ≠ p; omega) (by show w.heap.size ≤ w'.heap.size; omega) hcsz (htk2.trans htk) hcap2 hcm2 ((hF0.drew).trans (Fr.ofBelow (M := NoB) hbel) fun _ _ x => x.elim) _⟩)

theorem info_u8 : (Tryd.prog.info? 5).map (fun i => (i.zero, i.size, i.bytes)) = some (some (.int .u8 0), 1, 1) := by kernel_rfl

theorem grown1_small {p n : Nat} {w W0 : World} {lr : Int} {M : Array Value} (hn : 0 < n) (h64 : n ≤ 64) (hM : M.size = 64)
    (hp : W0.heap[p]? = some (.cells #[.slice none 0 0, .int .i64 0, .int .i8 lr] 81 (0, 0))) (hf : Fr (OneB p) w W0) :
    Grown1 p n [] w ((W0.setCell ⟨p, 0, none⟩ (.slice (some ⟨W0.heap.size, 0, none⟩) n 64)).alloc (.cells M 5)) := by
  have hs : (W0.setCell ⟨p, 0, none⟩ (.slice (some ⟨W0.heap.size, 0, none⟩) n 64)).heap.size = W0.heap.size := by simp [World.setCell]
  have hlt := Lib.lt_of_heap hp
  refine ⟨M.toList.take n, W0.heap.size, by simp; omega, hf.size, ?_, (hf.setCell (p := ⟨p, 0, none⟩) (fun _ => rfl) _).alloc _⟩
  have hlen : (M.toList.take n).length = n := by simp; omega
  rw [List.nil_append]
  refine ⟨lr, .inr ⟨W0.heap.size, 64, M, rfl, by omega, by omega, ?_, ?_, by omega, by unfold maxLen; omega, hM, by rw [hlen]⟩⟩
  · rw [hlen, Below.heap_alloc _ _ _ (by omega), heap_set hp]; rfl
  · have := heap_alloc_new (W0.setCell ⟨p, 0, none⟩ (.slice (some ⟨W0.heap.size, 0, none⟩) n 64)) (.cells M 5)
    rwa [hs] at this

set_option maxHeartbeats 1600000 in
theorem grow_nil_small (p n : Nat) (lr : Int) (w : World) (hp : w.heap[p]? = some (.cells #[.slice none 0 0, .int .i64 0, .int .i8 lr] 81 (0, 0))) (hn : 1 ≤ n) (h64 : n ≤ 64) :
    Calls Tryd.prog 86 #[.pointer (some ⟨p, 0, none⟩), .int .i64 n] w fun e w' => e = .returned (.int .i64 0) ∧ Grown1 p n [] w w' := by
  obtain ⟨i0, hi, hz0, hz1, hz2⟩ := info_parts info_u8
  obtain ⟨M, hM⟩ : ∃ M, M = madeCells (Value.int .u8 0).cells ((64 : Int).toNat * i0.size) := ⟨_, rfl⟩
  have hMs : M.size = 64 := by rw [hM, size_madeCells, hz1]; rfl
  have hmk : ∀ W : World, (Instr.makeSlice 24 (.int .i64 (n : Int)) (.int .i64 64)).run Tryd.prog W = .ok (.slice (some ⟨W.heap.size, 0, none⟩) n 64) (W.alloc (.cells M 5)) := fun W => by
    have h := run_makeSlice (P := Tryd.prog) W 24 5 i0 (.int .u8 0) Tryd.underlying24 hi hz0 .i64 .i64 (n : Int) 64 (by omega) (by omega) (by rw [hz1]; decide) (by rw [hz2]; decide) (by decide)
    rw [← hM] at h
    simpa using h
  clear hM hz0 hz1 hz2 hi
  have hnil : ∀ W, (binOp .eql 24 (.slice none 0 0) (.slice none 0 0)).run Tryd.prog W = .ok (.bool true) W := fun W => Lib.run_eql_slice_nil_nil W _ _ Tryd.underlying24
  go_enter Tryd.func86, Tryd.ntmps86
  go_wp2_with (go_at_call 96; refine (buf_len p _ 0 0 lr _ (by omega) hp).mono ?_)
  rintro e W0 ⟨rfl, k, hW0⟩
  have hp0 : W0.heap[p]? = some (.cells #[.slice none 0 0, .int .i64 0, .int .i8 lr] 81 (0, 0)) := by rw [hW0]; exact hp
  have hF0 : Fr (OneB p) w W0 := by rw [hW0]; exact (Fr.refl _ _).drewN _
  clear hW0 hp
  have c0 : W0.cell? ⟨p, 0, none⟩ = some (.slice none 0 0) := (cells_of hp0 0).1
  have c1 : W0.cell? ⟨p, 1, none⟩ = some (.int .i64 0) := (cells_of hp0 1).1
  have f0 : W0.frozen? ⟨p, 0, none⟩ = false := (cells_of hp0 0).2
  have f1 : W0.frozen? ⟨p, 1, none⟩ = false := (cells_of hp0 1).2
  have hbW0 := Lib.lt_of_heap hp0
  have c0a : ∀ o, (W0.alloc o).cell? ⟨p, 0, none⟩ = some (.slice none 0 0) := fun o => (World.cell?_of_block (a := ⟨p, 0, none⟩) (Below.heap_alloc W0 o p hbW0)).trans c0
  have f0a : ∀ o, (W0.alloc o).frozen? ⟨p, 0, none⟩ = false := fun o => (World.frozen?_of_block (a := ⟨p, 0, none⟩) (Below.heap_alloc W0 o p hbW0)).trans f0
  go_wp2_with (go_at_call 85; refine (Tryd.Buffer_tryGrow_none_at p 0 _ 0 0 n _ c0 (Nat.le_refl _) (Nat.zero_le _) (by omega)).mono ?_; rintro e w' ⟨rfl, rfl⟩)
  go_ret
  exact ⟨rfl, grown1_small (by omega) h64 hMs hp0 hF0⟩

set_option maxHeartbeats 1600000 in
theorem grow_nil_big (p n : Nat) (lr : Int) (w : World) (hp : w.heap[p]? = some (.cells #[.slice none 0 0, .int .i64 0, .int .i8 lr] 81 (0, 0))) (h64 : 64 < n) (hlim : n ≤ 140737488355328) :
    Calls Tryd.prog 86 #[.pointer (some ⟨p, 0, none⟩), .int .i64 n] w fun e w' => e = .returned (.int .i64 0) ∧ Grown1 p n [] w w' := by
  have hnil : ∀ W, (binOp .eql 24 (.slice none 0 0) (.slice none 0 0)).run Tryd.prog W = .ok (.bool true) W := fun W => Lib.run_eql_slice_nil_nil W _ _ Tryd.underlying24
  go_enter Tryd.func86, Tryd.ntmps86
  go_wp2_with (go_at_call 96; refine (buf_len p _ 0 0 lr _ (by omega) hp).mono ?_)
  rintro e W0 ⟨rfl, k, hW0⟩
  have hp0 : W0.heap[p]? = some (.cells #[.slice none 0 0, .int .i64 0, .int .i8 lr] 81 (0, 0)) := by rw [hW0]; exact hp
  have hF0 : Fr (OneB p) w W0 := by rw [hW0]; exact (Fr.refl _ _).drewN _
  have hsz : W0.heap.size = w.heap.size := by rw [hW0]; rfl
  have HZ := Lib.hid hsz
  clear hW0 hsz hp
  have c0 : W0.cell? ⟨p, 0, none⟩ = some (.slice none 0 0) := (cells_of hp0 0).1
  have c1 : W0.cell? ⟨p, 1, none⟩ = some (.int .i64 0) := (cells_of hp0 1).1
  have f0 : W0.frozen? ⟨p, 0, none⟩ = false := (cells_of hp0 0).2
  have f1 : W0.frozen? ⟨p, 1, none⟩ = false := (cells_of hp0 1).2
  go_wp2_with (go_at_call 85; refine (Tryd.Buffer_tryGrow_none_at p 0 _ 0 0 n _ c0 (Nat.le_refl _) (Nat.zero_le _) (by omega)).mono ?_; rintro e w' ⟨rfl, rfl⟩)
  have hpW := Lib.lt_of_heap hp0
  have hwn : IntKind.i64.wrap (n : Int) = n := by rw [IntKind.wrap_i64]; omega
  go_region_with (
      go_at_call 98
      refine (Tryd.bytes_growSlice_nil n _ (by omega) hlim).mono ?_
      rintro e w2 ⟨cap2, cells, rfl, hN, hcsz, hcap2, hcm2, hbel⟩
      have hp2 := (hbel.block p hpW).trans hp0
      have d0 : w2.cell? ⟨p, 0, none⟩ = some (.slice none 0 0) := (cells_of hp2 0).1
      have d1 : w2.cell? ⟨p, 1, none⟩ = some (.int .i64 0) := (cells_of hp2 1).1
      have e0 : w2.frozen? ⟨p, 0, none⟩ = false := (cells_of hp2 0).2
      have e1 : w2.frozen? ⟨p, 1, none⟩ = false := (cells_of hp2 1).2
      have hcm2' := hcm2
      unfold maxLen at hcm2')
  all_goals (
    go_wp2
    go_ret
    have hZ : w'.heap.size = w.heap.size := HZ.out
    have q := grown1_end (vs := []) (l := 0) rfl (show 0 < n by omega) hp2 hN (by show w'.heap.size ≠ p; omega) (by show w.heap.size ≤ w'.heap.size; omega) hcsz (by simp) (by omega) hcm2 ((hF0.drew).trans (Fr.ofBelow (M := NoB) hbel) fun _ _ x => x.elim) (.slice (some ⟨w'.drew.heap.size, 0, none⟩) 0 cap2)
    rw [Nat.zero_add] at q
    exact ⟨rfl, q⟩)

end Go.Proofs.YtljioepkbbbibaaDoor
