/-
  Bufw: Buf, Bufw.
-/
import Derived.Test.YtlckgkpgllhpbaaDoorBase
import Derived.Test.YtlckgkpgllhpbaaDoorShelf
import Derived.Test.YtlckgkpgllhpbaaDoorRows
import Derived.Lib.BufferWrite
import Derived.Laws.CopyRow
import Derived.Laws.IdiomCopy
/- Buf -/
namespace Go.Proofs.YtlckgkpgllhpbaaDoor
open Go.RowKit

/-- Block p is a wire.Writer that has only been written and holds the cells vs; its row is block G. -/
def WtrV (w : World) (p : Nat) (G : Option Nat) (vs : List Value) : Prop :=
  ∃ lr : Int, (G = none ∧ vs = [] ∧ w.heap[p]? = some (.cells #[.slice none 0 0, .int .i64 0, .int .i8 lr] 97 (0, 0))) ∨
    (∃ g cap cur, G = some g ∧ g ≠ p ∧ 0 < vs.length ∧ w.heap[p]? = some (.cells #[.slice (some ⟨g, 0, none⟩) vs.length cap, .int .i64 0, .int .i8 lr] 97 (0, 0)) ∧
      w.heap[g]? = some (.cells cur 5 (0, 0)) ∧ vs.length ≤ cap ∧ cap ≤ maxLen ∧ cur.size = cap ∧ cur.toList.take vs.length = vs)

/-- The blocks that a writer may touch. -/
def WF (p : Nat) (G : Option Nat) : Nat → Prop := fun k => k = p ∨ G = some k

theorem WtrV.keep {w w' : World} {p : Nat} {G : Option Nat} {vs : List Value} (h : WtrV w p G vs) (hs : ∀ k, WF p G k → w'.heap[k]? = w.heap[k]?) : WtrV w' p G vs := by
  obtain ⟨lr, h | ⟨g, cap, cur, rfl, h1, h2, h3, h4, h5⟩⟩ := h
  · exact ⟨lr, .inl ⟨h.1, h.2.1, (hs p (.inl rfl)).trans h.2.2⟩⟩
  · exact ⟨lr, .inr ⟨g, cap, cur, rfl, h1, h2, (hs p (.inl rfl)).trans h3, (hs g (.inr rfl)).trans h4, h5⟩⟩
theorem WtrV.fr {M : Nat → Prop} {w w' : World} {p : Nat} {G : Option Nat} {vs : List Value} (h : WtrV w p G vs) (hf : Fr M w w') (hm : ∀ k, WF p G k → ¬ M k) : WtrV w' p G vs := by
  refine h.keep fun k hk => hf.block k ?_ (hm k hk)
  obtain ⟨lr, h | ⟨g, cap, cur, rfl, h1, h2, h3, h4, h5⟩⟩ := h
  · obtain ⟨rfl, _, h⟩ := h
    rcases hk with rfl | hk
    · exact Lib.lt_of_heap h
    · cases hk
  · rcases hk with rfl | hk
    · exact Lib.lt_of_heap h3
    · cases hk; exact Lib.lt_of_heap h4
theorem WtrV.lt {w : World} {p : Nat} {G : Option Nat} {vs : List Value} (h : WtrV w p G vs) {k : Nat} (hk : WF p G k) : k < w.heap.size := by
  obtain ⟨lr, h | ⟨g, cap, cur, rfl, h1, h2, h3, h4, h5⟩⟩ := h
  · obtain ⟨rfl, _, h⟩ := h
    rcases hk with rfl | hk
    · exact Lib.lt_of_heap h
    · cases hk
  · rcases hk with rfl | hk
    · exact Lib.lt_of_heap h3
    · cases hk; exact Lib.lt_of_heap h4
theorem WtrV.drewN {w : World} {p : Nat} {G : Option Nat} {vs : List Value} (h : WtrV w p G vs) (n : Nat) : WtrV (w.drewN n) p G vs := h
theorem WtrV.new (w : World) : WtrV (w.alloc (.cells #[.slice none 0 0, .int .i64 0, .int .i8 0] 97)) w.heap.size none [] :=
  ⟨0, .inl ⟨rfl, rfl, heap_alloc_new w _⟩⟩

set_option maxHeartbeats 400000 in
theorem buf_len (p : Nat) (A : Option Addr) (n c : Nat) (lr : Int) (w : World) (hn : n ≤ maxLen) (h : w.heap[p]? = some (.cells #[.slice A n c, .int .i64 0, .int .i8 lr] 97 (0, 0))) :
    Calls Tryd.prog 102 #[.pointer (some ⟨p, 0, none⟩)] w fun e w' => e = .returned (.int .i64 n) ∧ ∃ k, w' = w.drewN k := by
  have c0 : w.cell? ⟨p, 0, none⟩ = some (.slice A n c) := by rw [Lib.cell_of_heap h]; rfl
  have c1 : w.cell? ⟨p, 1, none⟩ = some (.int .i64 0) := by rw [Lib.cell_of_heap h]; rfl
  clear h
  unfold maxLen at hn
  go_enter Tryd.func102, Tryd.ntmps102
  go_wp2
  go_quiet (fail)
  go_wp2
  go_ret
  exact ⟨rfl, _, rfl⟩

theorem cells_of {w : World} {p : Nat} {cs : Array Value} {t : TypeId} (h : w.heap[p]? = some (.cells cs t (0, 0))) (i : Nat) : w.cell? ⟨p, i, none⟩ = cs[i]? ∧ w.frozen? ⟨p, i, none⟩ = false :=
  ⟨Lib.cell_of_heap h i, Lib.frozen_of_heap h i⟩
theorem heap_set {w : World} {p i : Nat} {cs : Array Value} {t : TypeId} {fr : Nat × Nat} (h : w.heap[p]? = some (.cells cs t fr)) (u : Value) : (w.setCell ⟨p, i, none⟩ u).heap[p]? = some (.cells (cs.setIfInBounds i u) t fr) := by
  simp [World.setCell, Array.getElem?_modify, h]
theorem heap_far {w : World} {p k : Nat} (h : k ≠ p) (i : Nat) (u : Value) : (w.setCell ⟨p, i, none⟩ u).heap[k]? = w.heap[k]? := Below.heap_setCell w ⟨p, i, none⟩ u k h

/-- What the buffer is behind grow: the old cells, and n more of whatever. -/
def Grown1 (p n : Nat) (vs : List Value) (w w' : World) : Prop :=
  ∃ xs g, xs.length = n ∧ w.heap.size ≤ g ∧ WtrV w' p (some g) (vs ++ xs) ∧ Fr (OneB p) w w'

theorem grown1_end {p n l N cap2 : Nat} {vs : List Value} {w w2 : World} {lr : Int} {A : Value} {cells : Array Value} (hl : vs.length = l) (hn : 0 < n)
    (hp : w2.heap[p]? = some (.cells #[A, .int .i64 0, .int .i8 lr] 97 (0, 0))) (hN : w2.heap[N]? = some (.cells cells 5 (0, 0))) (hNp : N ≠ p) (hNs : w.heap.size ≤ N)
    (hcs : cells.size = cap2) (htk : cells.toList.take l = vs) (hcap : l + n ≤ cap2) (hm : cap2 ≤ maxLen) (hf : Fr (OneB p) w w2) (V1 : Value) :
    Grown1 p n vs w (((w2.setCell ⟨p, 0, none⟩ V1).setCell ⟨p, 1, none⟩ (.int .i64 0)).setCell ⟨p, 0, none⟩ (.slice (some ⟨N, 0, none⟩) (l + n) cap2)) := by
  have e : vs ++ (cells.toList.take (l + n)).drop l = cells.toList.take (l + n) := by
    rw [← htk]
    have := List.take_append_drop l (cells.toList.take (l + n))
    rwa [List.take_take, Nat.min_eq_left (by omega)] at this
  have hlen : (cells.toList.take (l + n)).length = l + n := by simp; omega
  refine ⟨(cells.toList.take (l + n)).drop l, N, by rw [List.length_drop, hlen]; omega, hNs, ?_, ?_⟩
  · rw [e]
    refine ⟨lr, .inr ⟨N, cap2, cells, rfl, hNp, by omega, ?_, ?_, by omega, hm, hcs, by rw [hlen]⟩⟩
    · rw [hlen, heap_set (heap_set (heap_set hp _) _) _]; rfl
    · rw [heap_far hNp, heap_far hNp, heap_far hNp, hN]
  · exact ((hf.setCell (p := ⟨p, 0, none⟩) (fun _ => rfl) _).setCell (p := ⟨p, 1, none⟩) (fun _ => rfl) _).setCell (p := ⟨p, 0, none⟩) (fun _ => rfl) _

set_option maxHeartbeats 1600000 in
theorem grow_row (p g cap n : Nat) (lr : Int) (cur : Array Value) (vs : List Value) (w : World)
    (hp : w.heap[p]? = some (.cells #[.slice (some ⟨g, 0, none⟩) vs.length cap, .int .i64 0, .int .i8 lr] 97 (0, 0)))
    (hg : w.heap[g]? = some (.cells cur 5 (0, 0))) (hlc : vs.length ≤ cap) (hcm : cap ≤ maxLen) (hcs : cur.size = cap) (htk : cur.toList.take vs.length = vs) (hl0 : 0 < vs.length)
    (h1 : ∀ v ∈ vs, v.oneCell' = true) (hn : 1 ≤ n) (hroom : cap - vs.length < n) (hlim : vs.length + n ≤ 140737488355328) :
    Calls Tryd.prog 93 #[.pointer (some ⟨p, 0, none⟩), .int .i64 n] w fun e w' => e = .returned (.int .i64 vs.length) ∧ Grown1 p n vs w w' := by
  have hnil : ∀ W, (binOp .eql 23 (.slice (some ⟨g, 0, none⟩) vs.length cap) (.slice none 0 0)).run Tryd.prog W = .ok (.bool false) W := fun W => Lib.run_eql_slice_some_nil W _ _ _ Tryd.underlying23
  generalize hl : vs.length = l at *
  have HL := Lib.hid hl; clear hl
  go_enter Tryd.func93, Tryd.ntmps93
  go_wp2_with (go_at_call 102; refine (buf_len p _ l cap lr _ (by omega) hp).mono ?_)
  rintro e W0 ⟨rfl, k, hW0⟩
  have hp0 : W0.heap[p]? = some (.cells #[.slice (some ⟨g, 0, none⟩) l cap, .int .i64 0, .int .i8 lr] 97 (0, 0)) := by rw [hW0]; exact hp
  have hg0 : W0.heap[g]? = some (.cells cur 5 (0, 0)) := by rw [hW0]; exact hg
  have hF0 : Fr (OneB p) w W0 := by rw [hW0]; exact (Fr.refl _ _).drewN _
  have hsz : W0.heap.size = w.heap.size := by rw [hW0]; rfl
  have HZ := Lib.hid hsz
  clear hW0 hsz hp hg
  have c0 : W0.cell? ⟨p, 0, none⟩ = some (.slice (some ⟨g, 0, none⟩) l cap) := (cells_of hp0 0).1
  have c1 : W0.cell? ⟨p, 1, none⟩ = some (.int .i64 0) := (cells_of hp0 1).1
  have f0 : W0.frozen? ⟨p, 0, none⟩ = false := (cells_of hp0 0).2
  have f1 : W0.frozen? ⟨p, 1, none⟩ = false := (cells_of hp0 1).2
  have hcm' := hcm
  unfold maxLen at hcm'
  go_wp2_with (go_at_call 92; refine (Tryd.Buffer_tryGrow_none_at p 0 _ l cap n _ c0 hlc hcm hroom).mono ?_; rintro e w' ⟨rfl, rfl⟩)
  have hc2 : cap ≤ 140737488355328 := by omega
  have h1' : ∀ v ∈ cur.toList.take l, v.oneCell' = true := by rw [htk]; exact h1
  have hpW := Lib.lt_of_heap hp0
  have hwn : IntKind.i64.wrap (n : Int) = n := by rw [IntKind.wrap_i64]; omega
  go_region_with (
      go_at_call 104
      refine (Tryd.bytes_growSlice_row g l cap n cur _ ?_ hcs hlc hn hlim hc2 h1').mono ?_
      exact hg0
      rintro e w2 ⟨cap2, cells, rfl, hN, hcsz, htk2, hcap2, hcm2, hbel⟩
      have hp2 := (hbel.block p hpW).trans hp0
      have d0 : w2.cell? ⟨p, 0, none⟩ = some (.slice (some ⟨g, 0, none⟩) l cap) := (cells_of hp2 0).1
      have d1 : w2.cell? ⟨p, 1, none⟩ = some (.int .i64 0) := (cells_of hp2 1).1
      have e0 : w2.frozen? ⟨p, 0, none⟩ = false := (cells_of hp2 0).2
      have e1 : w2.frozen? ⟨p, 1, none⟩ = false := (cells_of hp2 1).2)
  all_goals (
    go_wp2
    go_ret
    have hZ : w'.heap.size = w.heap.size := HZ.out
    exact ⟨rfl, grown1_end HL.out (by omega) hp2 hN (by show w'.heap.size ≠ p; omega) (by show w.heap.size ≤ w'.heap.size; omega) hcsz (htk2.trans htk) hcap2 hcm2 ((hF0.drew).trans (Fr.ofBelow (M := NoB) hbel) fun _ _ x => x.elim) _⟩)

theorem info_u8 : (Tryd.prog.info? 5).map (fun i => (i.zero, i.size, i.bytes)) = some (some (.int .u8 0), 1, 1) := by kernel_rfl

theorem grown1_small {p n : Nat} {w W0 : World} {lr : Int} {M : Array Value} (hn : 0 < n) (h64 : n ≤ 64) (hM : M.size = 64)
    (hp : W0.heap[p]? = some (.cells #[.slice none 0 0, .int .i64 0, .int .i8 lr] 97 (0, 0))) (hf : Fr (OneB p) w W0) :
    Grown1 p n [] w ((W0.setCell ⟨p, 0, none⟩ (.slice (some ⟨W0.heap.size, 0, none⟩) n 64)).alloc (.cells M 5)) := by
  have hs : (W0.setCell ⟨p, 0, none⟩ (.slice (some ⟨W0.heap.size, 0, none⟩) n 64)).heap.size = W0.heap.size := by simp [World.setCell]
  have hlt := Lib.lt_of_heap hp
  refine ⟨M.toList.take n, W0.heap.size, by simp; omega, hf.size, ?_, (hf.setCell (p := ⟨p, 0, none⟩) (fun _ => rfl) _).alloc _⟩
  have hlen : (M.toList.take n).length = n := by simp; omega
  rw [List.nil_append]
  refine ⟨lr, .inr ⟨W0.heap.size, 64, M, rfl, by omega, by omega, ?_, ?_, by omega, by unfold maxLen; omega, hM, by rw [hlen]⟩⟩
  · rw [hlen, Below.heap_alloc _ _ _ (by omega), heap_set hp]; rfl
  · have := heap_alloc_new (W0.setCell ⟨p, 0, none⟩ (.slice (some ⟨W0.heap.size, 0, none⟩) n 64)) (.cells M 5)
    rwa [hs] at this

set_option maxHeartbeats 1600000 in
theorem grow_nil_small (p n : Nat) (lr : Int) (w : World) (hp : w.heap[p]? = some (.cells #[.slice none 0 0, .int .i64 0, .int .i8 lr] 97 (0, 0))) (hn : 1 ≤ n) (h64 : n ≤ 64) :
    Calls Tryd.prog 93 #[.pointer (some ⟨p, 0, none⟩), .int .i64 n] w fun e w' => e = .returned (.int .i64 0) ∧ Grown1 p n [] w w' := by
  obtain ⟨i0, hi, hz0, hz1, hz2⟩ := info_parts info_u8
  obtain ⟨M, hM⟩ : ∃ M, M = madeCells (Value.int .u8 0).cells ((64 : Int).toNat * i0.size) := ⟨_, rfl⟩
  have hMs : M.size = 64 := by rw [hM, size_madeCells, hz1]; rfl
  have hmk : ∀ W : World, (Instr.makeSlice 23 (.int .i64 (n : Int)) (.int .i64 64)).run Tryd.prog W = .ok (.slice (some ⟨W.heap.size, 0, none⟩) n 64) (W.alloc (.cells M 5)) := fun W => by
    have h := run_makeSlice (P := Tryd.prog) W 23 5 i0 (.int .u8 0) Tryd.underlying23 hi hz0 .i64 .i64 (n : Int) 64 (by omega) (by omega) (by rw [hz1]; decide) (by rw [hz2]; decide) (by decide)
    rw [← hM] at h
    simpa using h
  clear hM hz0 hz1 hz2 hi
  have hnil : ∀ W, (binOp .eql 23 (.slice none 0 0) (.slice none 0 0)).run Tryd.prog W = .ok (.bool true) W := fun W => Lib.run_eql_slice_nil_nil W _ _ Tryd.underlying23
  go_enter Tryd.func93, Tryd.ntmps93
  go_wp2_with (go_at_call 102; refine (buf_len p _ 0 0 lr _ (by omega) hp).mono ?_)
  rintro e W0 ⟨rfl, k, hW0⟩
  have hp0 : W0.heap[p]? = some (.cells #[.slice none 0 0, .int .i64 0, .int .i8 lr] 97 (0, 0)) := by rw [hW0]; exact hp
  have hF0 : Fr (OneB p) w W0 := by rw [hW0]; exact (Fr.refl _ _).drewN _
  clear hW0 hp
  have c0 : W0.cell? ⟨p, 0, none⟩ = some (.slice none 0 0) := (cells_of hp0 0).1
  have c1 : W0.cell? ⟨p, 1, none⟩ = some (.int .i64 0) := (cells_of hp0 1).1
  have f0 : W0.frozen? ⟨p, 0, none⟩ = false := (cells_of hp0 0).2
  have f1 : W0.frozen? ⟨p, 1, none⟩ = false := (cells_of hp0 1).2
  have hbW0 := Lib.lt_of_heap hp0
  have c0a : ∀ o, (W0.alloc o).cell? ⟨p, 0, none⟩ = some (.slice none 0 0) := fun o => (World.cell?_of_block (a := ⟨p, 0, none⟩) (Below.heap_alloc W0 o p hbW0)).trans c0
  have f0a : ∀ o, (W0.alloc o).frozen? ⟨p, 0, none⟩ = false := fun o => (World.frozen?_of_block (a := ⟨p, 0, none⟩) (Below.heap_alloc W0 o p hbW0)).trans f0
  go_wp2_with (go_at_call 92; refine (Tryd.Buffer_tryGrow_none_at p 0 _ 0 0 n _ c0 (Nat.le_refl _) (Nat.zero_le _) (by omega)).mono ?_; rintro e w' ⟨rfl, rfl⟩)
  go_ret
  exact ⟨rfl, grown1_small (by omega) h64 hMs hp0 hF0⟩

set_option maxHeartbeats 1600000 in
theorem grow_nil_big (p n : Nat) (lr : Int) (w : World) (hp : w.heap[p]? = some (.cells #[.slice none 0 0, .int .i64 0, .int .i8 lr] 97 (0, 0))) (h64 : 64 < n) (hlim : n ≤ 140737488355328) :
    Calls Tryd.prog 93 #[.pointer (some ⟨p, 0, none⟩), .int .i64 n] w fun e w' => e = .returned (.int .i64 0) ∧ Grown1 p n [] w w' := by
  have hnil : ∀ W, (binOp .eql 23 (.slice none 0 0) (.slice none 0 0)).run Tryd.prog W = .ok (.bool true) W := fun W => Lib.run_eql_slice_nil_nil W _ _ Tryd.underlying23
  go_enter Tryd.func93, Tryd.ntmps93
  go_wp2_with (go_at_call 102; refine (buf_len p _ 0 0 lr _ (by omega) hp).mono ?_)
  rintro e W0 ⟨rfl, k, hW0⟩
  have hp0 : W0.heap[p]? = some (.cells #[.slice none 0 0, .int .i64 0, .int .i8 lr] 97 (0, 0)) := by rw [hW0]; exact hp
  have hF0 : Fr (OneB p) w W0 := by rw [hW0]; exact (Fr.refl _ _).drewN _
  have hsz : W0.heap.size = w.heap.size := by rw [hW0]; rfl
  have HZ := Lib.hid hsz
  clear hW0 hsz hp
  have c0 : W0.cell? ⟨p, 0, none⟩ = some (.slice none 0 0) := (cells_of hp0 0).1
  have c1 : W0.cell? ⟨p, 1, none⟩ = some (.int .i64 0) := (cells_of hp0 1).1
  have f0 : W0.frozen? ⟨p, 0, none⟩ = false := (cells_of hp0 0).2
  have f1 : W0.frozen? ⟨p, 1, none⟩ = false := (cells_of hp0 1).2
  go_wp2_with (go_at_call 92; refine (Tryd.Buffer_tryGrow_none_at p 0 _ 0 0 n _ c0 (Nat.le_refl _) (Nat.zero_le _) (by omega)).mono ?_; rintro e w' ⟨rfl, rfl⟩)
  have hpW := Lib.lt_of_heap hp0
  have hwn : IntKind.i64.wrap (n : Int) = n := by rw [IntKind.wrap_i64]; omega
  go_region_with (
      go_at_call 104
      refine (Tryd.bytes_growSlice_nil n _ (by omega) hlim).mono ?_
      rintro e w2 ⟨cap2, cells, rfl, hN, hcsz, hcap2, hcm2, hbel⟩
      have hp2 := (hbel.block p hpW).trans hp0
      have d0 : w2.cell? ⟨p, 0, none⟩ = some (.slice none 0 0) := (cells_of hp2 0).1
      have d1 : w2.cell? ⟨p, 1, none⟩ = some (.int .i64 0) := (cells_of hp2 1).1
      have e0 : w2.frozen? ⟨p, 0, none⟩ = false := (cells_of hp2 0).2
      have e1 : w2.frozen? ⟨p, 1, none⟩ = false := (cells_of hp2 1).2
      have hcm2' := hcm2
      unfold maxLen at hcm2')
  all_goals (
    go_wp2
    go_ret
    have hZ : w'.heap.size = w.heap.size := HZ.out
    have q := grown1_end (vs := []) (l := 0) rfl (show 0 < n by omega) hp2 hN (by show w'.heap.size ≠ p; omega) (by show w.heap.size ≤ w'.heap.size; omega) hcsz (by simp) (by omega) hcm2 ((hF0.drew).trans (Fr.ofBelow (M := NoB) hbel) fun _ _ x => x.elim) (.slice (some ⟨w'.drew.heap.size, 0, none⟩) 0 cap2)
    rw [Nat.zero_add] at q
    exact ⟨rfl, q⟩)

end Go.Proofs.YtlckgkpgllhpbaaDoor

/- Bufw -/
namespace Go.Proofs.YtlckgkpgllhpbaaDoor
open Go.RowKit

/-- The buffer has a place for n more. -/
def Room1 (p n : Nat) (G : Option Nat) (vs : List Value) (w w' : World) : Prop :=
  ∃ xs g, xs.length = n ∧ (G = some g ∨ w.heap.size ≤ g) ∧ WtrV w' p (some g) (vs ++ xs) ∧ Fr (OneB p) w w'

theorem try_grow (p n : Nat) (G : Option Nat) (vs : List Value) (w : World) (h : WtrV w p G vs) (hn : 1 ≤ n) :
    Calls Tryd.prog 92 #[.pointer (some ⟨p, 0, none⟩), .int .i64 n] w fun e w' =>
      (e = .returned (.tuple #[.int .i64 vs.length, .bool true]) ∧ Room1 p n G vs w w') ∨
      (e = .returned (.tuple #[.int .i64 0, .bool false]) ∧ w = w' ∧ (vs.length + n ≤ 140737488355328 → (∀ v ∈ vs, v.oneCell' = true) → Calls Tryd.prog 93 #[.pointer (some ⟨p, 0, none⟩), .int .i64 n] w fun e w' => e = .returned (.int .i64 vs.length) ∧ Room1 p n G vs w w')) := by
  obtain ⟨lr, h | ⟨g, cap, cur, rfl, hgp, hl, hp, hg, hlc, hm, hs, ht⟩⟩ := h
  · obtain ⟨rfl, rfl, hp⟩ := h
    refine (Tryd.Buffer_tryGrow_none p none 0 0 n w (cells_of hp 0).1 (Nat.le_refl _) (Nat.zero_le _) (by omega)).mono ?_
    rintro e w' ⟨rfl, rfl⟩
    refine .inr ⟨rfl, rfl, fun hlim _ => ?_⟩
    by_cases h64 : n ≤ 64
    · refine (grow_nil_small p n lr _ hp hn h64).mono ?_
      rintro e w1 ⟨rfl, xs, g, h1, h2, h3, h4⟩
      exact ⟨rfl, xs, g, h1, .inr h2, h3, h4⟩
    · refine (grow_nil_big p n lr _ hp (by omega) (by simpa using hlim)).mono ?_
      rintro e w1 ⟨rfl, xs, g, h1, h2, h3, h4⟩
      exact ⟨rfl, xs, g, h1, .inr h2, h3, h4⟩
  · by_cases hr : n ≤ cap - vs.length
    · refine (Tryd.Buffer_tryGrow_room p _ vs.length cap n w (cells_of hp 0).1 (cells_of hp 0).2 hlc hm hr).mono ?_
      rintro e w' ⟨rfl, rfl⟩
      have e : vs ++ (cur.toList.take (vs.length + n)).drop vs.length = cur.toList.take (vs.length + n) := by
        have := List.take_append_drop vs.length (cur.toList.take (vs.length + n))
        rwa [List.take_take, Nat.min_eq_left (by omega), ht] at this
      have hlen : (cur.toList.take (vs.length + n)).length = vs.length + n := by simp; omega
      refine .inl ⟨rfl, (cur.toList.take (vs.length + n)).drop vs.length, g, by rw [List.length_drop, hlen]; omega, .inl rfl, ?_, (Fr.refl (OneB p) _).setCell (p := ⟨p, 0, none⟩) (fun _ => rfl) _⟩
      rw [e]
      refine ⟨lr, .inr ⟨g, cap, cur, rfl, hgp, by omega, ?_, by rw [heap_far hgp, hg], by omega, hm, hs, by rw [hlen]⟩⟩
      rw [hlen, heap_set hp]; rfl
    · refine (Tryd.Buffer_tryGrow_none p _ vs.length cap n w (cells_of hp 0).1 hlc hm (by omega)).mono ?_
      rintro e w' ⟨rfl, rfl⟩
      refine .inr ⟨rfl, rfl, fun hlim h1 => ?_⟩
      refine (grow_row p g cap n lr cur vs _ hp hg hlc hm hs ht hl h1 hn (by omega) hlim).mono ?_
      rintro e w1 ⟨rfl, xs, g, h1, h2, h3, h4⟩
      exact ⟨rfl, xs, g, h1, .inr h2, h3, h4⟩

/-- Behind a write: the bytes stand behind those that were put. -/
def Put1 (p : Nat) (G : Option Nat) (vs : List Value) (w w' : World) : Prop :=
  ∃ G', WtrV w' p G' vs ∧ Fr (WF p G) w w' ∧ ∀ k, WF p G' k → WF p G k ∨ w.heap.size ≤ k

theorem last_set {w : World} {p : Nat} {G : Option Nat} {vs : List Value} (h : WtrV w p G vs) (x : Int) : WtrV (w.setCell ⟨p, 2, none⟩ (.int .i8 x)) p G vs := by
  obtain ⟨lr, h | ⟨g, cap, cur, rfl, h1, h2, h3, h4, h5⟩⟩ := h
  · exact ⟨x, .inl ⟨h.1, h.2.1, by rw [heap_set h.2.2]; rfl⟩⟩
  · exact ⟨x, .inr ⟨g, cap, cur, rfl, h1, h2, by rw [heap_set h3]; rfl, by rw [heap_far h1, h4], h5⟩⟩

theorem WtrV.last {w : World} {p : Nat} {G : Option Nat} {vs : List Value} (h : WtrV w p G vs) : ∃ v, w.cell? ⟨p, 2, none⟩ = some v ∧ w.frozen? ⟨p, 2, none⟩ = false := by
  obtain ⟨lr, h | ⟨g, cap, cur, rfl, h1, h2, h3, h4, h5⟩⟩ := h
  · exact ⟨_, (cells_of h.2.2 2).1.trans rfl, (cells_of h.2.2 2).2⟩
  · exact ⟨_, (cells_of h3 2).1.trans rfl, (cells_of h3 2).2⟩

/-- What the last step of a write needs of the world behind the growing. -/
theorem room_facts {p n g : Nat} {vs xs : List Value} {w : World} (hx : xs.length = n) (h : WtrV w p (some g) (vs ++ xs)) :
    ∃ (lr : Int) (cap : Nat) (cur : Array Value), g ≠ p ∧ w.heap[p]? = some (.cells #[.slice (some ⟨g, 0, none⟩) (vs.length + n) cap, .int .i64 0, .int .i8 lr] 97 (0, 0)) ∧
      w.heap[g]? = some (.cells cur 5 (0, 0)) ∧ vs.length + n ≤ cap ∧ cap ≤ maxLen ∧ cur.size = cap ∧ cur.toList.take vs.length = vs := by
  obtain ⟨lr, h | ⟨g', cap, cur, hG, h1, h2, h3, h4, h5, h6, h7, h8⟩⟩ := h
  · exact nomatch h.1
  · cases hG
    refine ⟨lr, cap, cur, h1, by simpa [hx] using h3, h4, by simpa [hx] using h5, h6, h7, ?_⟩
    have := congrArg (List.take vs.length) h8
    rwa [List.take_take, Nat.min_eq_left (by simp), List.take_left' rfl] at this

theorem put_end {p g n cap : Nat} {G : Option Nat} {lr : Int} {vs news : List Value} {cur : Array Value} {w w0 w1 : World} (hG : G = some g ∨ w0.heap.size ≤ g) (hsz : w0.heap.size = w.heap.size) (hf0 : Fr (OneB p) w w0) (hf : Fr (OneB p) w0 w1) (hgp : g ≠ p) (hn : news.length = n) (hn0 : 0 < n)
    (hp : w1.heap[p]? = some (.cells #[.slice (some ⟨g, 0, none⟩) (vs.length + n) cap, .int .i64 0, .int .i8 lr] 97 (0, 0)))
    (hg : w1.heap[g]? = some (.cells cur 5 (0, 0))) (hc : vs.length + n ≤ cap) (hm : cap ≤ maxLen) (hs : cur.size = cap) (ht : cur.toList.take vs.length = vs) :
    Put1 p G (vs ++ news) w (w1.setRow g (cur.toList.take vs.length ++ news ++ cur.toList.drop (vs.length + news.length)).toArray) := by
  refine ⟨some g, ⟨lr, .inr ⟨g, cap, (cur.toList.take vs.length ++ news ++ cur.toList.drop (vs.length + news.length)).toArray, rfl, hgp, by simp; omega, ?_, setRow_heap _ _ _ _ _ _ hg, by simp; omega, hm, ?_, ?_⟩⟩, ?_, ?_⟩
  · rw [setRow_other _ _ _ _ (by omega), hp, List.length_append, hn]
  · rw [ht]; simp; omega
  · rw [ht, List.take_left' (by simp)]
  · have hF : Fr (WF p G) w w1 := (hf0.trans hf fun _ _ x => x).mono fun _ _ x => .inl x
    refine hF.setRow (fun hlt => ?_) _
    rcases hG with rfl | hG
    · exact .inr rfl
    · omega
  · rintro k (rfl | hk)
    · exact .inl (.inl rfl)
    · cases hk
      rcases hG with rfl | hG
      · exact .inl (.inr rfl)
      · exact .inr (by omega)

theorem setRow_one {w : World} {g i : Nat} {cur : Array Value} {t : TypeId} (hg : w.heap[g]? = some (.cells cur t (0, 0))) (hi : i < cur.size) (u : Value) :
    w.setCell ⟨g, i, none⟩ u = w.setRow g (cur.toList.take i ++ [u] ++ cur.toList.drop (i + [u].length)).toArray := by
  have e : (cur.toList.take i ++ [u] ++ cur.toList.drop (i + [u].length)).toArray = cur.setIfInBounds i u := by
    apply Array.ext'
    rw [List.append_assoc]
    simp [List.set_eq_take_append_cons_drop, hi]
  rw [e]
  unfold World.setCell World.setRow
  have hlt := Lib.lt_of_heap hg
  congr 1
  apply Array.ext
  · simp
  · intro k h1 h2
    rw [Array.getElem_modify, Array.getElem_modify]
    by_cases hk : g = k
    · subst hk
      have : w.heap[g] = .cells cur t (0, 0) := by rw [Array.getElem?_eq_getElem hlt] at hg; exact Option.some.inj hg
      simp [this]
    · rw [if_neg hk, if_neg hk]

theorem lr_fr (p : Nat) (w : World) (x : Int) : Fr (OneB p) w (w.setCell ⟨p, 2, none⟩ (.int .i8 x)) := (Fr.refl (OneB p) w).setCell (p := ⟨p, 2, none⟩) (fun _ => rfl) _
theorem lr_size (p : Nat) (w : World) (x : Int) : (w.setCell ⟨p, 2, none⟩ (.int .i8 x)).heap.size = w.heap.size := by simp [World.setCell]

set_option maxHeartbeats 1600000 in
theorem writeByte (p : Nat) (G : Option Nat) (vs : List Value) (x : Int) (w : World) (h : WtrV w p G vs) (h1 : ∀ v ∈ vs, v.oneCell' = true) (hlim : vs.length + 1 ≤ 140737488355328) :
    Calls Tryd.prog 59 #[.pointer (some ⟨p, 0, none⟩), .int .u8 x] w fun e w' => e = .returned .nilIface ∧ Put1 p G (vs ++ [.int .u8 x]) w w' := by
  obtain ⟨v2, c2, f2⟩ := h.last
  have h' := last_set h 0
  have hf0 := lr_fr p w 0
  have HZ := Lib.hid (lr_size p w 0)
  have hT : ∀ W, WtrV W p G vs → Calls Tryd.prog 92 #[.pointer (some ⟨p, 0, none⟩), .int .i64 1] W _ := fun W hW => try_grow p 1 G vs W hW (Nat.le_refl _)
  go_enter Tryd.func59, Tryd.ntmps59
  go_wp2_with (go_at_call 92; refine (hT _ ?_).mono ?_)
  · exact h'
  clear hT h' c2 f2
  rintro e W1 (⟨rfl, xs, g, hx, hG, hW, hF⟩ | ⟨rfl, rfl, hg⟩)
  · obtain ⟨lr, cap, cur, hgp, hp, hgc, hc, hm, hs, ht⟩ := room_facts hx hW
    have d0 := (cells_of hp 0).1
    have hlt : vs.length < cur.size := by omega
    have dg : W1.cell? ⟨g, vs.length, none⟩ = some cur[vs.length] := by rw [Lib.cell_of_heap hgc, Array.getElem?_eq_getElem hlt]
    have fg : W1.frozen? ⟨g, vs.length, none⟩ = false := Lib.frozen_of_heap hgc _
    have hm' := hm
    unfold maxLen at hm'
    simp only [List.getElem?_toArray, List.getElem?_cons_zero] at d0
    have q := put_end (news := [.int .u8 x]) hG HZ.out hf0 hF hgp rfl (by simp) hp hgc hc hm hs ht
    rw [← setRow_one hgc hlt] at q
    clear hx hW ht hs
    go_wp2
    go_ret
    exact ⟨rfl, q⟩
  · have hG' := hg hlim h1
    clear hg
    go_wp2_with (go_at_call 93; refine hG'.mono ?_)
    clear hG'
    rintro e W1 ⟨rfl, xs, g, hx, hG, hW, hF⟩
    obtain ⟨lr, cap, cur, hgp, hp, hgc, hc, hm, hs, ht⟩ := room_facts hx hW
    have d0 := (cells_of hp 0).1
    have hlt : vs.length < cur.size := by omega
    have dg : W1.cell? ⟨g, vs.length, none⟩ = some cur[vs.length] := by rw [Lib.cell_of_heap hgc, Array.getElem?_eq_getElem hlt]
    have fg : W1.frozen? ⟨g, vs.length, none⟩ = false := Lib.frozen_of_heap hgc _
    have hm' := hm
    unfold maxLen at hm'
    simp only [List.getElem?_toArray, List.getElem?_cons_zero] at d0
    have q := put_end (news := [.int .u8 x]) hG HZ.out hf0 hF hgp rfl (by simp) hp hgc hc hm hs ht
    rw [← setRow_one hgc hlt] at q
    clear hx hW ht hs
    go_wp2
    go_ret
    exact ⟨rfl, q⟩

/-- What 'copy' into the buffer's place does. -/
theorem put_copy {p n g lo hi c : Nat} {A : Option Addr} {l : List UInt8} {G : Option Nat} {lr : Int} {vs : List Value} {cur : Array Value} {w w0 w1 : World} {cap : Nat} (hG : G = some g ∨ w0.heap.size ≤ g) (hsz : w0.heap.size = w.heap.size) (hf0 : Fr (OneB p) w w0) (hf : Fr (OneB p) w0 w1) (hgp : g ≠ p) (hn : l.length = n) (hn0 : 0 < n)
    (hp : w1.heap[p]? = some (.cells #[.slice (some ⟨g, 0, none⟩) (vs.length + n) cap, .int .i64 0, .int .i8 lr] 97 (0, 0)))
    (hg : w1.heap[g]? = some (.cells cur 5 (0, 0))) (hc : vs.length + n ≤ cap) (hm : cap ≤ maxLen) (hs : cur.size = cap) (ht : cur.toList.take vs.length = vs)
    (hr : Rd w lo hi A l) (hh : hi ≤ w.heap.size) (hpn : ¬ (lo ≤ p ∧ p < hi)) :
    ∃ W2, (Builtin.copy_ #[23, 23] 3 #[.slice (some ⟨g, vs.length, none⟩) n (cap - vs.length), .slice A n c]).run Tryd.prog w1 = .ok (goInt n) W2 ∧ Put1 p G (vs ++ bv l) w W2 := by
  have hF : Fr (OneB p) w w1 := hf0.trans hf fun _ _ x => x
  have hr1 : Rd w1 lo hi A l := hr.fr hF hh fun k h1 h2 e => hpn (by cases e; exact ⟨h1, h2⟩)
  obtain ⟨b, o, rfl, _, _, _⟩ := hr1 (by omega)
  have hinfo : (Tryd.prog.info? 5).map (·.size) = some 1 := by kernel_rfl
  have hcp := run_copy_row (P := Tryd.prog) w1 23 23 3 5 g vs.length n (cap - vs.length) ⟨b, o, none⟩ n c cur 5 (bv l) Tryd.underlying23 hinfo hg (by simp [hn]) (hr1.src rfl) (by simp; omega) (bv_one l)
  rw [bv_length, hn] at hcp
  refine ⟨_, hcp, ?_⟩
  have q := put_end (news := bv l) hG hsz hf0 hf hgp (by simpa using hn) hn0 hp hg hc hm hs ht
  rw [bv_length, hn] at q
  exact q

theorem put_copy_string {p g : Nat} (s : ByteArray) {G : Option Nat} {lr : Int} {vs : List Value} {cur : Array Value} {w w0 w1 : World} {cap : Nat} (hG : G = some g ∨ w0.heap.size ≤ g) (hsz : w0.heap.size = w.heap.size) (hf0 : Fr (OneB p) w w0) (hf : Fr (OneB p) w0 w1) (hgp : g ≠ p) (hn0 : 0 < s.size)
    (hp : w1.heap[p]? = some (.cells #[.slice (some ⟨g, 0, none⟩) (vs.length + s.size) cap, .int .i64 0, .int .i8 lr] 97 (0, 0)))
    (hg : w1.heap[g]? = some (.cells cur 5 (0, 0))) (hc : vs.length + s.size ≤ cap) (hm : cap ≤ maxLen) (hs : cur.size = cap) (ht : cur.toList.take vs.length = vs) :
    ∃ W2, (Builtin.copy_ #[23, 9] 3 #[.slice (some ⟨g, vs.length, none⟩) s.size (cap - vs.length), .string s]).run Tryd.prog w1 = .ok (goInt s.size) W2 ∧ Put1 p G (vs ++ bv s.data.toList) w W2 := by
  have hinfo : (Tryd.prog.info? 5).map (·.size) = some 1 := by kernel_rfl
  have hcp := Lib.run_copy_row_string (P := Tryd.prog) w1 23 9 3 5 g vs.length s.size (cap - vs.length) s cur 5 Tryd.underlying23 hinfo hg (Nat.le_refl _) (by omega)
  have hl : s.data.toList.length = s.size := by rw [Array.length_toList]; rfl
  refine ⟨_, hcp, ?_⟩
  have q := put_end (news := bv s.data.toList) hG hsz hf0 hf hgp (by rw [bv_length, hl]) hn0 hp hg hc hm hs ht
  rw [bv_length, hl] at q
  exact q

set_option maxHeartbeats 1600000 in
theorem write_pos (p : Nat) (G : Option Nat) (vs : List Value) (l : List UInt8) (n : Nat) (A : Option Addr) (c lo hi : Nat) (w : World) (h : WtrV w p G vs) (h1 : ∀ v ∈ vs, v.oneCell' = true) (hlim : vs.length + n ≤ 140737488355328) (hn : l.length = n) (hn0 : 0 < n) (hr : Rd w lo hi A l) (hh : hi ≤ w.heap.size) (hpn : ¬ (lo ≤ p ∧ p < hi)) :
    Calls Tryd.prog 94 #[.pointer (some ⟨p, 0, none⟩), .slice A n c] w fun e w' => e = .returned (.tuple #[.int .i64 n, .nilIface]) ∧ Put1 p G (vs ++ bv l) w w' := by
  obtain ⟨v2, c2, f2⟩ := h.last
  have h' := last_set h 0
  have hf0 := lr_fr p w 0
  have HZ := Lib.hid (lr_size p w 0)
  have HN := Lib.hid hn
  clear hn
  go_enter Tryd.func94, Tryd.ntmps94
  go_wp2_with (go_at_call 92; refine (try_grow p n G vs _ ?_ hn0).mono ?_)
  · exact h'
  clear h' c2 f2
  rintro e W1 (⟨rfl, xs, g, hx, hG, hW, hF⟩ | ⟨rfl, rfl, hg⟩)
  · obtain ⟨lr, cap, cur, hgp, hp, hgc, hc, hm, hs, ht⟩ := room_facts hx hW
    have d0 := (cells_of hp 0).1
    have hm' := hm
    unfold maxLen at hm'
    simp only [List.getElem?_toArray, List.getElem?_cons_zero] at d0
    have hne : ¬ cap = vs.length := by omega
    obtain ⟨W2, hcp, q⟩ := put_copy (A := A) (l := l) (c := c) hG HZ.out hf0 hF hgp HN.out hn0 hp hgc hc hm hs ht hr hh hpn
    clear hx hW ht hs
    go_wp2
    go_ret2
    exact ⟨rfl, q⟩
  · have hG' := hg hlim h1
    clear hg
    go_wp2_with (go_at_call 93; refine hG'.mono ?_)
    clear hG'
    rintro e W1 ⟨rfl, xs, g, hx, hG, hW, hF⟩
    obtain ⟨lr, cap, cur, hgp, hp, hgc, hc, hm, hs, ht⟩ := room_facts hx hW
    have d0 := (cells_of hp 0).1
    have hm' := hm
    unfold maxLen at hm'
    simp only [List.getElem?_toArray, List.getElem?_cons_zero] at d0
    have hne : ¬ cap = vs.length := by omega
    obtain ⟨W2, hcp, q⟩ := put_copy (A := A) (l := l) (c := c) hG HZ.out hf0 hF hgp HN.out hn0 hp hgc hc hm hs ht hr hh hpn
    clear hx hW ht hs
    go_wp2
    go_ret2
    exact ⟨rfl, q⟩

set_option maxHeartbeats 1600000 in
theorem writeString_pos (p : Nat) (G : Option Nat) (vs : List Value) (s : ByteArray) (w : World) (h : WtrV w p G vs) (h1 : ∀ v ∈ vs, v.oneCell' = true) (hlim : vs.length + s.size ≤ 140737488355328) (hn0 : 0 < s.size) :
    Calls Tryd.prog 85 #[.pointer (some ⟨p, 0, none⟩), .string s] w fun e w' => e = .returned (.tuple #[(.int .i64 s.size), .nilIface]) ∧ Put1 p G (vs ++ bv s.data.toList) w w' := by
  obtain ⟨v2, c2, f2⟩ := h.last
  have h' := last_set h 0
  have hf0 := lr_fr p w 0
  have HZ := Lib.hid (lr_size p w 0)
  go_enter Tryd.func85, Tryd.ntmps85
  go_wp2_with (go_at_call 92; refine (try_grow p s.size G vs _ ?_ hn0).mono ?_)
  · exact h'
  clear h' c2 f2
  rintro e W1 (⟨rfl, xs, g, hx, hG, hW, hF⟩ | ⟨rfl, rfl, hg⟩)
  · obtain ⟨lr, cap, cur, hgp, hp, hgc, hc, hm, hs, ht⟩ := room_facts hx hW
    have d0 := (cells_of hp 0).1
    have hm' := hm
    unfold maxLen at hm'
    simp only [List.getElem?_toArray, List.getElem?_cons_zero] at d0
    have hne : ¬ cap = vs.length := by omega
    obtain ⟨W2, hcp, q⟩ := put_copy_string s hG HZ.out hf0 hF hgp hn0 hp hgc hc hm hs ht
    clear hx hW ht hs
    go_wp2
    go_ret2
    exact ⟨rfl, q⟩
  · have hG' := hg hlim h1
    clear hg
    go_wp2_with (go_at_call 93; refine hG'.mono ?_)
    clear hG'
    rintro e W1 ⟨rfl, xs, g, hx, hG, hW, hF⟩
    obtain ⟨lr, cap, cur, hgp, hp, hgc, hc, hm, hs, ht⟩ := room_facts hx hW
    have d0 := (cells_of hp 0).1
    have hm' := hm
    unfold maxLen at hm'
    simp only [List.getElem?_toArray, List.getElem?_cons_zero] at d0
    have hne : ¬ cap = vs.length := by omega
    obtain ⟨W2, hcp, q⟩ := put_copy_string s hG HZ.out hf0 hF hgp hn0 hp hgc hc hm hs ht
    clear hx hW ht hs
    go_wp2
    go_ret2
    exact ⟨rfl, q⟩

theorem try_grow0 (p : Nat) (G : Option Nat) (vs : List Value) (w : World) (h : WtrV w p G vs) :
    Calls Tryd.prog 92 #[.pointer (some ⟨p, 0, none⟩), .int .i64 0] w fun e w' =>
      e = .returned (.tuple #[.int .i64 vs.length, .bool true]) ∧ WtrV w' p G vs ∧ Fr (OneB p) w w' := by
  obtain ⟨lr, h | ⟨g, cap, cur, rfl, hgp, hl, hp, hg, hlc, hm, hs, ht⟩⟩ := h
  · obtain ⟨rfl, rfl, hp⟩ := h
    refine (Tryd.Buffer_tryGrow_room p none 0 0 0 w (cells_of hp 0).1 (cells_of hp 0).2 (Nat.le_refl _) (Nat.zero_le _) (Nat.zero_le _)).mono ?_
    rintro e w' ⟨rfl, rfl⟩
    exact ⟨rfl, ⟨lr, .inl ⟨rfl, rfl, by rw [heap_set hp]; rfl⟩⟩, (Fr.refl (OneB p) _).setCell (p := ⟨p, 0, none⟩) (fun _ => rfl) _⟩
  · refine (Tryd.Buffer_tryGrow_room p _ vs.length cap 0 w (cells_of hp 0).1 (cells_of hp 0).2 hlc hm (Nat.zero_le _)).mono ?_
    rintro e w' ⟨rfl, rfl⟩
    exact ⟨rfl, ⟨lr, .inr ⟨g, cap, cur, rfl, hgp, hl, by rw [heap_set hp]; rfl, by rw [heap_far hgp, hg], hlc, hm, hs, ht⟩⟩, (Fr.refl (OneB p) _).setCell (p := ⟨p, 0, none⟩) (fun _ => rfl) _⟩

set_option maxHeartbeats 800000 in
theorem write_none (p : Nat) (G : Option Nat) (vs : List Value) (A : Option Addr) (c : Nat) (w : World) (h : WtrV w p G vs) :
    Calls Tryd.prog 94 #[.pointer (some ⟨p, 0, none⟩), .slice A 0 c] w fun e w' => e = .returned (.tuple #[.int .i64 0, .nilIface]) ∧ Put1 p G vs w w' := by
  obtain ⟨v2, c2, f2⟩ := h.last
  have h' := last_set h 0
  have hf0 := lr_fr p w 0
  have hinfo : (Tryd.prog.info? 5).map (·.size) = some 1 := by kernel_rfl
  have hce : ∀ d dLen dCap W, (Builtin.copy_ #[23, 23] 3 #[.slice d dLen dCap, .slice A 0 c]).run Tryd.prog W = .ok (goInt 0) W := fun d dLen dCap W => run_copy_none W 23 23 3 5 d A dLen dCap 0 c Tryd.underlying23 hinfo (by simp)
  clear hinfo
  go_enter Tryd.func94, Tryd.ntmps94
  go_wp2_with (go_at_call 92; refine (try_grow0 p G vs _ ?_).mono ?_)
  · exact h'
  clear h' c2 f2
  rintro e W1 ⟨rfl, hW, hF⟩
  have q : Put1 p G vs w W1 := ⟨G, hW, (hf0.trans hF fun _ _ x => x).mono fun _ _ x => .inl x, fun k hk => .inl hk⟩
  obtain ⟨lr, h2 | ⟨g, cap, cur, rfl, hgp, hl, hp, hg, hlc, hm, hs, ht⟩⟩ := hW
  · obtain ⟨rfl, rfl, hp⟩ := h2
    have d0 := (cells_of hp 0).1
    simp only [List.getElem?_toArray, List.getElem?_cons_zero] at d0
    go_wp2
    all_goals (go_ret2; exact ⟨rfl, q⟩)
  · have d0 := (cells_of hp 0).1
    simp only [List.getElem?_toArray, List.getElem?_cons_zero] at d0
    unfold maxLen at hm
    clear hs ht hp hg
    go_wp2
    all_goals (go_ret2; exact ⟨rfl, q⟩)

set_option maxHeartbeats 800000 in
theorem writeString_none (p : Nat) (G : Option Nat) (vs : List Value) (s : ByteArray) (hs0 : s.size = 0) (w : World) (h : WtrV w p G vs) :
    Calls Tryd.prog 85 #[.pointer (some ⟨p, 0, none⟩), .string s] w fun e w' => e = .returned (.tuple #[.int .i64 0, .nilIface]) ∧ Put1 p G vs w w' := by
  obtain ⟨v2, c2, f2⟩ := h.last
  have h' := last_set h 0
  have hf0 := lr_fr p w 0
  have hinfo : (Tryd.prog.info? 5).map (·.size) = some 1 := by kernel_rfl
  have hce : ∀ d dLen dCap W, (Builtin.copy_ #[23, 9] 3 #[.slice d dLen dCap, .string s]).run Tryd.prog W = .ok (goInt 0) W := fun d dLen dCap W => Lib.run_copy_empty_string W 23 9 3 5 d dLen dCap s Tryd.underlying23 (by rw [hinfo]; rfl) hs0
  clear hinfo
  go_enter Tryd.func85, Tryd.ntmps85
  go_wp2_with (go_at_call 92; refine (try_grow0 p G vs _ ?_).mono ?_)
  · exact h'
  clear h' c2 f2
  rintro e W1 ⟨rfl, hW, hF⟩
  have q : Put1 p G vs w W1 := ⟨G, hW, (hf0.trans hF fun _ _ x => x).mono fun _ _ x => .inl x, fun k hk => .inl hk⟩
  obtain ⟨lr, h2 | ⟨g, cap, cur, rfl, hgp, hl, hp, hg, hlc, hm, hs, ht⟩⟩ := hW
  · obtain ⟨rfl, rfl, hp⟩ := h2
    have d0 := (cells_of hp 0).1
    simp only [List.getElem?_toArray, List.getElem?_cons_zero] at d0
    go_wp2
    all_goals (go_ret2; exact ⟨rfl, q⟩)
  · have d0 := (cells_of hp 0).1
    simp only [List.getElem?_toArray, List.getElem?_cons_zero] at d0
    unfold maxLen at hm
    clear hs ht hp hg
    go_wp2
    all_goals (go_ret2; exact ⟨rfl, q⟩)

/-- Write, of any bytes that do not lie in the writer's own block. -/
theorem write_any (p : Nat) (G : Option Nat) (vs : List Value) (l : List UInt8) (A : Option Addr) (c lo hi : Nat) (w : World) (h : WtrV w p G vs) (h1 : ∀ v ∈ vs, v.oneCell' = true) (hlim : vs.length + l.length ≤ 140737488355328) (hr : Rd w lo hi A l) (hh : hi ≤ w.heap.size) (hpn : ¬ (lo ≤ p ∧ p < hi)) :
    Calls Tryd.prog 94 #[.pointer (some ⟨p, 0, none⟩), .slice A l.length c] w fun e w' => e = .returned (.tuple #[.int .i64 l.length, .nilIface]) ∧ Put1 p G (vs ++ bv l) w w' := by
  cases l with
  | nil => simpa using write_none p G vs A c w h
  | cons x l => exact write_pos p G vs (x :: l) _ A c lo hi w h h1 hlim rfl (by simp) hr hh hpn

theorem writeString_any (p : Nat) (G : Option Nat) (vs : List Value) (s : ByteArray) (w : World) (h : WtrV w p G vs) (h1 : ∀ v ∈ vs, v.oneCell' = true) (hlim : vs.length + s.size ≤ 140737488355328) :
    Calls Tryd.prog 85 #[.pointer (some ⟨p, 0, none⟩), .string s] w fun e w' => e = .returned (.tuple #[.int .i64 s.size, .nilIface]) ∧ Put1 p G (vs ++ bv s.data.toList) w w' := by
  by_cases h0 : s.size = 0
  · have e : s.data.toList = [] := by
      have : s.data.toList.length = s.size := by rw [Array.length_toList]; rfl
      exact List.eq_nil_of_length_eq_zero (by omega)
    rw [e, h0]
    simpa using writeString_none p G vs s h0 w h
  · exact writeString_pos p G vs s w h h1 hlim (by omega)

set_option maxHeartbeats 400000 in
theorem buf_bytes (p : Nat) (A : Option Addr) (n c : Nat) (lr : Int) (w : World) (_hn : n ≤ c) (_hc : c ≤ maxLen) (h : w.heap[p]? = some (.cells #[.slice A n c, .int .i64 0, .int .i8 lr] 97 (0, 0))) :
    Calls Tryd.prog 67 #[.pointer (some ⟨p, 0, none⟩)] w fun e w' => e = .returned (.slice A n c) ∧ ∃ k, w' = w.drewN k := by
  have c0 : w.cell? ⟨p, 0, none⟩ = some (.slice A n c) := by rw [Lib.cell_of_heap h]; rfl
  have c1 : w.cell? ⟨p, 1, none⟩ = some (.int .i64 0) := by rw [Lib.cell_of_heap h]; rfl
  clear h
  unfold maxLen at _hc
  go_enter Tryd.func67, Tryd.ntmps67
  go_wp2
  go_quiet (fail)
  go_wp2
  all_goals (go_ret; exact ⟨rfl, _, rfl⟩)

end Go.Proofs.YtlckgkpgllhpbaaDoor
