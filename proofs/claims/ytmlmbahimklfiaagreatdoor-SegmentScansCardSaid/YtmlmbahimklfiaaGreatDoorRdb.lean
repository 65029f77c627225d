/-
  Rdb: Bufw, Wtr, Rdb.
-/
import Derived.Test.YtmlmbahimklfiaaGreatDoorBase
import Derived.Test.YtmlmbahimklfiaaGreatDoorShelf
import Derived.Test.YtmlmbahimklfiaaGreatDoorRows
import Derived.Lib.BufferWrite
import Derived.Laws.CopyRow
import Derived.Laws.IdiomCopy
import Derived.Test.YtmlmbahimklfiaaGreatDoorTurp
/- Bufw -/
namespace Go.Proofs.YtmlmbahimklfiaaGreatDoor
open Go.RowKit

/-- Block p is a wire.Writer that has only been written and holds the cells vs; its row is block G. -/
def WtrV (w : World) (p : Nat) (G : Option Nat) (vs : List Value) : Prop :=
  ∃ lr : Int, (G = none ∧ vs = [] ∧ w.heap[p]? = some (.cells #[.slice none 0 0, .int .i64 0, .int .i8 lr] 149 (0, 0))) ∨
    (∃ g cap cur, G = some g ∧ g ≠ p ∧ 0 < vs.length ∧ w.heap[p]? = some (.cells #[.slice (some ⟨g, 0, none⟩) vs.length cap, .int .i64 0, .int .i8 lr] 149 (0, 0)) ∧
      w.heap[g]? = some (.cells cur 5 (0, 0)) ∧ vs.length ≤ cap ∧ cap ≤ maxLen ∧ cur.size = cap ∧ cur.toList.take vs.length = vs)

/-- The blocks that a writer may touch. -/
def WF (p : Nat) (G : Option Nat) : Nat → Prop := fun k => k = p ∨ G = some k

theorem WtrV.keep {w w' : World} {p : Nat} {G : Option Nat} {vs : List Value} (h : WtrV w p G vs) (hs : ∀ k, WF p G k → w'.heap[k]? = w.heap[k]?) : WtrV w' p G vs := by
  obtain ⟨lr, h | ⟨g, cap, cur, rfl, h1, h2, h3, h4, h5⟩⟩ := h
  · exact ⟨lr, .inl ⟨h.1, h.2.1, (hs p (.inl rfl)).trans h.2.2⟩⟩
  · exact ⟨lr, .inr ⟨g, cap, cur, rfl, h1, h2, (hs p (.inl rfl)).trans h3, (hs g (.inr rfl)).trans h4, h5⟩⟩
theorem WtrV.fr {M : Nat → Prop} {w w' : World} {p : Nat} {G : Option Nat} {vs : List Value} (h : WtrV w p G vs) (hf : Fr M w w') (hm : ∀ k, WF p G k → ¬ M k) : WtrV w' p G vs := by
  refine h.keep fun k hk => hf.block k ?_ (hm k hk)
  obtain ⟨lr, h | ⟨g, cap, cur, rfl, h1, h2, h3, h4, h5⟩⟩ := h
  · obtain ⟨rfl, _, h⟩ := h
    rcases hk with rfl | hk
    · exact Lib.lt_of_heap h
    · cases hk
  · rcases hk with rfl | hk
    · exact Lib.lt_of_heap h3
    · cases hk; exact Lib.lt_of_heap h4
theorem WtrV.lt {w : World} {p : Nat} {G : Option Nat} {vs : List Value} (h : WtrV w p G vs) {k : Nat} (hk : WF p G k) : k < w.heap.size := by
  obtain ⟨lr, h | ⟨g, cap, cur, rfl, h1, h2, h3, h4, h5⟩⟩ := h
  · obtain ⟨rfl, _, h⟩ := h
    rcases hk with rfl | hk
    · exact Lib.lt_of_heap h
    · cases hk
  · rcases hk with rfl | hk
    · exact Lib.lt_of_heap h3
    · cases hk; exact Lib.lt_of_heap h4
theorem WtrV.drewN {w : World} {p : Nat} {G : Option Nat} {vs : List Value} (h : WtrV w p G vs) (n : Nat) : WtrV (w.drewN n) p G vs := h
theorem WtrV.new (w : World) : WtrV (w.alloc (.cells #[.slice none 0 0, .int .i64 0, .int .i8 0] 149)) w.heap.size none [] :=
  ⟨0, .inl ⟨rfl, rfl, heap_alloc_new w _⟩⟩

set_option maxHeartbeats 400000 in
theorem buf_len (p : Nat) (A : Option Addr) (n c : Nat) (lr : Int) (w : World) (hn : n ≤ maxLen) (h : w.heap[p]? = some (.cells #[.slice A n c, .int .i64 0, .int .i8 lr] 149 (0, 0))) :
    Calls Tryz.prog 178 #[.pointer (some ⟨p, 0, none⟩)] w fun e w' => e = .returned (.int .i64 n) ∧ ∃ k, w' = w.drewN k := by
  have c0 : w.cell? ⟨p, 0, none⟩ = some (.slice A n c) := by rw [Lib.cell_of_heap h]; rfl
  have c1 : w.cell? ⟨p, 1, none⟩ = some (.int .i64 0) := by rw [Lib.cell_of_heap h]; rfl
  clear h
  unfold maxLen at hn
  go_enter Tryz.func178, Tryz.ntmps178
  go_wp2
  go_quiet (fail)
  go_wp2
  go_ret
  exact ⟨rfl, _, rfl⟩

theorem cells_of {w : World} {p : Nat} {cs : Array Value} {t : TypeId} (h : w.heap[p]? = some (.cells cs t (0, 0))) (i : Nat) : w.cell? ⟨p, i, none⟩ = cs[i]? ∧ w.frozen? ⟨p, i, none⟩ = false :=
  ⟨Lib.cell_of_heap h i, Lib.frozen_of_heap h i⟩
theorem heap_set {w : World} {p i : Nat} {cs : Array Value} {t : TypeId} {fr : Nat × Nat} (h : w.heap[p]? = some (.cells cs t fr)) (u : Value) : (w.setCell ⟨p, i, none⟩ u).heap[p]? = some (.cells (cs.setIfInBounds i u) t fr) := by
  simp [World.setCell, Array.getElem?_modify, h]
theorem heap_far {w : World} {p k : Nat} (h : k ≠ p) (i : Nat) (u : Value) : (w.setCell ⟨p, i, none⟩ u).heap[k]? = w.heap[k]? := Below.heap_setCell w ⟨p, i, none⟩ u k h

/-- What the buffer is behind grow: the old cells, and n more of whatever. -/
def Grown1 (p n : Nat) (vs : List Value) (w w' : World) : Prop :=
  ∃ xs g, xs.length = n ∧ w.heap.size ≤ g ∧ WtrV w' p (some g) (vs ++ xs) ∧ Fr (OneB p) w w'

theorem grown1_end {p n l N cap2 : Nat} {vs : List Value} {w w2 : World} {lr : Int} {A : Value} {cells : Array Value} (hl : vs.length = l) (hn : 0 < n)
    (hp : w2.heap[p]? = some (.cells #[A, .int .i64 0, .int .i8 lr] 149 (0, 0))) (hN : w2.heap[N]? = some (.cells cells 5 (0, 0))) (hNp : N ≠ p) (hNs : w.heap.size ≤ N)
    (hcs : cells.size = cap2) (htk : cells.toList.take l = vs) (hcap : l + n ≤ cap2) (hm : cap2 ≤ maxLen) (hf : Fr (OneB p) w w2) (V1 : Value) :
    Grown1 p n vs w (((w2.setCell ⟨p, 0, none⟩ V1).setCell ⟨p, 1, none⟩ (.int .i64 0)).setCell ⟨p, 0, none⟩ (.slice (some ⟨N, 0, none⟩) (l + n) cap2)) := by
  have e : vs ++ (cells.toList.take (l + n)).drop l = cells.toList.take (l + n) := by
    rw [← htk]
    have := List.take_append_drop l (cells.toList.take (l + n))
    rwa [List.take_take, Nat.min_eq_left (by omega)] at this
  have hlen : (cells.toList.take (l + n)).length = l + n := by simp; omega
  refine ⟨(cells.toList.take (l + n)).drop l, N, by rw [List.length_drop, hlen]; omega, hNs, ?_, ?_⟩
  · rw [e]
    refine ⟨lr, .inr ⟨N, cap2, cells, rfl, hNp, by omega, ?_, ?_, by omega, hm, hcs, by rw [hlen]⟩⟩
    · rw [hlen, heap_set (heap_set (heap_set hp _) _) _]; rfl
    · rw [heap_far hNp, heap_far hNp, heap_far hNp, hN]
  · exact ((hf.setCell (p := ⟨p, 0, none⟩) (fun _ => rfl) _).setCell (p := ⟨p, 1, none⟩) (fun _ => rfl) _).setCell (p := ⟨p, 0, none⟩) (fun _ => rfl) _

set_option maxHeartbeats 1600000 in
theorem grow_row (p g cap n : Nat) (lr : Int) (cur : Array Value) (vs : List Value) (w : World)
    (hp : w.heap[p]? = some (.cells #[.slice (some ⟨g, 0, none⟩) vs.length cap, .int .i64 0, .int .i8 lr] 149 (0, 0)))
    (hg : w.heap[g]? = some (.cells cur 5 (0, 0))) (hlc : vs.length ≤ cap) (hcm : cap ≤ maxLen) (hcs : cur.size = cap) (htk : cur.toList.take vs.length = vs) (hl0 : 0 < vs.length)
    (h1 : ∀ v ∈ vs, v.oneCell' = true) (hn : 1 ≤ n) (hroom : cap - vs.length < n) (hlim : vs.length + n ≤ 140737488355328) :
    Calls Tryz.prog 162 #[.pointer (some ⟨p, 0, none⟩), .int .i64 n] w fun e w' => e = .returned (.int .i64 vs.length) ∧ Grown1 p n vs w w' := by
  have hnil : ∀ W, (binOp .eql 24 (.slice (some ⟨g, 0, none⟩) vs.length cap) (.slice none 0 0)).run Tryz.prog W = .ok (.bool false) W := fun W => Lib.run_eql_slice_some_nil W _ _ _ Tryz.underlying24
  generalize hl : vs.length = l at *
  have HL := Lib.hid hl; clear hl
  go_enter Tryz.func162, Tryz.ntmps162
  go_wp2_with (go_at_call 178; refine (buf_len p _ l cap lr _ (by omega) hp).mono ?_)
  rintro e W0 ⟨rfl, k, hW0⟩
  have hp0 : W0.heap[p]? = some (.cells #[.slice (some ⟨g, 0, none⟩) l cap, .int .i64 0, .int .i8 lr] 149 (0, 0)) := by rw [hW0]; exact hp
  have hg0 : W0.heap[g]? = some (.cells cur 5 (0, 0)) := by rw [hW0]; exact hg
  have hF0 : Fr (OneB p) w W0 := by rw [hW0]; exact (Fr.refl _ _).drewN _
  have hsz : W0.heap.size = w.heap.size := by rw [hW0]; rfl
  have HZ := Lib.hid hsz
  clear hW0 hsz hp hg
  have c0 : W0.cell? ⟨p, 0, none⟩ = some (.slice (some ⟨g, 0, none⟩) l cap) := (cells_of hp0 0).1
  have c1 : W0.cell? ⟨p, 1, none⟩ = some (.int .i64 0) := (cells_of hp0 1).1
  have f0 : W0.frozen? ⟨p, 0, none⟩ = false := (cells_of hp0 0).2
  have f1 : W0.frozen? ⟨p, 1, none⟩ = false := (cells_of hp0 1).2
  have hcm' := hcm
  unfold maxLen at hcm'
  go_wp2_with (go_at_call 161; refine (Tryz.Buffer_tryGrow_none_at p 0 _ l cap n _ c0 hlc hcm hroom).mono ?_; rintro e w' ⟨rfl, rfl⟩)
  have hc2 : cap ≤ 140737488355328 := by omega
  have h1' : ∀ v ∈ cur.toList.take l, v.oneCell' = true := by rw [htk]; exact h1
  have hpW := Lib.lt_of_heap hp0
  have hwn : IntKind.i64.wrap (n : Int) = n := by rw [IntKind.wrap_i64]; omega
  go_region_with (
      go_at_call 180
      refine (Tryz.bytes_growSlice_row g l cap n cur _ ?_ hcs hlc hn hlim hc2 h1').mono ?_
      exact hg0
      rintro e w2 ⟨cap2, cells, rfl, hN, hcsz, htk2, hcap2, hcm2, hbel⟩
      have hp2 := (hbel.block p hpW).trans hp0
      have d0 : w2.cell? ⟨p, 0, none⟩ = some (.slice (some ⟨g, 0, none⟩) l cap) := (cells_of hp2 0).1
      have d1 : w2.cell? ⟨p, 1, none⟩ = some (.int .i64 0) := (cells_of hp2 1).1
      have e0 : w2.frozen? ⟨p, 0, none⟩ = false := (cells_of hp2 0).2
      have e1 : w2.frozen? ⟨p, 1, none⟩ = false := (cells_of hp2 1).2)
  all_goals (
    go_wp2
    go_ret
    have hZ : w'.heap.size = w.heap.size := HZ.out
    exact ⟨rfl, grown1_end HL.out (by omega) hp2 hN (by show w'.heap.size ≠ p; omega) (by show w.heap.size ≤ w'.heap.size; omega) hcsz (htk2.trans htk) hcap2 hcm2 ((hF0.drew).trans (Fr.ofBelow (M := NoB) hbel) fun _ _ x => x.elim) _⟩)

theorem info_u8 : (Tryz.prog.info? 5).map (fun i => (i.zero, i.size, i.bytes)) = some (some (.int .u8 0), 1, 1) := by kernel_rfl

theorem grown1_small {p n : Nat} {w W0 : World} {lr : Int} {M : Array Value} (hn : 0 < n) (h64 : n ≤ 64) (hM : M.size = 64)
    (hp : W0.heap[p]? = some (.cells #[.slice none 0 0, .int .i64 0, .int .i8 lr] 149 (0, 0))) (hf : Fr (OneB p) w W0) :
    Grown1 p n [] w ((W0.setCell ⟨p, 0, none⟩ (.slice (some ⟨W0.heap.size, 0, none⟩) n 64)).alloc (.cells M 5)) := by
  have hs : (W0.setCell ⟨p, 0, none⟩ (.slice (some ⟨W0.heap.size, 0, none⟩) n 64)).heap.size = W0.heap.size := by simp [World.setCell]
  have hlt := Lib.lt_of_heap hp
  refine ⟨M.toList.take n, W0.heap.size, by simp; omega, hf.size, ?_, (hf.setCell (p := ⟨p, 0, none⟩) (fun _ => rfl) _).alloc _⟩
  have hlen : (M.toList.take n).length = n := by simp; omega
  rw [List.nil_append]
  refine ⟨lr, .inr ⟨W0.heap.size, 64, M, rfl, by omega, by omega, ?_, ?_, by omega, by unfold maxLen; omega, hM, by rw [hlen]⟩⟩
  · rw [hlen, Below.heap_alloc _ _ _ (by omega), heap_set hp]; rfl
  · have := heap_alloc_new (W0.setCell ⟨p, 0, none⟩ (.slice (some ⟨W0.heap.size, 0, none⟩) n 64)) (.cells M 5)
    rwa [hs] at this

set_option maxHeartbeats 1600000 in
theorem grow_nil_small (p n : Nat) (lr : Int) (w : World) (hp : w.heap[p]? = some (.cells #[.slice none 0 0, .int .i64 0, .int .i8 lr] 149 (0, 0))) (hn : 1 ≤ n) (h64 : n ≤ 64) :
    Calls Tryz.prog 162 #[.pointer (some ⟨p, 0, none⟩), .int .i64 n] w fun e w' => e = .returned (.int .i64 0) ∧ Grown1 p n [] w w' := by
  obtain ⟨i0, hi, hz0, hz1, hz2⟩ := info_parts info_u8
  obtain ⟨M, hM⟩ : ∃ M, M = madeCells (Value.int .u8 0).cells ((64 : Int).toNat * i0.size) := ⟨_, rfl⟩
  have hMs : M.size = 64 := by rw [hM, size_madeCells, hz1]; rfl
  have hmk : ∀ W : World, (Instr.makeSlice 24 (.int .i64 (n : Int)) (.int .i64 64)).run Tryz.prog W = .ok (.slice (some ⟨W.heap.size, 0, none⟩) n 64) (W.alloc (.cells M 5)) := fun W => by
    have h := run_makeSlice (P := Tryz.prog) W 24 5 i0 (.int .u8 0) Tryz.underlying24 hi hz0 .i64 .i64 (n : Int) 64 (by omega) (by omega) (by rw [hz1]; decide) (by rw [hz2]; decide) (by decide)
    rw [← hM] at h
    simpa using h
  clear hM hz0 hz1 hz2 hi
  have hnil : ∀ W, (binOp .eql 24 (.slice none 0 0) (.slice none 0 0)).run Tryz.prog W = .ok (.bool true) W := fun W => Lib.run_eql_slice_nil_nil W _ _ Tryz.underlying24
  go_enter Tryz.func162, Tryz.ntmps162
  go_wp2_with (go_at_call 178; refine (buf_len p _ 0 0 lr _ (by omega) hp).mono ?_)
  rintro e W0 ⟨rfl, k, hW0⟩
  have hp0 : W0.heap[p]? = some (.cells #[.slice none 0 0, .int .i64 0, .int .i8 lr] 149 (0, 0)) := by rw [hW0]; exact hp
  have hF0 : Fr (OneB p) w W0 := by rw [hW0]; exact (Fr.refl _ _).drewN _
  clear hW0 hp
  have c0 : W0.cell? ⟨p, 0, none⟩ = some (.slice none 0 0) := (cells_of hp0 0).1
  have c1 : W0.cell? ⟨p, 1, none⟩ = some (.int .i64 0) := (cells_of hp0 1).1
  have f0 : W0.frozen? ⟨p, 0, none⟩ = false := (cells_of hp0 0).2
  have f1 : W0.frozen? ⟨p, 1, none⟩ = false := (cells_of hp0 1).2
  have hbW0 := Lib.lt_of_heap hp0
  have c0a : ∀ o, (W0.alloc o).cell? ⟨p, 0, none⟩ = some (.slice none 0 0) := fun o => (World.cell?_of_block (a := ⟨p, 0, none⟩) (Below.heap_alloc W0 o p hbW0)).trans c0
  have f0a : ∀ o, (W0.alloc o).frozen? ⟨p, 0, none⟩ = false := fun o => (World.frozen?_of_block (a := ⟨p, 0, none⟩) (Below.heap_alloc W0 o p hbW0)).trans f0
  go_wp2_with (go_at_call 161; refine (Tryz.Buffer_tryGrow_none_at p 0 _ 0 0 n _ c0 (Nat.le_refl _) (Nat.zero_le _) (by omega)).mono ?_; rintro e w' ⟨rfl, rfl⟩)
  go_ret
  exact ⟨rfl, grown1_small (by omega) h64 hMs hp0 hF0⟩

set_option maxHeartbeats 1600000 in
theorem grow_nil_big (p n : Nat) (lr : Int) (w : World) (hp : w.heap[p]? = some (.cells #[.slice none 0 0, .int .i64 0, .int .i8 lr] 149 (0, 0))) (h64 : 64 < n) (hlim : n ≤ 140737488355328) :
    Calls Tryz.prog 162 #[.pointer (some ⟨p, 0, none⟩), .int .i64 n] w fun e w' => e = .returned (.int .i64 0) ∧ Grown1 p n [] w w' := by
  have hnil : ∀ W, (binOp .eql 24 (.slice none 0 0) (.slice none 0 0)).run Tryz.prog W = .ok (.bool true) W := fun W => Lib.run_eql_slice_nil_nil W _ _ Tryz.underlying24
  go_enter Tryz.func162, Tryz.ntmps162
  go_wp2_with (go_at_call 178; refine (buf_len p _ 0 0 lr _ (by omega) hp).mono ?_)
  rintro e W0 ⟨rfl, k, hW0⟩
  have hp0 : W0.heap[p]? = some (.cells #[.slice none 0 0, .int .i64 0, .int .i8 lr] 149 (0, 0)) := by rw [hW0]; exact hp
  have hF0 : Fr (OneB p) w W0 := by rw [hW0]; exact (Fr.refl _ _).drewN _
  have hsz : W0.heap.size = w.heap.size := by rw [hW0]; rfl
  have HZ := Lib.hid hsz
  clear hW0 hsz hp
  have c0 : W0.cell? ⟨p, 0, none⟩ = some (.slice none 0 0) := (cells_of hp0 0).1
  have c1 : W0.cell? ⟨p, 1, none⟩ = some (.int .i64 0) := (cells_of hp0 1).1
  have f0 : W0.frozen? ⟨p, 0, none⟩ = false := (cells_of hp0 0).2
  have f1 : W0.frozen? ⟨p, 1, none⟩ = false := (cells_of hp0 1).2
  go_wp2_with (go_at_call 161; refine (Tryz.Buffer_tryGrow_none_at p 0 _ 0 0 n _ c0 (Nat.le_refl _) (Nat.zero_le _) (by omega)).mono ?_; rintro e w' ⟨rfl, rfl⟩)
  have hpW := Lib.lt_of_heap hp0
  have hwn : IntKind.i64.wrap (n : Int) = n := by rw [IntKind.wrap_i64]; omega
  go_region_with (
      go_at_call 180
      refine (Tryz.bytes_growSlice_nil n _ (by omega) hlim).mono ?_
      rintro e w2 ⟨cap2, cells, rfl, hN, hcsz, hcap2, hcm2, hbel⟩
      have hp2 := (hbel.block p hpW).trans hp0
      have d0 : w2.cell? ⟨p, 0, none⟩ = some (.slice none 0 0) := (cells_of hp2 0).1
      have d1 : w2.cell? ⟨p, 1, none⟩ = some (.int .i64 0) := (cells_of hp2 1).1
      have e0 : w2.frozen? ⟨p, 0, none⟩ = false := (cells_of hp2 0).2
      have e1 : w2.frozen? ⟨p, 1, none⟩ = false := (cells_of hp2 1).2
      have hcm2' := hcm2
      unfold maxLen at hcm2')
  all_goals (
    go_wp2
    go_ret
    have hZ : w'.heap.size = w.heap.size := HZ.out
    have q := grown1_end (vs := []) (l := 0) rfl (show 0 < n by omega) hp2 hN (by show w'.heap.size ≠ p; omega) (by show w.heap.size ≤ w'.heap.size; omega) hcsz (by simp) (by omega) hcm2 ((hF0.drew).trans (Fr.ofBelow (M := NoB) hbel) fun _ _ x => x.elim) (.slice (some ⟨w'.drew.heap.size, 0, none⟩) 0 cap2)
    rw [Nat.zero_add] at q
    exact ⟨rfl, q⟩)

end Go.Proofs.YtmlmbahimklfiaaGreatDoor

/- Bufw -/
namespace Go.Proofs.YtmlmbahimklfiaaGreatDoor
open Go.RowKit

/-- The buffer has a place for n more. -/
def Room1 (p n : Nat) (G : Option Nat) (vs : List Value) (w w' : World) : Prop :=
  ∃ xs g, xs.length = n ∧ (G = some g ∨ w.heap.size ≤ g) ∧ WtrV w' p (some g) (vs ++ xs) ∧ Fr (OneB p) w w'

theorem try_grow (p n : Nat) (G : Option Nat) (vs : List Value) (w : World) (h : WtrV w p G vs) (hn : 1 ≤ n) :
    Calls Tryz.prog 161 #[.pointer (some ⟨p, 0, none⟩), .int .i64 n] w fun e w' =>
      (e = .returned (.tuple #[.int .i64 vs.length, .bool true]) ∧ Room1 p n G vs w w') ∨
      (e = .returned (.tuple #[.int .i64 0, .bool false]) ∧ w = w' ∧ (vs.length + n ≤ 140737488355328 → (∀ v ∈ vs, v.oneCell' = true) → Calls Tryz.prog 162 #[.pointer (some ⟨p, 0, none⟩), .int .i64 n] w fun e w' => e = .returned (.int .i64 vs.length) ∧ Room1 p n G vs w w')) := by
  obtain ⟨lr, h | ⟨g, cap, cur, rfl, hgp, hl, hp, hg, hlc, hm, hs, ht⟩⟩ := h
  · obtain ⟨rfl, rfl, hp⟩ := h
    refine (Tryz.Buffer_tryGrow_none p none 0 0 n w (cells_of hp 0).1 (Nat.le_refl _) (Nat.zero_le _) (by omega)).mono ?_
    rintro e w' ⟨rfl, rfl⟩
    refine .inr ⟨rfl, rfl, fun hlim _ => ?_⟩
    by_cases h64 : n ≤ 64
    · refine (grow_nil_small p n lr _ hp hn h64).mono ?_
      rintro e w1 ⟨rfl, xs, g, h1, h2, h3, h4⟩
      exact ⟨rfl, xs, g, h1, .inr h2, h3, h4⟩
    · refine (grow_nil_big p n lr _ hp (by omega) (by simpa using hlim)).mono ?_
      rintro e w1 ⟨rfl, xs, g, h1, h2, h3, h4⟩
      exact ⟨rfl, xs, g, h1, .inr h2, h3, h4⟩
  · by_cases hr : n ≤ cap - vs.length
    · refine (Tryz.Buffer_tryGrow_room p _ vs.length cap n w (cells_of hp 0).1 (cells_of hp 0).2 hlc hm hr).mono ?_
      rintro e w' ⟨rfl, rfl⟩
      have e : vs ++ (cur.toList.take (vs.length + n)).drop vs.length = cur.toList.take (vs.length + n) := by
        have := List.take_append_drop vs.length (cur.toList.take (vs.length + n))
        rwa [List.take_take, Nat.min_eq_left (by omega), ht] at this
      have hlen : (cur.toList.take (vs.length + n)).length = vs.length + n := by simp; omega
      refine .inl ⟨rfl, (cur.toList.take (vs.length + n)).drop vs.length, g, by rw [List.length_drop, hlen]; omega, .inl rfl, ?_, (Fr.refl (OneB p) _).setCell (p := ⟨p, 0, none⟩) (fun _ => rfl) _⟩
      rw [e]
      refine ⟨lr, .inr ⟨g, cap, cur, rfl, hgp, by omega, ?_, by rw [heap_far hgp, hg], by omega, hm, hs, by rw [hlen]⟩⟩
      rw [hlen, heap_set hp]; rfl
    · refine (Tryz.Buffer_tryGrow_none p _ vs.length cap n w (cells_of hp 0).1 hlc hm (by omega)).mono ?_
      rintro e w' ⟨rfl, rfl⟩
      refine .inr ⟨rfl, rfl, fun hlim h1 => ?_⟩
      refine (grow_row p g cap n lr cur vs _ hp hg hlc hm hs ht hl h1 hn (by omega) hlim).mono ?_
      rintro e w1 ⟨rfl, xs, g, h1, h2, h3, h4⟩
      exact ⟨rfl, xs, g, h1, .inr h2, h3, h4⟩

/-- Behind a write: the bytes stand behind those that were put. -/
def Put1 (p : Nat) (G : Option Nat) (vs : List Value) (w w' : World) : Prop :=
  ∃ G', WtrV w' p G' vs ∧ Fr (WF p G) w w' ∧ ∀ k, WF p G' k → WF p G k ∨ w.heap.size ≤ k

theorem last_set {w : World} {p : Nat} {G : Option Nat} {vs : List Value} (h : WtrV w p G vs) (x : Int) : WtrV (w.setCell ⟨p, 2, none⟩ (.int .i8 x)) p G vs := by
  obtain ⟨lr, h | ⟨g, cap, cur, rfl, h1, h2, h3, h4, h5⟩⟩ := h
  · exact ⟨x, .inl ⟨h.1, h.2.1, by rw [heap_set h.2.2]; rfl⟩⟩
  · exact ⟨x, .inr ⟨g, cap, cur, rfl, h1, h2, by rw [heap_set h3]; rfl, by rw [heap_far h1, h4], h5⟩⟩

theorem WtrV.last {w : World} {p : Nat} {G : Option Nat} {vs : List Value} (h : WtrV w p G vs) : ∃ v, w.cell? ⟨p, 2, none⟩ = some v ∧ w.frozen? ⟨p, 2, none⟩ = false := by
  obtain ⟨lr, h | ⟨g, cap, cur, rfl, h1, h2, h3, h4, h5⟩⟩ := h
  · exact ⟨_, (cells_of h.2.2 2).1.trans rfl, (cells_of h.2.2 2).2⟩
  · exact ⟨_, (cells_of h3 2).1.trans rfl, (cells_of h3 2).2⟩

/-- What the last step of a write needs of the world behind the growing. -/
theorem room_facts {p n g : Nat} {vs xs : List Value} {w : World} (hx : xs.length = n) (h : WtrV w p (some g) (vs ++ xs)) :
    ∃ (lr : Int) (cap : Nat) (cur : Array Value), g ≠ p ∧ w.heap[p]? = some (.cells #[.slice (some ⟨g, 0, none⟩) (vs.length + n) cap, .int .i64 0, .int .i8 lr] 149 (0, 0)) ∧
      w.heap[g]? = some (.cells cur 5 (0, 0)) ∧ vs.length + n ≤ cap ∧ cap ≤ maxLen ∧ cur.size = cap ∧ cur.toList.take vs.length = vs := by
  obtain ⟨lr, h | ⟨g', cap, cur, hG, h1, h2, h3, h4, h5, h6, h7, h8⟩⟩ := h
  · exact nomatch h.1
  · cases hG
    refine ⟨lr, cap, cur, h1, by simpa [hx] using h3, h4, by simpa [hx] using h5, h6, h7, ?_⟩
    have := congrArg (List.take vs.length) h8
    rwa [List.take_take, Nat.min_eq_left (by simp), List.take_left' rfl] at this

theorem put_end {p g n cap : Nat} {G : Option Nat} {lr : Int} {vs news : List Value} {cur : Array Value} {w w0 w1 : World} (hG : G = some g ∨ w0.heap.size ≤ g) (hsz : w0.heap.size = w.heap.size) (hf0 : Fr (OneB p) w w0) (hf : Fr (OneB p) w0 w1) (hgp : g ≠ p) (hn : news.length = n) (hn0 : 0 < n)
    (hp : w1.heap[p]? = some (.cells #[.slice (some ⟨g, 0, none⟩) (vs.length + n) cap, .int .i64 0, .int .i8 lr] 149 (0, 0)))
    (hg : w1.heap[g]? = some (.cells cur 5 (0, 0))) (hc : vs.length + n ≤ cap) (hm : cap ≤ maxLen) (hs : cur.size = cap) (ht : cur.toList.take vs.length = vs) :
    Put1 p G (vs ++ news) w (w1.setRow g (cur.toList.take vs.length ++ news ++ cur.toList.drop (vs.length + news.length)).toArray) := by
  refine ⟨some g, ⟨lr, .inr ⟨g, cap, (cur.toList.take vs.length ++ news ++ cur.toList.drop (vs.length + news.length)).toArray, rfl, hgp, by simp; omega, ?_, setRow_heap _ _ _ _ _ _ hg, by simp; omega, hm, ?_, ?_⟩⟩, ?_, ?_⟩
  · rw [setRow_other _ _ _ _ (by omega), hp, List.length_append, hn]
  · rw [ht]; simp; omega
  · rw [ht, List.take_left' (by simp)]
  · have hF : Fr (WF p G) w w1 := (hf0.trans hf fun _ _ x => x).mono fun _ _ x => .inl x
    refine hF.setRow (fun hlt => ?_) _
    rcases hG with rfl | hG
    · exact .inr rfl
    · omega
  · rintro k (rfl | hk)
    · exact .inl (.inl rfl)
    · cases hk
      rcases hG with rfl | hG
      · exact .inl (.inr rfl)
      · exact .inr (by omega)

theorem setRow_one {w : World} {g i : Nat} {cur : Array Value} {t : TypeId} (hg : w.heap[g]? = some (.cells cur t (0, 0))) (hi : i < cur.size) (u : Value) :
    w.setCell ⟨g, i, none⟩ u = w.setRow g (cur.toList.take i ++ [u] ++ cur.toList.drop (i + [u].length)).toArray := by
  have e : (cur.toList.take i ++ [u] ++ cur.toList.drop (i + [u].length)).toArray = cur.setIfInBounds i u := by
    apply Array.ext'
    rw [List.append_assoc]
    simp [List.set_eq_take_append_cons_drop, hi]
  rw [e]
  unfold World.setCell World.setRow
  have hlt := Lib.lt_of_heap hg
  congr 1
  apply Array.ext
  · simp
  · intro k h1 h2
    rw [Array.getElem_modify, Array.getElem_modify]
    by_cases hk : g = k
    · subst hk
      have : w.heap[g] = .cells cur t (0, 0) := by rw [Array.getElem?_eq_getElem hlt] at hg; exact Option.some.inj hg
      simp [this]
    · rw [if_neg hk, if_neg hk]

theorem lr_fr (p : Nat) (w : World) (x : Int) : Fr (OneB p) w (w.setCell ⟨p, 2, none⟩ (.int .i8 x)) := (Fr.refl (OneB p) w).setCell (p := ⟨p, 2, none⟩) (fun _ => rfl) _
theorem lr_size (p : Nat) (w : World) (x : Int) : (w.setCell ⟨p, 2, none⟩ (.int .i8 x)).heap.size = w.heap.size := by simp [World.setCell]

set_option maxHeartbeats 1600000 in
theorem writeByte (p : Nat) (G : Option Nat) (vs : List Value) (x : Int) (w : World) (h : WtrV w p G vs) (h1 : ∀ v ∈ vs, v.oneCell' = true) (hlim : vs.length + 1 ≤ 140737488355328) :
    Calls Tryz.prog 106 #[.pointer (some ⟨p, 0, none⟩), .int .u8 x] w fun e w' => e = .returned .nilIface ∧ Put1 p G (vs ++ [.int .u8 x]) w w' := by
  obtain ⟨v2, c2, f2⟩ := h.last
  have h' := last_set h 0
  have hf0 := lr_fr p w 0
  have HZ := Lib.hid (lr_size p w 0)
  have hT : ∀ W, WtrV W p G vs → Calls Tryz.prog 161 #[.pointer (some ⟨p, 0, none⟩), .int .i64 1] W _ := fun W hW => try_grow p 1 G vs W hW (Nat.le_refl _)
  go_enter Tryz.func106, Tryz.ntmps106
  go_wp2_with (go_at_call 161; refine (hT _ ?_).mono ?_)
  · exact h'
  clear hT h' c2 f2
  rintro e W1 (⟨rfl, xs, g, hx, hG, hW, hF⟩ | ⟨rfl, rfl, hg⟩)
  · obtain ⟨lr, cap, cur, hgp, hp, hgc, hc, hm, hs, ht⟩ := room_facts hx hW
    have d0 := (cells_of hp 0).1
    have hlt : vs.length < cur.size := by omega
    have dg : W1.cell? ⟨g, vs.length, none⟩ = some cur[vs.length] := by rw [Lib.cell_of_heap hgc, Array.getElem?_eq_getElem hlt]
    have fg : W1.frozen? ⟨g, vs.length, none⟩ = false := Lib.frozen_of_heap hgc _
    have hm' := hm
    unfold maxLen at hm'
    simp only [List.getElem?_toArray, List.getElem?_cons_zero] at d0
    have q := put_end (news := [.int .u8 x]) hG HZ.out hf0 hF hgp rfl (by simp) hp hgc hc hm hs ht
    rw [← setRow_one hgc hlt] at q
    clear hx hW ht hs
    go_wp2
    go_ret
    exact ⟨rfl, q⟩
  · have hG' := hg hlim h1
    clear hg
    go_wp2_with (go_at_call 162; refine hG'.mono ?_)
    clear hG'
    rintro e W1 ⟨rfl, xs, g, hx, hG, hW, hF⟩
    obtain ⟨lr, cap, cur, hgp, hp, hgc, hc, hm, hs, ht⟩ := room_facts hx hW
    have d0 := (cells_of hp 0).1
    have hlt : vs.length < cur.size := by omega
    have dg : W1.cell? ⟨g, vs.length, none⟩ = some cur[vs.length] := by rw [Lib.cell_of_heap hgc, Array.getElem?_eq_getElem hlt]
    have fg : W1.frozen? ⟨g, vs.length, none⟩ = false := Lib.frozen_of_heap hgc _
    have hm' := hm
    unfold maxLen at hm'
    simp only [List.getElem?_toArray, List.getElem?_cons_zero] at d0
    have q := put_end (news := [.int .u8 x]) hG HZ.out hf0 hF hgp rfl (by simp) hp hgc hc hm hs ht
    rw [← setRow_one hgc hlt] at q
    clear hx hW ht hs
    go_wp2
    go_ret
    exact ⟨rfl, q⟩

/-- What 'copy' into the buffer's place does. -/
theorem put_copy {p n g lo hi c : Nat} {A : Option Addr} {l : List UInt8} {G : Option Nat} {lr : Int} {vs : List Value} {cur : Array Value} {w w0 w1 : World} {cap : Nat} (hG : G = some g ∨ w0.heap.size ≤ g) (hsz : w0.heap.size = w.heap.size) (hf0 : Fr (OneB p) w w0) (hf : Fr (OneB p) w0 w1) (hgp : g ≠ p) (hn : l.length = n) (hn0 : 0 < n)
    (hp : w1.heap[p]? = some (.cells #[.slice (some ⟨g, 0, none⟩) (vs.length + n) cap, .int .i64 0, .int .i8 lr] 149 (0, 0)))
    (hg : w1.heap[g]? = some (.cells cur 5 (0, 0))) (hc : vs.length + n ≤ cap) (hm : cap ≤ maxLen) (hs : cur.size = cap) (ht : cur.toList.take vs.length = vs)
    (hr : Rd w lo hi A l) (hh : hi ≤ w.heap.size) (hpn : ¬ (lo ≤ p ∧ p < hi)) :
    ∃ W2, (Builtin.copy_ #[24, 24] 3 #[.slice (some ⟨g, vs.length, none⟩) n (cap - vs.length), .slice A n c]).run Tryz.prog w1 = .ok (goInt n) W2 ∧ Put1 p G (vs ++ bv l) w W2 := by
  have hF : Fr (OneB p) w w1 := hf0.trans hf fun _ _ x => x
  have hr1 : Rd w1 lo hi A l := hr.fr hF hh fun k h1 h2 e => hpn (by cases e; exact ⟨h1, h2⟩)
  obtain ⟨b, o, rfl, _, _, _⟩ := hr1 (by omega)
  have hinfo : (Tryz.prog.info? 5).map (·.size) = some 1 := by kernel_rfl
  have hcp := run_copy_row (P := Tryz.prog) w1 24 24 3 5 g vs.length n (cap - vs.length) ⟨b, o, none⟩ n c cur 5 (bv l) Tryz.underlying24 hinfo hg (by simp [hn]) (hr1.src rfl) (by simp; omega) (bv_one l)
  rw [bv_length, hn] at hcp
  refine ⟨_, hcp, ?_⟩
  have q := put_end (news := bv l) hG hsz hf0 hf hgp (by simpa using hn) hn0 hp hg hc hm hs ht
  rw [bv_length, hn] at q
  exact q

theorem put_copy_string {p g : Nat} (s : ByteArray) {G : Option Nat} {lr : Int} {vs : List Value} {cur : Array Value} {w w0 w1 : World} {cap : Nat} (hG : G = some g ∨ w0.heap.size ≤ g) (hsz : w0.heap.size = w.heap.size) (hf0 : Fr (OneB p) w w0) (hf : Fr (OneB p) w0 w1) (hgp : g ≠ p) (hn0 : 0 < s.size)
    (hp : w1.heap[p]? = some (.cells #[.slice (some ⟨g, 0, none⟩) (vs.length + s.size) cap, .int .i64 0, .int .i8 lr] 149 (0, 0)))
    (hg : w1.heap[g]? = some (.cells cur 5 (0, 0))) (hc : vs.length + s.size ≤ cap) (hm : cap ≤ maxLen) (hs : cur.size = cap) (ht : cur.toList.take vs.length = vs) :
    ∃ W2, (Builtin.copy_ #[24, 9] 3 #[.slice (some ⟨g, vs.length, none⟩) s.size (cap - vs.length), .string s]).run Tryz.prog w1 = .ok (goInt s.size) W2 ∧ Put1 p G (vs ++ bv s.data.toList) w W2 := by
  have hinfo : (Tryz.prog.info? 5).map (·.size) = some 1 := by kernel_rfl
  have hcp := Lib.run_copy_row_string (P := Tryz.prog) w1 24 9 3 5 g vs.length s.size (cap - vs.length) s cur 5 Tryz.underlying24 hinfo hg (Nat.le_refl _) (by omega)
  have hl : s.data.toList.length = s.size := by rw [Array.length_toList]; rfl
  refine ⟨_, hcp, ?_⟩
  have q := put_end (news := bv s.data.toList) hG hsz hf0 hf hgp (by rw [bv_length, hl]) hn0 hp hg hc hm hs ht
  rw [bv_length, hl] at q
  exact q

set_option maxHeartbeats 1600000 in
theorem write_pos (p : Nat) (G : Option Nat) (vs : List Value) (l : List UInt8) (n : Nat) (A : Option Addr) (c lo hi : Nat) (w : World) (h : WtrV w p G vs) (h1 : ∀ v ∈ vs, v.oneCell' = true) (hlim : vs.length + n ≤ 140737488355328) (hn : l.length = n) (hn0 : 0 < n) (hr : Rd w lo hi A l) (hh : hi ≤ w.heap.size) (hpn : ¬ (lo ≤ p ∧ p < hi)) :
    Calls Tryz.prog 164 #[.pointer (some ⟨p, 0, none⟩), .slice A n c] w fun e w' => e = .returned (.tuple #[.int .i64 n, .nilIface]) ∧ Put1 p G (vs ++ bv l) w w' := by
  obtain ⟨v2, c2, f2⟩ := h.last
  have h' := last_set h 0
  have hf0 := lr_fr p w 0
  have HZ := Lib.hid (lr_size p w 0)
  have HN := Lib.hid hn
  clear hn
  go_enter Tryz.func164, Tryz.ntmps164
  go_wp2_with (go_at_call 161; refine (try_grow p n G vs _ ?_ hn0).mono ?_)
  · exact h'
  clear h' c2 f2
  rintro e W1 (⟨rfl, xs, g, hx, hG, hW, hF⟩ | ⟨rfl, rfl, hg⟩)
  · obtain ⟨lr, cap, cur, hgp, hp, hgc, hc, hm, hs, ht⟩ := room_facts hx hW
    have d0 := (cells_of hp 0).1
    have hm' := hm
    unfold maxLen at hm'
    simp only [List.getElem?_toArray, List.getElem?_cons_zero] at d0
    have hne : ¬ cap = vs.length := by omega
    obtain ⟨W2, hcp, q⟩ := put_copy (A := A) (l := l) (c := c) hG HZ.out hf0 hF hgp HN.out hn0 hp hgc hc hm hs ht hr hh hpn
    clear hx hW ht hs
    go_wp2
    go_ret2
    exact ⟨rfl, q⟩
  · have hG' := hg hlim h1
    clear hg
    go_wp2_with (go_at_call 162; refine hG'.mono ?_)
    clear hG'
    rintro e W1 ⟨rfl, xs, g, hx, hG, hW, hF⟩
    obtain ⟨lr, cap, cur, hgp, hp, hgc, hc, hm, hs, ht⟩ := room_facts hx hW
    have d0 := (cells_of hp 0).1
    have hm' := hm
    unfold maxLen at hm'
    simp only [List.getElem?_toArray, List.getElem?_cons_zero] at d0
    have hne : ¬ cap = vs.length := by omega
    obtain ⟨W2, hcp, q⟩ := put_copy (A := A) (l := l) (c := c) hG HZ.out hf0 hF hgp HN.out hn0 hp hgc hc hm hs ht hr hh hpn
    clear hx hW ht hs
    go_wp2
    go_ret2
    exact ⟨rfl, q⟩

set_option maxHeartbeats 1600000 in
theorem writeString_pos (p : Nat) (G : Option Nat) (vs : List Value) (s : ByteArray) (w : World) (h : WtrV w p G vs) (h1 : ∀ v ∈ vs, v.oneCell' = true) (hlim : vs.length + s.size ≤ 140737488355328) (hn0 : 0 < s.size) :
    Calls Tryz.prog 163 #[.pointer (some ⟨p, 0, none⟩), .string s] w fun e w' => e = .returned (.tuple #[(.int .i64 s.size), .nilIface]) ∧ Put1 p G (vs ++ bv s.data.toList) w w' := by
  obtain ⟨v2, c2, f2⟩ := h.last
  have h' := last_set h 0
  have hf0 := lr_fr p w 0
  have HZ := Lib.hid (lr_size p w 0)
  go_enter Tryz.func163, Tryz.ntmps163
  go_wp2_with (go_at_call 161; refine (try_grow p s.size G vs _ ?_ hn0).mono ?_)
  · exact h'
  clear h' c2 f2
  rintro e W1 (⟨rfl, xs, g, hx, hG, hW, hF⟩ | ⟨rfl, rfl, hg⟩)
  · obtain ⟨lr, cap, cur, hgp, hp, hgc, hc, hm, hs, ht⟩ := room_facts hx hW
    have d0 := (cells_of hp 0).1
    have hm' := hm
    unfold maxLen at hm'
    simp only [List.getElem?_toArray, List.getElem?_cons_zero] at d0
    have hne : ¬ cap = vs.length := by omega
    obtain ⟨W2, hcp, q⟩ := put_copy_string s hG HZ.out hf0 hF hgp hn0 hp hgc hc hm hs ht
    clear hx hW ht hs
    go_wp2
    go_ret2
    exact ⟨rfl, q⟩
  · have hG' := hg hlim h1
    clear hg
    go_wp2_with (go_at_call 162; refine hG'.mono ?_)
    clear hG'
    rintro e W1 ⟨rfl, xs, g, hx, hG, hW, hF⟩
    obtain ⟨lr, cap, cur, hgp, hp, hgc, hc, hm, hs, ht⟩ := room_facts hx hW
    have d0 := (cells_of hp 0).1
    have hm' := hm
    unfold maxLen at hm'
    simp only [List.getElem?_toArray, List.getElem?_cons_zero] at d0
    have hne : ¬ cap = vs.length := by omega
    obtain ⟨W2, hcp, q⟩ := put_copy_string s hG HZ.out hf0 hF hgp hn0 hp hgc hc hm hs ht
    clear hx hW ht hs
    go_wp2
    go_ret2
    exact ⟨rfl, q⟩

theorem try_grow0 (p : Nat) (G : Option Nat) (vs : List Value) (w : World) (h : WtrV w p G vs) :
    Calls Tryz.prog 161 #[.pointer (some ⟨p, 0, none⟩), .int .i64 0] w fun e w' =>
      e = .returned (.tuple #[.int .i64 vs.length, .bool true]) ∧ WtrV w' p G vs ∧ Fr (OneB p) w w' := by
  obtain ⟨lr, h | ⟨g, cap, cur, rfl, hgp, hl, hp, hg, hlc, hm, hs, ht⟩⟩ := h
  · obtain ⟨rfl, rfl, hp⟩ := h
    refine (Tryz.Buffer_tryGrow_room p none 0 0 0 w (cells_of hp 0).1 (cells_of hp 0).2 (Nat.le_refl _) (Nat.zero_le _) (Nat.zero_le _)).mono ?_
    rintro e w' ⟨rfl, rfl⟩
    exact ⟨rfl, ⟨lr, .inl ⟨rfl, rfl, by rw [heap_set hp]; rfl⟩⟩, (Fr.refl (OneB p) _).setCell (p := ⟨p, 0, none⟩) (fun _ => rfl) _⟩
  · refine (Tryz.Buffer_tryGrow_room p _ vs.length cap 0 w (cells_of hp 0).1 (cells_of hp 0).2 hlc hm (Nat.zero_le _)).mono ?_
    rintro e w' ⟨rfl, rfl⟩
    exact ⟨rfl, ⟨lr, .inr ⟨g, cap, cur, rfl, hgp, hl, by rw [heap_set hp]; rfl, by rw [heap_far hgp, hg], hlc, hm, hs, ht⟩⟩, (Fr.refl (OneB p) _).setCell (p := ⟨p, 0, none⟩) (fun _ => rfl) _⟩

set_option maxHeartbeats 800000 in
theorem write_none (p : Nat) (G : Option Nat) (vs : List Value) (A : Option Addr) (c : Nat) (w : World) (h : WtrV w p G vs) :
    Calls Tryz.prog 164 #[.pointer (some ⟨p, 0, none⟩), .slice A 0 c] w fun e w' => e = .returned (.tuple #[.int .i64 0, .nilIface]) ∧ Put1 p G vs w w' := by
  obtain ⟨v2, c2, f2⟩ := h.last
  have h' := last_set h 0
  have hf0 := lr_fr p w 0
  have hinfo : (Tryz.prog.info? 5).map (·.size) = some 1 := by kernel_rfl
  have hce : ∀ d dLen dCap W, (Builtin.copy_ #[24, 24] 3 #[.slice d dLen dCap, .slice A 0 c]).run Tryz.prog W = .ok (goInt 0) W := fun d dLen dCap W => run_copy_none W 24 24 3 5 d A dLen dCap 0 c Tryz.underlying24 hinfo (by simp)
  clear hinfo
  go_enter Tryz.func164, Tryz.ntmps164
  go_wp2_with (go_at_call 161; refine (try_grow0 p G vs _ ?_).mono ?_)
  · exact h'
  clear h' c2 f2
  rintro e W1 ⟨rfl, hW, hF⟩
  have q : Put1 p G vs w W1 := ⟨G, hW, (hf0.trans hF fun _ _ x => x).mono fun _ _ x => .inl x, fun k hk => .inl hk⟩
  obtain ⟨lr, h2 | ⟨g, cap, cur, rfl, hgp, hl, hp, hg, hlc, hm, hs, ht⟩⟩ := hW
  · obtain ⟨rfl, rfl, hp⟩ := h2
    have d0 := (cells_of hp 0).1
    simp only [List.getElem?_toArray, List.getElem?_cons_zero] at d0
    go_wp2
    all_goals (go_ret2; exact ⟨rfl, q⟩)
  · have d0 := (cells_of hp 0).1
    simp only [List.getElem?_toArray, List.getElem?_cons_zero] at d0
    unfold maxLen at hm
    clear hs ht hp hg
    go_wp2
    all_goals (go_ret2; exact ⟨rfl, q⟩)

set_option maxHeartbeats 800000 in
theorem writeString_none (p : Nat) (G : Option Nat) (vs : List Value) (s : ByteArray) (hs0 : s.size = 0) (w : World) (h : WtrV w p G vs) :
    Calls Tryz.prog 163 #[.pointer (some ⟨p, 0, none⟩), .string s] w fun e w' => e = .returned (.tuple #[.int .i64 0, .nilIface]) ∧ Put1 p G vs w w' := by
  obtain ⟨v2, c2, f2⟩ := h.last
  have h' := last_set h 0
  have hf0 := lr_fr p w 0
  have hinfo : (Tryz.prog.info? 5).map (·.size) = some 1 := by kernel_rfl
  have hce : ∀ d dLen dCap W, (Builtin.copy_ #[24, 9] 3 #[.slice d dLen dCap, .string s]).run Tryz.prog W = .ok (goInt 0) W := fun d dLen dCap W => Lib.run_copy_empty_string W 24 9 3 5 d dLen dCap s Tryz.underlying24 (by rw [hinfo]; rfl) hs0
  clear hinfo
  go_enter Tryz.func163, Tryz.ntmps163
  go_wp2_with (go_at_call 161; refine (try_grow0 p G vs _ ?_).mono ?_)
  · exact h'
  clear h' c2 f2
  rintro e W1 ⟨rfl, hW, hF⟩
  have q : Put1 p G vs w W1 := ⟨G, hW, (hf0.trans hF fun _ _ x => x).mono fun _ _ x => .inl x, fun k hk => .inl hk⟩
  obtain ⟨lr, h2 | ⟨g, cap, cur, rfl, hgp, hl, hp, hg, hlc, hm, hs, ht⟩⟩ := hW
  · obtain ⟨rfl, rfl, hp⟩ := h2
    have d0 := (cells_of hp 0).1
    simp only [List.getElem?_toArray, List.getElem?_cons_zero] at d0
    go_wp2
    all_goals (go_ret2; exact ⟨rfl, q⟩)
  · have d0 := (cells_of hp 0).1
    simp only [List.getElem?_toArray, List.getElem?_cons_zero] at d0
    unfold maxLen at hm
    clear hs ht hp hg
    go_wp2
    all_goals (go_ret2; exact ⟨rfl, q⟩)

/-- Write, of any bytes that do not lie in the writer's own block. -/
theorem write_any (p : Nat) (G : Option Nat) (vs : List Value) (l : List UInt8) (A : Option Addr) (c lo hi : Nat) (w : World) (h : WtrV w p G vs) (h1 : ∀ v ∈ vs, v.oneCell' = true) (hlim : vs.length + l.length ≤ 140737488355328) (hr : Rd w lo hi A l) (hh : hi ≤ w.heap.size) (hpn : ¬ (lo ≤ p ∧ p < hi)) :
    Calls Tryz.prog 164 #[.pointer (some ⟨p, 0, none⟩), .slice A l.length c] w fun e w' => e = .returned (.tuple #[.int .i64 l.length, .nilIface]) ∧ Put1 p G (vs ++ bv l) w w' := by
  cases l with
  | nil => simpa using write_none p G vs A c w h
  | cons x l => exact write_pos p G vs (x :: l) _ A c lo hi w h h1 hlim rfl (by simp) hr hh hpn

theorem writeString_any (p : Nat) (G : Option Nat) (vs : List Value) (s : ByteArray) (w : World) (h : WtrV w p G vs) (h1 : ∀ v ∈ vs, v.oneCell' = true) (hlim : vs.length + s.size ≤ 140737488355328) :
    Calls Tryz.prog 163 #[.pointer (some ⟨p, 0, none⟩), .string s] w fun e w' => e = .returned (.tuple #[.int .i64 s.size, .nilIface]) ∧ Put1 p G (vs ++ bv s.data.toList) w w' := by
  by_cases h0 : s.size = 0
  · have e : s.data.toList = [] := by
      have : s.data.toList.length = s.size := by rw [Array.length_toList]; rfl
      exact List.eq_nil_of_length_eq_zero (by omega)
    rw [e, h0]
    simpa using writeString_none p G vs s h0 w h
  · exact writeString_pos p G vs s w h h1 hlim (by omega)

set_option maxHeartbeats 400000 in
theorem buf_bytes (p : Nat) (A : Option Addr) (n c : Nat) (lr : Int) (w : World) (_hn : n ≤ c) (_hc : c ≤ maxLen) (h : w.heap[p]? = some (.cells #[.slice A n c, .int .i64 0, .int .i8 lr] 149 (0, 0))) :
    Calls Tryz.prog 111 #[.pointer (some ⟨p, 0, none⟩)] w fun e w' => e = .returned (.slice A n c) ∧ ∃ k, w' = w.drewN k := by
  have c0 : w.cell? ⟨p, 0, none⟩ = some (.slice A n c) := by rw [Lib.cell_of_heap h]; rfl
  have c1 : w.cell? ⟨p, 1, none⟩ = some (.int .i64 0) := by rw [Lib.cell_of_heap h]; rfl
  clear h
  unfold maxLen at _hc
  go_enter Tryz.func111, Tryz.ntmps111
  go_wp2
  go_quiet (fail)
  go_wp2
  all_goals (go_ret; exact ⟨rfl, _, rfl⟩)

end Go.Proofs.YtmlmbahimklfiaaGreatDoor

/- Wtr -/
namespace Go.Proofs.YtmlmbahimklfiaaGreatDoor
open Go.RowKit

def Wtr (w : World) (p : Nat) (G : Option Nat) (l : List UInt8) : Prop := WtrV w p G (bv l)
def Put (p : Nat) (G : Option Nat) (l : List UInt8) (w w' : World) : Prop :=
  ∃ G', Wtr w' p G' l ∧ Fr (WF p G) w w' ∧ ∀ k, WF p G' k → WF p G k ∨ w.heap.size ≤ k

theorem Put.refl {p : Nat} {G : Option Nat} {l : List UInt8} {w : World} (h : Wtr w p G l) : Put p G l w w := ⟨G, h, Fr.refl _ _, fun _ hk => .inl hk⟩
theorem Put.of1 {p : Nat} {G : Option Nat} {l : List UInt8} {w w' : World} (h : Put1 p G (bv l) w w') : Put p G l w w' := h
theorem Put.trans {p : Nat} {G G1 : Option Nat} {l : List UInt8} {w w1 w2 : World} (hf : Fr (WF p G) w w1) (hg : ∀ k, WF p G1 k → WF p G k ∨ w.heap.size ≤ k) (h : Put p G1 l w1 w2) : Put p G l w w2 := by
  obtain ⟨G2, h2, f2, g2⟩ := h
  refine ⟨G2, h2, hf.trans f2 fun k hk hw => ?_, fun k hk => ?_⟩
  · rcases hg k hw with h | h
    · exact h
    · omega
  · rcases g2 k hk with h | h
    · exact hg k h
    · exact .inr (Nat.le_trans hf.size h)
theorem Put.cast {p : Nat} {G : Option Nat} {l l' : List UInt8} {w w' : World} (h : Put p G l w w') (e : l = l') : Put p G l' w w' := e ▸ h

theorem byte_put (p : Nat) (G : Option Nat) (l : List UInt8) (x : UInt8) (v : Int) (w : World) (h : Wtr w p G l) (hlim : l.length + 1 ≤ 140737488355328) (hv : v = (x.toNat : Int)) :
    Calls Tryz.prog 106 #[.pointer (some ⟨p, 0, none⟩), .int .u8 v] w fun e w' => e = .returned .nilIface ∧ Put p G (l ++ [x]) w w' := by
  subst hv
  refine (writeByte p G (bv l) x.toNat w h (bv_one l) (by simpa using hlim)).mono ?_
  rintro e w' ⟨rfl, q⟩
  refine ⟨rfl, Put.of1 ?_⟩
  rw [bv_append]; exact q

set_option maxHeartbeats 400000 in
theorem wNew (w : World) : Calls Tryz.prog 47 #[] w fun e w' => e = .returned (.pointer (some ⟨w.heap.size, 0, none⟩)) ∧ Wtr w' w.heap.size none [] ∧ Fr NoB w w' ∧ w'.heap.size = w.heap.size + 1 := by
  go_enter Tryz.func47, Tryz.ntmps47
  go_wp2
  go_ret
  exact ⟨rfl, WtrV.new w, (Fr.refl _ _).alloc _, by simp⟩

set_option maxHeartbeats 400000 in
theorem wByte (p : Nat) (G : Option Nat) (l : List UInt8) (x : UInt8) (w : World) (h : Wtr w p G l) (hlim : l.length + 1 ≤ 140737488355328) :
    Calls Tryz.prog 48 #[.pointer (some ⟨p, 0, none⟩), .int .u8 x.toNat] w fun e w' => e = .returned (.tuple #[]) ∧ Put p G (l ++ [x]) w w' := by
  go_enter Tryz.func48, Tryz.ntmps48
  go_wp2_with (go_at_call 106; refine (byte_put p G l x _ _ h hlim rfl).mono ?_; rintro e w' ⟨rfl, q⟩)
  go_end0
  exact ⟨rfl, q⟩

set_option maxHeartbeats 800000 in
theorem wInt (p : Nat) (G : Option Nat) (l : List UInt8) (n : Int) (w : World) (h1 : -9223372036854775808 ≤ n) (h2 : n ≤ 9223372036854775807) (h : Wtr w p G l) (hlim : l.length + 10 ≤ 140737488355328) :
    Calls Tryz.prog 49 #[.pointer (some ⟨p, 0, none⟩), .int .i64 n] w fun e w' => e = .returned (.tuple #[]) ∧ Put p G (l ++ intB n) w w' := by
  have hz := zig_bits n h1 h2
  have hzl := zig_lt h1 h2
  have HR : Hid (intB n = b128 9 (zig n)) := rfl
  have hlen := (intB_len n).2
  generalize zig n = U at hz hzl HR
  generalize intB n = r at HR hlen ⊢
  go_enter Tryz.func49, Tryz.ntmps49
  go_wp2
  clear hz
  go_loopw [4] (fun u wr => ∃ (V f : Nat) (pre : List UInt8) (G1 : Option Nat), u = .int .u64 (V : Int) ∧ V < 18446744073709551616 ∧ V < 128 ^ (f + 1) ∧ pre ++ b128 f V = r ∧ Wtr wr p G1 (l ++ pre) ∧ Fr (WF p G) w wr ∧ ∀ k, WF p G1 k → WF p G k ∨ w.heap.size ≤ k) (fun u _ => (intOf u).toNat)
  case atStart => exact ⟨U, 9, [], G, rfl, hzl, by omega, HR.out.symm, by simpa using h, Fr.refl _ _, fun _ hk => .inl hk⟩
  case round =>
    obtain ⟨V, f, pre, G1, rfl, hV, hVf, hpre, hW, hF, hG⟩ := hrel
    have hpl : pre.length + (b128 f V).length = r.length := by rw [← hpre]; simp
    have hbl := b128_len f V
    have hp10 : pre.length + 1 ≤ 10 := by omega
    clear hbl
    by_cases hlt : V < 128
    · have hd : decide ((127 : Int) < (V : Int)) = false := by simp; omega
      have HP := Lib.hid hpre
      clear hpre hpl
      go_wp2_with (go_at_call 106; refine (byte_put p G1 (l ++ pre) (UInt8.ofNat V) _ _ hW (by simp; omega) ?_).mono ?_)
      · simp only [UInt8.toNat_ofNat']; omega
      rintro e w' ⟨rfl, q⟩
      go_wp2
      go_end0
      refine ⟨rfl, (Put.trans hF hG q).cast ?_⟩
      rw [← HP.out, b128_lt hlt, List.append_assoc]
    · have hd : decide ((127 : Int) < (V : Int)) = true := by simp; omega
      obtain ⟨f, rfl⟩ : ∃ f', f = f' + 1 := by
        cases f with
        | zero => simp at hVf; omega
        | succ f => exact ⟨f, rfl⟩
      rw [b128_ge (by omega)] at hpre
      have HP := Lib.hid hpre
      have HVf := Lib.hid hVf
      clear hpre hpl hVf
      go_wp2_with (go_at_call 106; refine (byte_put p G1 (l ++ pre) (UInt8.ofNat (V % 128 + 128)) _ _ hW (by simp; omega) ?_).mono ?_)
      · exact u8_or128 V
      rintro e w' ⟨rfl, q⟩
      go_wp2
      go_roundw
      case rel =>
        obtain ⟨G2, q1, q2, q3⟩ := Put.trans hF hG q
        exact ⟨V / 128, f, pre ++ [UInt8.ofNat (V % 128 + 128)], G2, by go_num, by omega, by have := HVf.out; rw [Nat.pow_succ] at this; exact Nat.div_lt_of_lt_mul (by omega), by rw [← HP.out]; simp, by simpa using q1, q2, q3⟩
      case measure => simp [intOf]; omega

theorem Put.next {p : Nat} {G G1 : Option Nat} {l : List UInt8} {w w1 w2 : World} (hf : Fr (WF p G) w w1) (hg : ∀ k, WF p G1 k → WF p G k ∨ w.heap.size ≤ k) (h : Put1 p G1 (bv l) w1 w2) : Put p G l w w2 := Put.trans hf hg h

set_option maxHeartbeats 800000 in
theorem wText (p : Nat) (G : Option Nat) (l : List UInt8) (s : ByteArray) (w : World) (h : Wtr w p G l) (hlim : l.length + s.size + 10 ≤ 140737488355328) :
    Calls Tryz.prog 107 #[.pointer (some ⟨p, 0, none⟩), .string s] w fun e w' => e = .returned (.tuple #[]) ∧ Put p G (l ++ textB s.data.toList) w w' := by
  have hl : s.data.toList.length = s.size := by rw [Array.length_toList]; rfl
  have HT : Hid (textB s.data.toList = intB s.size ++ s.data.toList) := by show _ = _; unfold textB; rw [hl]
  clear hl
  have hil := (intB_len s.size).2
  go_enter Tryz.func107, Tryz.ntmps107
  go_wp2_with (go_at_call 49; refine (wInt p G l s.size _ (by omega) (by omega) h (by omega)).mono ?_)
  rintro e w1 ⟨rfl, G1, h1, f1, g1⟩
  go_wp2_with (go_at_call 163; refine (writeString_any p G1 _ s _ h1 (bv_one _) (by simp; omega)).mono ?_)
  rintro e w2 ⟨rfl, q⟩
  rw [← bv_append] at q
  go_wp2
  go_end0
  exact ⟨rfl, (Put.next f1 g1 q).cast (by rw [HT.out, List.append_assoc])⟩

set_option maxHeartbeats 800000 in
theorem wBytes (p : Nat) (G : Option Nat) (l d : List UInt8) (A : Option Addr) (c lo hi : Nat) (w : World) (h : Wtr w p G l) (hlim : l.length + d.length + 10 ≤ 140737488355328) (hr : Rd w lo hi A d) (hh : hi ≤ w.heap.size) (hpn : ∀ k, lo ≤ k → k < hi → ¬ WF p G k) :
    Calls Tryz.prog 108 #[.pointer (some ⟨p, 0, none⟩), .slice A d.length c] w fun e w' => e = .returned (.tuple #[]) ∧ Put p G (l ++ textB d) w w' := by
  have hil := (intB_len d.length).2
  go_enter Tryz.func108, Tryz.ntmps108
  go_wp2_with (go_at_call 49; refine (wInt p G l d.length _ (by omega) (by omega) h (by omega)).mono ?_)
  rintro e w1 ⟨rfl, G1, h1, f1, g1⟩
  have hr1 := hr.fr f1 hh hpn
  have hh1 : hi ≤ w1.heap.size := Nat.le_trans hh f1.size
  have hp1 : ¬ (lo ≤ p ∧ p < hi) := fun x => hpn p x.1 x.2 (.inl rfl)
  go_wp2_with (go_at_call 164; refine (write_any p G1 _ d A c lo hi _ h1 (bv_one _) (by simp; omega) hr1 hh1 hp1).mono ?_)
  rintro e w2 ⟨rfl, q⟩
  rw [← bv_append] at q
  go_wp2
  go_end0
  exact ⟨rfl, (Put.next f1 g1 q).cast (by rw [textB, List.append_assoc])⟩

theorem map_getD (l : List UInt8) (i : Nat) : (l.map fun x => (x.toNat : Int)).getD i 0 = ((l.getD i 0).toNat : Int) := by
  simp only [List.getD, List.getElem?_map]
  cases l[i]? <;> rfl

/-- Clone: a new slice of the same bytes. -/
theorem clone_any (A : Option Addr) (l : List UInt8) (c lo hi : Nat) (w : World) (hr : Rd w lo hi A l) (hlim : l.length ≤ 140737488355328) :
    Calls Tryz.prog 110 #[.slice A l.length c] w fun e w' => ∃ v, e = .returned v ∧ w'.ownsRow w.heap.size 5 1 v l.length (bv l) ∧ Below w.heap.size w w' := by
  cases l with
  | nil =>
    cases A with
    | none =>
      refine (Tryz.bytes_Clone_nil 0 c w).mono ?_
      rintro e w' ⟨rfl, rfl⟩
      exact ⟨_, rfl, World.ownsRow_nil _ _ _ _, Below.refl _ _⟩
    | some a =>
      refine (Tryz.bytes_Clone_at a 0 c [] w rfl (by omega) (fun i hi => absurd hi (by omega))).mono ?_
      rintro e w' ⟨v, rfl, h, _, hb⟩
      exact ⟨v, rfl, h, hb⟩
  | cons x l =>
    obtain ⟨b, o, rfl, _, _, hc⟩ := hr (by simp)
    refine (Tryz.bytes_Clone_at ⟨b, o, none⟩ (x :: l).length c ((x :: l).map fun x => (x.toNat : Int)) w (by simp) hlim (fun i hi => ?_)).mono ?_
    · rw [Lib.addr_add, hc i hi, map_getD]
    · rintro e w' ⟨v, rfl, h, _, hb⟩
      refine ⟨v, rfl, ?_, hb⟩
      have e : ((x :: l).map fun x => (x.toNat : Int)).map (Value.int .u8) = bv (x :: l) := by simp [bv]
      rwa [e] at h

theorem wtr_slice {w : World} {p : Nat} {G : Option Nat} {l : List UInt8} (h : Wtr w p G l) :
    ∃ A c lr, w.heap[p]? = some (.cells #[.slice A l.length c, .int .i64 0, .int .i8 lr] 149 (0, 0)) ∧ l.length ≤ c ∧ c ≤ maxLen ∧ Rd w 0 w.heap.size A l := by
  obtain ⟨lr, h | ⟨g, cap, cur, rfl, h1, h2, h3, h4, h5, h6, h7, h8⟩⟩ := h
  · obtain ⟨rfl, he, h⟩ := h
    have : l = [] := by cases l with | nil => rfl | cons x l => simp [bv] at he
    subst this
    exact ⟨none, 0, lr, h, by simp, by unfold maxLen; omega, Rd.nil _ _ _ _⟩
  · rw [bv_length] at h3 h5 h8
    refine ⟨_, cap, lr, h3, h5, h6, fun _ => ⟨g, 0, rfl, Nat.zero_le _, Lib.lt_of_heap h4, fun i hi => ?_⟩⟩
    have := Lib.cells_of_row h4 l.length i _ (by rw [h8]; exact bv_get l i hi)
    rwa [Lib.addr_add] at this

set_option maxHeartbeats 800000 in
theorem wDone (p : Nat) (G : Option Nat) (l : List UInt8) (w : World) (h : Wtr w p G l) (hlim : l.length ≤ 140737488355328) :
    Calls Tryz.prog 51 #[.pointer (some ⟨p, 0, none⟩)] w fun e w' => ∃ v, e = .returned v ∧ w'.ownsRow w.heap.size 5 1 v l.length (bv l) ∧ Below w.heap.size w w' := by
  obtain ⟨A, c, lr, hp, hc, hm, hr⟩ := wtr_slice h
  go_enter Tryz.func51, Tryz.ntmps51
  go_wp2_with (go_at_call 111; refine (buf_bytes p A l.length c lr _ hc hm hp).mono ?_)
  rintro e w1 ⟨rfl, k, hk⟩
  have hr1 : Rd w1 0 w.heap.size A l := by rw [hk]; exact hr
  have hb : Below w.heap.size w w1 := by rw [hk]; exact ⟨rfl, rfl, rfl, Nat.le_refl _, fun _ _ => rfl⟩
  have HS : Hid (w1.heap.size = w.heap.size) := by show _ = _; rw [hk]; rfl
  clear hk hr hp
  go_wp2_with (go_at_call 110; refine (clone_any A l c 0 _ _ hr1 hlim).mono ?_)
  rintro e w2 ⟨v, rfl, h2, b2⟩
  obtain ⟨A2, c2, rfl, _, _⟩ := own_form h2
  rw [HS.out] at h2 b2
  go_wp2
  go_ret
  exact ⟨_, rfl, h2, hb.trans b2⟩

end Go.Proofs.YtmlmbahimklfiaaGreatDoor

/- Rdb -/
namespace Go.Proofs.YtmlmbahimklfiaaGreatDoor
open Go.RowKit

/-- Block p is a wire.Reader in the state st; its bytes lie in the blocks from lo on, below p. -/
def Rdr (w : World) (lo p : Nat) : RSt → Prop
  | none => w.heap[p]? = some (.cells #[.slice none 0 0, .bool false] 162 (0, 0))
  | some l => ∃ A c, w.heap[p]? = some (.cells #[.slice A l.length c, .bool true] 162 (0, 0)) ∧ l.length ≤ c ∧ c ≤ maxLen ∧ Rd w lo p A l

theorem Rdr.lt {w : World} {lo p : Nat} {st : RSt} (h : Rdr w lo p st) : p < w.heap.size := by
  cases st with
  | none => exact Lib.lt_of_heap h
  | some l => obtain ⟨A, c, h, _⟩ := h; exact Lib.lt_of_heap h
theorem Rdr.fr {M : Nat → Prop} {w w' : World} {lo p : Nat} {st : RSt} (h : Rdr w lo p st) (hf : Fr M w w') (hm : ∀ k, lo ≤ k → k ≤ p → ¬ M k) (hlo : lo ≤ p) : Rdr w' lo p st := by
  have hlt := h.lt
  cases st with
  | none => exact (hf.block p hlt (hm p hlo (Nat.le_refl _))).trans h
  | some l =>
    obtain ⟨A, c, h, h1, h2, h3⟩ := h
    exact ⟨A, c, (hf.block p hlt (hm p hlo (Nat.le_refl _))).trans h, h1, h2, h3.fr hf (by omega) fun k a b => hm k a (by omega)⟩

set_option maxHeartbeats 400000 in
theorem rGood_calls (lo p : Nat) (st : RSt) (w : World) (h : Rdr w lo p st) :
    Calls Tryz.prog 123 #[.pointer (some ⟨p, 0, none⟩)] w fun e w' => e = .returned (.bool (rGood st)) ∧ w = w' := by
  have h1 : w.cell? ⟨p, 1, none⟩ = some (.bool (rGood st)) := by
    cases st with
    | none => exact (cells_of h 1).1.trans rfl
    | some l => obtain ⟨A, c, h, _⟩ := h; exact (cells_of h 1).1.trans rfl
  clear h
  go_enter Tryz.func123, Tryz.ntmps123
  go_wp2
  go_ret
  exact ⟨rfl, rfl⟩

set_option maxHeartbeats 400000 in
theorem rFail_calls (lo p : Nat) (st : RSt) (w : World) (h : Rdr w lo p st) :
    Calls Tryz.prog 124 #[.pointer (some ⟨p, 0, none⟩)] w fun e w' => e = .returned (.tuple #[]) ∧ Rdr w' lo p none ∧ Fr (OneB p) w w' ∧ w'.heap.size = w.heap.size := by
  obtain ⟨a, b, hp⟩ : ∃ a b, w.heap[p]? = some (.cells #[a, b] 162 (0, 0)) := by
    cases st with
    | none => exact ⟨_, _, h⟩
    | some l => obtain ⟨A, c, h, _⟩ := h; exact ⟨_, _, h⟩
  have c0 := (cells_of hp 0).1
  have c1 := (cells_of hp 1).1
  have f0 := (cells_of hp 0).2
  have f1 := (cells_of hp 1).2
  simp only [List.getElem?_toArray, List.getElem?_cons_zero, List.getElem?_cons_succ] at c0 c1
  have q : Rdr ((w.setCell ⟨p, 1, none⟩ (.bool false)).setCell ⟨p, 0, none⟩ (.slice none 0 0)) lo p none := by
    show _ = _
    rw [heap_set (heap_set hp _)]; rfl
  clear h hp
  go_enter Tryz.func124, Tryz.ntmps124
  go_wp2
  go_end0
  exact ⟨rfl, q, ((Fr.refl (OneB p) w).setCell (p := ⟨p, 1, none⟩) (fun _ => rfl) _).setCell (p := ⟨p, 0, none⟩) (fun _ => rfl) _, by simp [World.setCell]⟩

/-- What take answers, and the reader behind it. -/
def Took (lo p : Nat) (r : List UInt8 × RSt) (w : World) (e : Ending) (w' : World) : Prop :=
  ∃ A c, e = .returned (.slice A r.1.length c) ∧ r.1.length ≤ c ∧ c ≤ maxLen ∧ Rd w' lo p A r.1 ∧ Rdr w' lo p r.2 ∧ Fr (OneB p) w w' ∧ w'.heap.size = w.heap.size

set_option maxHeartbeats 400000 in
theorem rTake_none (lo p : Nat) (n : Int) (w : World) (h : Rdr w lo p none) :
    Calls Tryz.prog 122 #[.pointer (some ⟨p, 0, none⟩), .int .i64 n] w (Took lo p ([], none) w) := by
  have c1 := (cells_of h 1).1
  simp only [List.getElem?_toArray, List.getElem?_cons_zero, List.getElem?_cons_succ] at c1
  have q : Took lo p ([], none) w (.returned (.slice none 0 0)) w := ⟨none, 0, rfl, by simp, by unfold maxLen; omega, Rd.nil _ _ _ _, h, Fr.refl _ _, rfl⟩
  clear h
  go_enter Tryz.func122, Tryz.ntmps122
  go_wp2
  go_ret
  exact q

set_option maxHeartbeats 800000 in
theorem rTake_bad (lo p : Nat) (l : List UInt8) (n : Int) (w : World) (h : Rdr w lo p (some l)) (hn : n < 0 ∨ (l.length : Int) < n) :
    Calls Tryz.prog 122 #[.pointer (some ⟨p, 0, none⟩), .int .i64 n] w (Took lo p ([], none) w) := by
  have h' := h
  obtain ⟨A, c, hp, hl, hc, hr⟩ := h
  have c0 := (cells_of hp 0).1
  have c1 := (cells_of hp 1).1
  simp only [List.getElem?_toArray, List.getElem?_cons_zero, List.getElem?_cons_succ] at c0 c1
  clear hp hr
  unfold maxLen at hc
  have q : ∀ w1, Rdr w1 lo p none → Fr (OneB p) w w1 → w1.heap.size = w.heap.size → Took lo p ([], none) w (.returned (.slice none 0 0)) w1 := fun w1 a b d => ⟨none, 0, rfl, by simp, by unfold maxLen; omega, Rd.nil _ _ _ _, a, b, d⟩
  by_cases h0 : n < 0
  rotate_left
  · have hn2 : (l.length : Int) < n := by omega
    have h00 : 0 ≤ n := by omega
    clear hn h0
    go_enter Tryz.func122, Tryz.ntmps122
    go_wp2_with (go_at_call 124; refine (rFail_calls lo p _ _ h').mono ?_; rintro e w1 ⟨rfl, q1, q2, q3⟩)
    go_ret
    exact q _ q1 q2 q3
  · clear hn
    go_enter Tryz.func122, Tryz.ntmps122
    go_wp2_with (go_at_call 124; refine (rFail_calls lo p _ _ h').mono ?_; rintro e w1 ⟨rfl, q1, q2, q3⟩)
    go_ret
    exact q _ q1 q2 q3

theorem take_end {w : World} {lo p n c c' : Nat} {A A' : Option Addr} {l : List UInt8} (hp : w.heap[p]? = some (.cells #[.slice A l.length c, .bool true] 162 (0, 0))) (hn : n ≤ l.length) (hl : l.length ≤ c) (hc : c ≤ maxLen) (hr : Rd w lo p A l)
    (hc1 : l.length - n ≤ c') (hc2 : c' ≤ c) (hr' : Rd w lo p A' (l.drop n)) :
    Took lo p (l.take n, some (l.drop n)) w (.returned (.slice A n n)) (w.setCell ⟨p, 0, none⟩ (.slice A' (l.length - n) c')) := by
  have hF : Fr (OneB p) w (w.setCell ⟨p, 0, none⟩ (.slice A' (l.length - n) c')) := (Fr.refl (OneB p) w).setCell (p := ⟨p, 0, none⟩) (fun _ => rfl) _
  have hlt := Lib.lt_of_heap hp
  have e1 : (l.take n).length = n := by simp; omega
  have e2 : (l.drop n).length = l.length - n := by simp
  refine ⟨A, n, by rw [e1], by rw [e1]; exact Nat.le_refl _, by omega, hr.take.fr hF (by omega) (fun k _ h => by simp [OneB]; omega), ⟨A', c', ?_, by omega, by omega, hr'.fr hF (by omega) (fun k _ h => by simp [OneB]; omega)⟩, hF, by simp [World.setCell]⟩
  rw [e2, heap_set hp]; rfl

set_option maxHeartbeats 800000 in
theorem rTake_ok (lo p : Nat) (l : List UInt8) (n : Nat) (w : World) (h : Rdr w lo p (some l)) (hn : n ≤ l.length) :
    Calls Tryz.prog 122 #[.pointer (some ⟨p, 0, none⟩), .int .i64 n] w (Took lo p (l.take n, some (l.drop n)) w) := by
  obtain ⟨A, c, hp, hl, hc, hr⟩ := h
  have c0 := (cells_of hp 0).1
  have c1 := (cells_of hp 1).1
  have f0 := (cells_of hp 0).2
  simp only [List.getElem?_toArray, List.getElem?_cons_zero, List.getElem?_cons_succ] at c0 c1
  have hc' := hc
  unfold maxLen at hc
  go_enter Tryz.func122, Tryz.ntmps122
  go_wp2
  all_goals go_ret
  · exact take_end hp hn hl hc' hr (by omega) (by omega) (Rd.drop hr hn hl |> fun q => by rwa [if_pos (by assumption)] at q)
  · exact take_end hp hn hl hc' hr (by omega) (by omega) (Rd.drop hr hn hl |> fun q => by rwa [if_neg (by assumption)] at q)

theorem rTake (lo p : Nat) (st : RSt) (n : Int) (w : World) (h : Rdr w lo p st) :
    Calls Tryz.prog 122 #[.pointer (some ⟨p, 0, none⟩), .int .i64 n] w (Took lo p (tk st n) w) := by
  cases st with
  | none => exact rTake_none lo p n w h
  | some l =>
    by_cases hn : 0 ≤ n ∧ n ≤ l.length
    · obtain ⟨m, rfl⟩ := Int.eq_ofNat_of_zero_le hn.1
      have e : tk (some l) (m : Int) = (l.take m, some (l.drop m)) := by simp only [tk]; rw [if_pos hn]; rfl
      rw [e]
      exact rTake_ok lo p l m w h (by omega)
    · have e : tk (some l) n = ([], none) := by simp only [tk]; rw [if_neg hn]
      rw [e]
      exact rTake_bad lo p l n w h (by omega)

/-- What a call of a reader answers. -/
def Rres (lo p : Nat) (v : Value) (st : RSt) (w : World) (e : Ending) (w' : World) : Prop :=
  e = .returned v ∧ Rdr w' lo p st ∧ Fr (OneB p) w w' ∧ w'.heap.size = w.heap.size

theorem take1 (st : RSt) : (rByte st).2 = (tk st 1).2 ∧ ((tk st 1).1 = [] ∧ (rByte st).1 = 0 ∨ (tk st 1).1 = [(rByte st).1]) := by
  cases st with
  | none => simp [rByte, tk]
  | some l =>
    cases l with
    | nil => simp [rByte, tk]
    | cons x l =>
      have h1 : (1 : Int) ≤ (l.length : Int) + 1 := by omega
      simp [rByte, tk, h1]

set_option maxHeartbeats 800000 in
theorem rByte_calls (lo p : Nat) (st : RSt) (w : World) (h : Rdr w lo p st) :
    Calls Tryz.prog 65 #[.pointer (some ⟨p, 0, none⟩)] w (Rres lo p (.int .u8 (rByte st).1.toNat) (rByte st).2 w) := by
  obtain ⟨e2, e1⟩ := take1 st
  rw [e2]
  have HE := Lib.hid e1
  clear e1 e2
  go_enter Tryz.func65, Tryz.ntmps65
  go_wp2_with (go_at_call 122; refine (rTake lo p st 1 _ h).mono ?_)
  rintro e w1 ⟨A, c, rfl, h1, h2, h3, h4, h5, h6⟩
  have H6 := Lib.hid h6
  clear h6
  unfold maxLen at h2
  rcases HE.out with ⟨a, b⟩ | a
  · rw [a] at h1 ⊢
    have Hr : Hid (Rdr w1 lo p (tk st 1).2) := h4
    have HB := Lib.hid b
    clear h4 h3 a b
    go_wp2
    go_ret
    exact ⟨by rw [HB.out]; rfl, Hr, h5, H6⟩
  · rw [a] at h1 h3 ⊢
    obtain ⟨b, o, rfl, _, _, hc⟩ := h3 (by simp)
    have hcell := hc 0 (by simp)
    simp only [List.getD, List.getElem?_cons_zero, Option.getD_some, Nat.add_zero] at hcell
    have Hr : Hid (Rdr w1 lo p (tk st 1).2) := h4
    clear h4 hc a
    go_wp2
    go_ret
    exact ⟨rfl, Hr, h5, H6⟩

/-- The state of a reader whose bytes begin with what has been looked at. -/
theorem rInt_none (lo p : Nat) (w : World) (h : Rdr w lo p none) :
    Calls Tryz.prog 66 #[.pointer (some ⟨p, 0, none⟩)] w (Rres lo p (.int .i64 0) none w) := by
  go_enter Tryz.func66, Tryz.ntmps66
  go_wp2_with (go_at_call 123; refine (rGood_calls lo p none _ h).mono ?_; rintro e w1 ⟨rfl, rfl⟩)
  go_ret
  exact ⟨rfl, h, Fr.refl _ _, rfl⟩

theorem tk_eq {l : List UInt8} {k : Nat} (hk : k < l.length) {x : Int} (hx : x = (k : Int) + 1) : (tk (some l) x).2 = some (l.drop (k + 1)) := by
  subst hx
  have h1 : (0 : Int) ≤ (k : Int) + 1 ∧ (k : Int) + 1 ≤ l.length := by omega
  simp only [tk]
  rw [if_pos h1]
  rfl

set_option maxHeartbeats 1600000 in
theorem rInt_some (lo p : Nat) (l : List UInt8) (w : World) (h : Rdr w lo p (some l)) :
    Calls Tryz.prog 66 #[.pointer (some ⟨p, 0, none⟩)] w (Rres lo p (.int .i64 (rInt (some l)).1) (rInt (some l)).2 w) := by
  obtain ⟨A, c, hp, hl, hc, hr⟩ := id h
  have c0 := (cells_of hp 0).1
  simp only [List.getElem?_toArray, List.getElem?_cons_zero] at c0
  clear hp
  have hc' := hc
  unfold maxLen at hc
  generalize hR : rInt (some l) = R
  have HR := Lib.hid hR
  clear hR
  go_enter Tryz.func66, Tryz.ntmps66
  go_wp2_with (go_at_call 123; refine (rGood_calls lo p (some l) _ h).mono ?_; rintro e w1 ⟨rfl, rfl⟩)
  have hg : rGood (some l) = true := rfl
  have hlm : l.length ≤ 9223372036854775807 := by omega
  go_loop [2, 3, 4] (fun r u i => r = .int .i64 0 ∧ ∃ k acc : Nat, u = .int .u64 (acc : Int) ∧ i = .int .i64 (k : Int) ∧ k ≤ l.length ∧ k ≤ 9 ∧ acc < 128 ^ k ∧ numAt k acc (l.drop k) = numAt 0 0 l) (fun _ _ i => l.length - (intOf i).toNat)
  case atStart => exact ⟨rfl, 0, 0, rfl, rfl, Nat.zero_le _, Nat.zero_le _, by simp, rfl⟩
  case round =>
    obtain ⟨rfl, k, acc, rfl, rfl, hk, hk9, hacc, hnum⟩ := hrel
    by_cases hlt : k < l.length
    · obtain ⟨b, o, rfl, -, -, hcell0⟩ := hr (by omega)
      have hcell := hcell0 k hlt
      have hV := (l.getD k 0).toNat_lt
      have HC := Lib.hid (show l.drop k = l.getD k 0 :: l.drop (k + 1) by rw [List.drop_eq_getElem_cons hlt]; simp [List.getD, hlt])
      have HN := Lib.hid hnum
      have HA := Lib.hid hacc
      clear hnum hacc hr hl hcell0
      generalize l.getD k 0 = c at hcell hV HC
      generalize hcV : c.toNat = V at hcell hV
      have HcV := Lib.hid hcV
      clear hcV
      by_cases hc1 : 127 < V ∧ k < 9
      · obtain ⟨hc1, hk1⟩ := hc1
        have hst := rd_step acc V k hk9 HA.out hV (by omega)
        have hn1 : numAt (k + 1) (acc + V % 128 * 128 ^ k) (l.drop (k + 1)) = numAt 0 0 l := by
          rw [← HN.out, HC.out, numAt, if_pos ⟨by rw [HcV.out]; omega, hk1⟩, HcV.out]
          rw [show V - 128 = V % 128 by omega]
        have ha1 : acc + V % 128 * 128 ^ k < 128 ^ (k + 1) := by
          have := HA.out
          have hm : V % 128 ≤ 127 := by omega
          have := Nat.mul_le_mul_right (128 ^ k) hm
          rw [Nat.pow_succ]; omega
        have HN1 := Lib.hid hn1
        have HA1 := Lib.hid ha1
        clear hn1 ha1
        generalize acc + V % 128 * 128 ^ k = U at hst HN1 HA1
        go_wp2_with fail
        go_round
        case rel => (repeat apply Exists.intro); exact ⟨⟨rfl, k + 1, U, rfl, by go_num, by omega, by omega, HA1.out, HN1.out⟩, rfl, rfl, rfl⟩
        case measure => simp [intOf]; omega
      · by_cases hbad : (V = 0 ∧ 0 < k) ∨ (1 < V ∧ k = 9)
        · have hres : rInt (some l) = (0, none) := by
            have : numAt 0 0 l = none := by rw [← HN.out, HC.out, numAt, if_neg (by rw [HcV.out]; omega), if_pos (by rw [HcV.out]; omega)]
            simp only [rInt, this]
          rw [hres] at HR
          have HR2 := Lib.hid HR.out.symm
          clear HR hres HN HC HcV HA
          by_cases hz : V = 0
          all_goals
            go_wp2_with (go_at_call 124; refine (rFail_calls lo p _ _ h).mono ?_; rintro e w1 ⟨rfl, q1, q2, q3⟩; have Q3 := Lib.hid q3; clear q3)
            all_goals first | (exfalso; omega) | skip
            all_goals
              go_ret
              refine ⟨?_, ?_, q2, Q3⟩ <;> rw [HR2.out]
              · rfl
              · exact q1
        · have hst := rd_step acc V k hk9 HA.out hV (by omega)
          have hbd := rd_bound acc V k hk9 HA.out (by omega)
          have hres : rInt (some l) = (unzig (acc + V % 128 * 128 ^ k), some (l.drop (k + 1))) := by
            have : numAt 0 0 l = some (acc + V % 128 * 128 ^ k, l.drop (k + 1)) := by
              rw [← HN.out, HC.out, numAt, if_neg (by rw [HcV.out]; omega), if_neg (by rw [HcV.out]; omega), HcV.out]
              rw [show V % 128 = V by omega]
            simp only [rInt, this]
          rw [hres] at HR
          have HR2 := Lib.hid HR.out.symm
          clear hres HR HN HA HC HcV
          generalize acc + V % 128 * 128 ^ k = U at hst HR2 hbd
          have hun := unzig_bits U hbd
          generalize unzig U = UZ at hun HR2
          have HB := Lib.hid hbd
          clear hbd
          go_wp2_with fail
          all_goals
            refine (rTake lo p (some l) _ _ h).mono ?_
            rintro e w1 ⟨A, c3, rfl, -, -, -, h4, h5, h6⟩
            have H6 := Lib.hid h6
            clear h6
            rw [tk_eq (k := k) hlt (by omega)] at h4
            go_wp2
            go_ret
            refine ⟨?_, ?_, h5, H6⟩ <;> rw [HR2.out]
            · rfl
            · exact h4
    · have hres : rInt (some l) = (0, none) := by
        have : numAt 0 0 l = none := by rw [← hnum, List.drop_eq_nil_of_le (by omega)]; rfl
        simp only [rInt, this]
      rw [hres] at HR
      have HR2 := Lib.hid HR.out.symm
      clear HR hres hnum hacc
      go_wp2_with (go_at_call 124; refine (rFail_calls lo p _ _ h).mono ?_; rintro e w1 ⟨rfl, q1, q2, q3⟩; have Q3 := Lib.hid q3; clear q3)
      go_ret
      refine ⟨?_, ?_, q2, Q3⟩ <;> rw [HR2.out]
      · rfl
      · exact q1

theorem rInt_calls (lo p : Nat) (st : RSt) (w : World) (h : Rdr w lo p st) :
    Calls Tryz.prog 66 #[.pointer (some ⟨p, 0, none⟩)] w (Rres lo p (.int .i64 (rInt st).1) (rInt st).2 w) := by
  cases st with
  | none => exact rInt_none lo p w h
  | some l => exact rInt_some lo p l w h

end Go.Proofs.YtmlmbahimklfiaaGreatDoor

/- Rdb -/
namespace Go.Proofs.YtmlmbahimklfiaaGreatDoor
open Go.RowKit

set_option maxHeartbeats 800000 in
theorem rCount_calls (lo p : Nat) (st : RSt) (m : Int) (w : World) (h : Rdr w lo p st) :
    Calls Tryz.prog 128 #[.pointer (some ⟨p, 0, none⟩), .int .i64 m] w (Rres lo p (.int .i64 (rCount st m).1) (rCount st m).2 w) := by
  generalize hR : rCount st m = R
  have HR := Lib.hid hR
  clear hR
  obtain ⟨n, st', hn⟩ : ∃ n st', rInt st = (n, st') := ⟨_, _, rfl⟩
  have hI := fun W (hW : Rdr W lo p st) => rInt_calls lo p st W hW
  rw [hn] at hI
  have HI := Lib.hid hI
  have HR2 : Hid (R = if n < 0 ∨ m < n then (0, none) else (n, st')) := by show _ = _; rw [← HR.out]; simp only [rCount, hn]
  clear hI hn HR
  by_cases h1 : n < 0
  · go_enter Tryz.func128, Tryz.ntmps128
    go_wp2_with (first | (go_at_call 66; refine (HI.out _ h).mono ?_; rintro e w1 ⟨rfl, q1, q2, q3⟩; have Q3 := Lib.hid q3; clear q3) | (go_at_call 124; refine (rFail_calls lo p _ _ q1).mono ?_; rintro e w2 ⟨rfl, s1, s2, s3⟩; have S3 := Lib.hid s3; clear s3))
    go_ret
    have e := HR2.out
    rw [if_pos (.inl h1)] at e
    exact ⟨by rw [e]; rfl, by rw [e]; exact s1, q2.then s2, S3.out.trans Q3.out⟩
  · by_cases h2 : m < n
    · have h1' : 0 ≤ n := by omega
      go_enter Tryz.func128, Tryz.ntmps128
      go_wp2_with (first | (go_at_call 66; refine (HI.out _ h).mono ?_; rintro e w1 ⟨rfl, q1, q2, q3⟩; have Q3 := Lib.hid q3; clear q3) | (go_at_call 124; refine (rFail_calls lo p _ _ q1).mono ?_; rintro e w2 ⟨rfl, s1, s2, s3⟩; have S3 := Lib.hid s3; clear s3))
      go_ret
      have e := HR2.out
      rw [if_pos (.inr h2)] at e
      exact ⟨by rw [e]; rfl, by rw [e]; exact s1, q2.then s2, S3.out.trans Q3.out⟩
    · have h1' : 0 ≤ n := by omega
      have h2' : n ≤ m := by omega
      go_enter Tryz.func128, Tryz.ntmps128
      go_wp2_with (go_at_call 66; refine (HI.out _ h).mono ?_; rintro e w1 ⟨rfl, q1, q2, q3⟩; have Q3 := Lib.hid q3; clear q3)
      go_ret
      have e := HR2.out
      rw [if_neg (by omega)] at e
      exact ⟨by rw [e]; rfl, by rw [e]; exact q1, q2, Q3⟩

/-- Bytes: new bytes. -/
def RresB (lo p : Nat) (l : List UInt8) (st : RSt) (w : World) (e : Ending) (w' : World) : Prop :=
  ∃ v, e = .returned v ∧ w'.ownsRow w.heap.size 5 1 v l.length (bv l) ∧ Rdr w' lo p st ∧ Fr (OneB p) w w'

def RLim : RSt → Prop
  | none => True
  | some l => l.length ≤ 140737488355328

theorem numAt_len {k acc u : Nat} {l r : List UInt8} (h : numAt k acc l = some (u, r)) : r.length < l.length := by
  induction l generalizing k acc with
  | nil => simp [numAt] at h
  | cons c l ih =>
    unfold numAt at h
    split at h
    · have := ih h; simp; omega
    · split at h
      · cases h
      · cases h; simp
theorem rInt_lim {st : RSt} (h : RLim st) : RLim (rInt st).2 := by
  cases st with
  | none => trivial
  | some l =>
    simp only [rInt]
    cases hn : numAt 0 0 l with
    | none => trivial
    | some x =>
      have := numAt_len (u := x.1) (r := x.2) hn
      simp only [RLim] at h ⊢; omega
theorem rCount_lim {st : RSt} {m : Int} (h : RLim st) : RLim (rCount st m).2 := by
  simp only [rCount]
  split
  · trivial
  · exact rInt_lim h
theorem tk_lim {st : RSt} {n : Int} (h : RLim st) : RLim (tk st n).2 ∧ (tk st n).1.length ≤ 140737488355328 := by
  cases st with
  | none => exact ⟨trivial, by simp [tk]⟩
  | some l =>
    simp only [RLim] at h
    simp only [tk]
    split
    · exact ⟨by simp [RLim]; omega, by simp; omega⟩
    · exact ⟨trivial, by simp⟩

set_option maxHeartbeats 800000 in
theorem rBytes_calls (lo p : Nat) (st : RSt) (m : Int) (w : World) (h : Rdr w lo p st) (hlo : lo ≤ p) (hl : RLim st) :
    Calls Tryz.prog 126 #[.pointer (some ⟨p, 0, none⟩), .int .i64 m] w (RresB lo p (rBytes st m).1 (rBytes st m).2 w) := by
  have hlt := h.lt
  have hl2 := (tk_lim (n := (rCount st m).1) (rCount_lim (m := m) hl)).2
  have HR : Hid (rBytes st m = tk (rCount st m).2 (rCount st m).1) := rfl
  go_enter Tryz.func126, Tryz.ntmps126
  go_wp2_with (go_at_call 128; refine (rCount_calls lo p st m _ h).mono ?_)
  rintro e w1 ⟨rfl, q1, q2, q3⟩
  have Q3 := Lib.hid q3; clear q3
  go_wp2_with (go_at_call 122; refine (rTake lo p _ _ _ q1).mono ?_)
  rintro e w2 ⟨A, c, rfl, k1, k2, k3, k4, k5, k6⟩
  have K6 := Lib.hid k6; clear k6
  go_wp2_with (go_at_call 110; refine (clone_any A _ c lo p _ k3 hl2).mono ?_)
  rintro e w3 ⟨v, rfl, o1, o2⟩
  obtain ⟨A2, c2, rfl, _, _⟩ := own_form o1
  have hsz : w2.heap.size = w.heap.size := K6.out.trans Q3.out
  have o3 : Rdr w3 lo p (tk (rCount st m).2 (rCount st m).1).2 := k4.fr (Fr.ofBelow (M := NoB) o2) (fun _ _ _ x => x) hlo
  rw [hsz] at o1
  have HF : Hid (Fr (OneB p) w w3) := (q2.then k5).trans (Fr.ofBelow (M := NoB) o2) fun _ _ x => x.elim
  clear q2 k5 o2 hsz
  go_wp2
  go_ret
  refine ⟨_, rfl, ?_, ?_, HF⟩ <;> rw [HR.out]
  · exact o1
  · exact o3

set_option maxHeartbeats 400000 in
theorem rWhole_calls (lo p : Nat) (st : RSt) (w : World) (h : Rdr w lo p st) :
    Calls Tryz.prog 68 #[.pointer (some ⟨p, 0, none⟩)] w fun e w' => e = .returned (.bool (rWhole st)) ∧ w = w' := by
  cases st with
  | none =>
    go_enter Tryz.func68, Tryz.ntmps68
    go_wp2_with (go_at_call 123; refine (rGood_calls lo p none _ h).mono ?_; rintro e w1 ⟨rfl, rfl⟩)
    go_ret
    exact ⟨rfl, rfl⟩
  | some l =>
    obtain ⟨A, c, hp, hl, hc, hr⟩ := id h
    have c0 := (cells_of hp 0).1
    simp only [List.getElem?_toArray, List.getElem?_cons_zero] at c0
    clear hp hr
    have hg : rGood (some l) = true := rfl
    cases l with
    | nil =>
      go_enter Tryz.func68, Tryz.ntmps68
      go_wp2_with (go_at_call 123; refine (rGood_calls lo p _ _ h).mono ?_; rintro e w1 ⟨rfl, rfl⟩)
      go_ret
      exact ⟨rfl, rfl⟩
    | cons x l =>
      have hb : ((x :: l).length == 0) = false := rfl
      go_enter Tryz.func68, Tryz.ntmps68
      go_wp2_with (go_at_call 123; refine (rGood_calls lo p _ _ h).mono ?_; rintro e w1 ⟨rfl, rfl⟩)
      go_ret
      refine ⟨?_, rfl⟩
      simp [rWhole]
      omega

set_option maxHeartbeats 800000 in
theorem rText_calls (lo p : Nat) (st : RSt) (m : Int) (w : World) (h : Rdr w lo p st) :
    Calls Tryz.prog 125 #[.pointer (some ⟨p, 0, none⟩), .int .i64 m] w (Rres lo p (.string ⟨(rBytes st m).1.toArray⟩) (rBytes st m).2 w) := by
  have HR : Hid (rBytes st m = tk (rCount st m).2 (rCount st m).1) := rfl
  go_enter Tryz.func125, Tryz.ntmps125
  go_wp2_with (go_at_call 128; refine (rCount_calls lo p st m _ h).mono ?_)
  rintro e w1 ⟨rfl, q1, q2, q3⟩
  have Q3 := Lib.hid q3; clear q3
  go_wp2_with (go_at_call 122; refine (rTake lo p _ _ _ q1).mono ?_)
  rintro e w2 ⟨A, c, rfl, k1, k2, k3, k4, k5, k6⟩
  have K6 := Lib.hid k6; clear k6
  have hconv : (convert 24 9 (.slice A (tk (rCount st m).2 (rCount st m).1).1.length c)).run Tryz.prog w2 = .ok (.string ⟨(tk (rCount st m).2 (rCount st m).1).1.toArray⟩) w2 := conv_string Tryz.underlying24 Tryz.underlying5 Tryz.underlying9 k3
  have Q2 := Lib.hid q2; clear q2
  clear k3
  go_wp2
  go_ret
  refine ⟨?_, ?_, Q2.out.then k5, K6.out.trans Q3.out⟩ <;> rw [HR.out]
  · rfl
  · exact k4

set_option maxHeartbeats 800000 in
theorem rNew_calls (A : Option Addr) (l : List UInt8) (c lo hi : Nat) (w : World) (hr : Rd w lo hi A l) (hlim : l.length ≤ 140737488355328) :
    Calls Tryz.prog 64 #[.slice A l.length c] w fun e w' => ∃ p, e = .returned (.pointer (some ⟨p, 0, none⟩)) ∧ w.heap.size ≤ p ∧ Rdr w' w.heap.size p (some l) ∧ Fr NoB w w' ∧ w'.heap.size = p + 1 := by
  go_enter Tryz.func64, Tryz.ntmps64
  go_wp2_with (go_at_call 110; refine (clone_any A l c lo hi _ hr hlim).mono ?_)
  rintro e w1 ⟨v, rfl, o1, o2⟩
  obtain ⟨A2, c2, rfl, h1, h2⟩ := own_form o1
  have hr1 := own_rd o1
  clear o1
  go_wp2
  go_ret
  refine ⟨_, rfl, o2.size, ⟨A2, c2, heap_alloc_new w1 _, h1, h2, ?_⟩, (Fr.ofBelow o2).alloc _, by simp⟩
  exact hr1.keep fun k _ hk => Below.heap_alloc _ _ _ hk

end Go.Proofs.YtmlmbahimklfiaaGreatDoor
