/-
  Ntg: Links.
-/
import Derived.Test.YtmgkenbfjlahpaaNtf
import Derived.Test.YtmgkenbfjlahpaaShelf
import Derived.Deep.RegionHeld3
import Derived.Maps.RangeWalk
namespace Go.Proofs.Ytmgkenbfjlahpaa
open Go.RowKit Go.WideMaps Go.Sort

set_option maxHeartbeats 1600000 in
/-- cmp.Or of two numbers. -/
theorem or_calls (g : Nat) (c : Nat) (x y : Int) (w : World) (h0 : w.cell? ⟨g, 0, none⟩ = some (.int .i64 x)) (h1 : w.cell? ⟨g, 1, none⟩ = some (.int .i64 y)) :
    Calls Try.prog 44 #[.slice (some ⟨g, 0, none⟩) 2 c] w fun e w' => e = .returned (.int .i64 (if x ≠ 0 then x else y)) ∧ w = w' := by
  by_cases hx : x = 0
  · subst hx
    by_cases hy : y = 0
    · subst hy
      go_enter Try.func44, Try.ntmps44
      go_wp2
      refine wp_loop_rounds 3 ?_
      rw [rounds_succ]
      go_wp2
      rw [rounds_succ]
      go_wp2
      rw [rounds_succ]
      go_wp2
      go_ret
      exact ⟨rfl, rfl⟩
    · have hb : (y != 0) = true := by simpa using hy
      go_enter Try.func44, Try.ntmps44
      go_wp2
      refine wp_loop_rounds 3 ?_
      rw [rounds_succ]
      go_wp2
      rw [rounds_succ]
      go_wp2
      go_ret
      exact ⟨rfl, rfl⟩
  · have hb : (x != 0) = true := by simpa using hx
    rw [if_pos hx]
    go_enter Try.func44, Try.ntmps44
    go_wp2
    refine wp_loop_rounds 3 ?_
    rw [rounds_succ]
    go_wp2
    go_ret
    exact ⟨rfl, rfl⟩

theorem cell_two (W : World) (o1 o2 : Obj) (i : Nat) : ((W.alloc o1).alloc o2).cell? ⟨W.heap.size, i, none⟩ = (W.alloc o1).cell? ⟨W.heap.size, i, none⟩ :=
  World.cell?_of_block (a := ⟨W.heap.size, i, none⟩) (by rw [Below.heap_alloc _ _ _ (by simp)])
set_option maxRecDepth 8000 in
set_option maxHeartbeats 3200000 in
theorem closure_calls (x y : Lk) (W : World) : Calls Try.prog 43 #[.agg #[.int .i64 x.1, .int .i64 x.2], .agg #[.int .i64 y.1, .int .i64 y.2]] W fun e w' => e = .returned (.int .i64 (cfK x y)) ∧ ∃ q os', w' = grow (W.drewN q) os' := by
  obtain ⟨x1, x2⟩ := x
  obtain ⟨y1, y2⟩ := y
  have hcmp := fun a b W' => Try.cmp_Compare_int a b W'
  have hcf : cfK (x1, x2) (y1, y2) = if Lib.compareInt x1 y1 ≠ 0 then Lib.compareInt x1 y1 else Lib.compareInt x2 y2 := rfl
  rw [hcf]
  have c1 := hcmp x1 y1
  have c2 := hcmp x2 y2
  clear hcf hcmp
  generalize Lib.compareInt x1 y1 = r1 at *
  generalize Lib.compareInt x2 y2 = r2 at *
  obtain ⟨Wb, hWb⟩ : ∃ Wb, ((W.alloc (.cells #[.int .i64 x1, .int .i64 x2] 52)).alloc (.cells #[.int .i64 y1, .int .i64 y2] 52)) = Wb := ⟨_, rfl⟩
  have k1 := World.news_of_block (heap_alloc_new W (.cells #[.int .i64 x1, .int .i64 x2] 52))
  have k2 := World.news_of_block (heap_alloc_new (W.alloc (.cells #[.int .i64 x1, .int .i64 x2] 52)) (.cells #[.int .i64 y1, .int .i64 y2] 52))
  have hS : Hid (∀ W2, Fr NoB Wb W2 → W2.cell? ⟨W.heap.size, 0, none⟩ = some (.int .i64 x1) ∧ W2.cell? ⟨W.heap.size, 1, none⟩ = some (.int .i64 x2) ∧ W2.cell? ⟨W.heap.size + 1, 0, none⟩ = some (.int .i64 y1) ∧ W2.cell? ⟨W.heap.size + 1, 1, none⟩ = some (.int .i64 y2)) := Lib.hid fun W2 F => by
    have l1 : W.heap.size < Wb.heap.size := by rw [← hWb]; simp; omega
    have l2 : W.heap.size + 1 < Wb.heap.size := by rw [← hWb]; simp
    refine ⟨?_, ?_, ?_, ?_⟩
    · rw [F.cell (p := ⟨W.heap.size, 0, none⟩) l1 (fun h => h), ← hWb, cell_two]; simp
    · rw [F.cell (p := ⟨W.heap.size, 1, none⟩) l1 (fun h => h), ← hWb, cell_two]; simp
    · rw [F.cell (p := ⟨W.heap.size + 1, 0, none⟩) l2 (fun h => h), ← hWb]; simp
    · rw [F.cell (p := ⟨W.heap.size + 1, 1, none⟩) l2 (fun h => h), ← hWb]; simp
  have hG : Hid (∃ os, Wb = grow W os) := Lib.hid ⟨_, by rw [← hWb, alloc_eq_grow, alloc_eq_grow, grow_grow]⟩
  obtain ⟨r, hr⟩ : ∃ r, (if r1 ≠ 0 then r1 else r2) = r := ⟨_, rfl⟩
  rw [hr]
  have HOR : Hid (Calls Try.prog 44 #[.slice (some ⟨Wb.heap.size, 0, none⟩) 2 2] (Wb.alloc (.cells #[.int .i64 r1, .int .i64 r2] 3)).drew fun e w' => e = .returned (.int .i64 r) ∧ (Wb.alloc (.cells #[.int .i64 r1, .int .i64 r2] 3)).drew = w') := Lib.hid (hr ▸ or_calls _ _ r1 r2 _ (by simp) (by simp))
  have HWB := Lib.hid hWb
  clear k1 k2 hWb hr
  go_enter Try.func43, Try.ntmps43
  go_wp2
  rw [HWB.out]
  go_region_held3 (fun W2 => W2.cell? ⟨W.heap.size, 0, none⟩ = some (.int .i64 x1) ∧ W2.cell? ⟨W.heap.size, 1, none⟩ = some (.int .i64 x2) ∧ W2.cell? ⟨W.heap.size + 1, 0, none⟩ = some (.int .i64 y1) ∧ W2.cell? ⟨W.heap.size + 1, 1, none⟩ = some (.int .i64 y2)) (first
    | with_reducible exact hS.out _ (Fr.refl NoB Wb)
    | with_reducible exact hS.out _ ((Fr.refl NoB Wb).drew)
    | with_reducible exact hS.out _ (((Fr.refl NoB Wb).alloc _).drew)) (first
    | ((with_reducible refine (c1 _).mono ?_); rintro e w2 ⟨rfl, rfl⟩)
    | ((with_reducible refine (c2 _).mono ?_); rintro e w2 ⟨rfl, rfl⟩)
    | (go_at_call 44; refine (HOR.out).mono ?_; rintro e w3 ⟨rfl, rfl⟩))
  obtain ⟨os, hos⟩ := hG.out
  go_wp2
  go_ret
  exact ⟨rfl, 1, _, by rw [alloc_eq_grow, hos, grow_grow, drew_grow]; rfl⟩
end Go.Proofs.Ytmgkenbfjlahpaa
