/-
  Ntj: no net, and one that nobody made; NetNil.
-/
import Derived.Test.YtmgkenbfjlahpaaNti
import Derived.Laws.IdiomRangeMap
namespace Go.Proofs.Ytmgkenbfjlahpaa
open Go.RowKit Go.WideMaps Go.Sort

/-- No net, or one without a map. -/
def NoNet (w : World) (v : Value) : Prop := v = .pointer none ∨ ∃ p, v = .pointer (some ⟨p, 0, none⟩) ∧ w.cell? ⟨p, 0, none⟩ = some (.map none) ∧ p < w.heap.size
theorem NoNet.fr {w w' : World} {v : Value} (h : NoNet w v) (f : Fr NoB w w') : NoNet w' v := by
  rcases h with h | ⟨p, h1, h2, h3⟩
  · exact .inl h
  · exact .inr ⟨p, h1, (f.cell (p := ⟨p, 0, none⟩) h3 (fun x => x)).trans h2, Nat.lt_of_lt_of_le h3 f.size⟩
set_option maxRecDepth 8000 in
theorem look_no {a b : Int} (hk : InR (a, b)) (w : World) : (Instr.lookup 48 (.map none) (.agg #[.int .i64 a, .int .i64 b]) false).run Try.prog w = .ok (.slice none 0 0) w := by
  have h := Maps.look_nil (P := Try.prog) (w := w) false keyd Try.underlying48 (zero_rows w) (key_of hk)
  simp only [Bool.false_eq_true, if_false] at h
  exact h
theorem del_no {a b : Int} (hk : InR (a, b)) (w : World) (ty : TypeId) : (Builtin.delete_ #[48, 52] ty #[.map none, .agg #[.int .i64 a, .int .i64 b]]).run Try.prog w = .ok (.tuple #[]) w :=
  Maps.drop_nil keyd Try.underlying48 (key_of hk) ty
set_option maxHeartbeats 1600000 in
theorem bag_no {w : World} {v : Value} (h : NoNet w v) {a b : Int} (hk : InR (a, b)) :
    Calls Try.prog 33 #[v, .int .i64 a, .int .i64 b] w fun e w' => e = .returned (.slice none 0 0) ∧ Fr NoB w w' := by
  have hh := h
  rcases h with rfl | ⟨p, rfl, hc, hlt⟩
  · have hl := look_no hk w
    clear hh
    go_enter Try.func33, Try.ntmps33
    go_wp2
    go_ret
    exact ⟨rfl, Fr.refl _ _⟩
  · have hl := look_no hk w
    clear hh
    go_enter Try.func33, Try.ntmps33
    go_wp2
    go_ret
    exact ⟨rfl, Fr.refl _ _⟩
set_option maxHeartbeats 1600000 in
theorem count_no {w : World} {v : Value} (h : NoNet w v) {a b : Int} (hk : InR (a, b)) :
    Calls Try.prog 21 #[v, .int .i64 a, .int .i64 b] w fun e w' => e = .returned (.int .i64 0) ∧ Fr NoB w w' := by
  have hh := h
  rcases h with rfl | ⟨p, rfl, hc, hlt⟩
  · go_enter Try.func21, Try.ntmps21
    go_wp2_with (first | ((with_reducible refine (bag_no hh hk).mono ?_); rintro e w' ⟨rfl, hf⟩))
    go_ret
    exact ⟨rfl, hf⟩
  · go_enter Try.func21, Try.ntmps21
    go_wp2_with (first | ((with_reducible refine (bag_no hh hk).mono ?_); rintro e w' ⟨rfl, hf⟩))
    go_ret
    exact ⟨rfl, hf⟩
set_option maxHeartbeats 1600000 in
theorem send_no {w : World} {v : Value} (h : NoNet w v) {a b : Int} (hk : InR (a, b)) (A : Option Addr) (n c : Nat) :
    Calls Try.prog 11 #[v, .int .i64 a, .int .i64 b, .slice A n c] w fun e w' => e = .returned (.bool false) ∧ Fr NoB w w' := by
  have hh := h
  have q48 : ∀ (w : World) (r : Option Nat), (binOp .eql 48 (.map r) (.map none)).run Try.prog w = .ok (.bool r.isNone) w := fun w r => run_eql_map_nil w _ _ _ r Try.underlying48
  rcases h with rfl | ⟨p, rfl, hc, hlt⟩
  · go_enter Try.func11, Try.ntmps11
    go_wp2_with (fail)
    refine (bag_no hh hk).mono ?_
    rintro e w2 ⟨rfl, hf⟩
    go_wp2
    go_ret
    exact ⟨rfl, hf⟩
  · go_enter Try.func11, Try.ntmps11
    go_wp2_with (fail)
    refine (bag_no hh hk).mono ?_
    rintro e w2 ⟨rfl, hf⟩
    have hc2 : w2.cell? ⟨p, 0, none⟩ = some (.map none) := (hf.cell (p := ⟨p, 0, none⟩) hlt (fun x => x)).trans hc
    go_wp2
    go_ret
    exact ⟨rfl, hf⟩
set_option maxHeartbeats 1600000 in
theorem take_no {w : World} {v : Value} (h : NoNet w v) {a b : Int} (hk : InR (a, b)) (at' : Int) :
    Calls Try.prog 15 #[v, .int .i64 a, .int .i64 b, .int .i64 at'] w fun e w' => e = .returned (.tuple #[.slice none 0 0, .bool false]) ∧ Fr NoB w w' := by
  have hb := bag_no h hk
  by_cases hneg : at' < 0
  · go_enter Try.func15, Try.ntmps15
    go_wp2_with (fail)
    refine hb.mono ?_
    rintro e w2 ⟨rfl, hf⟩
    go_wp2
    go_ret2
    exact ⟨rfl, hf⟩
  · have hge : (0 : Int) ≤ at' := by omega
    go_enter Try.func15, Try.ntmps15
    go_wp2_with (fail)
    refine hb.mono ?_
    rintro e w2 ⟨rfl, hf⟩
    go_wp2
    go_ret2
    exact ⟨rfl, hf⟩
set_option maxHeartbeats 1600000 in
theorem twice_no {w : World} {v : Value} (h : NoNet w v) {a b : Int} (hk : InR (a, b)) (at' : Int) :
    Calls Try.prog 12 #[v, .int .i64 a, .int .i64 b, .int .i64 at'] w fun e w' => e = .returned (.bool false) ∧ Fr NoB w w' := by
  have hb := bag_no h hk
  by_cases hneg : at' < 0
  · have hd1 : decide ((0 : Int) ≤ at') = false := decide_eq_false (by omega)
    have hn : ¬ (0 : Int) ≤ at' := by omega
    go_enter Try.func12, Try.ntmps12
    go_wp2_with (fail)
    refine hb.mono ?_
    rintro e w2 ⟨rfl, hf⟩
    go_wp2
    go_ret
    exact ⟨rfl, hf⟩
  · have hge : (0 : Int) ≤ at' := by omega
    go_enter Try.func12, Try.ntmps12
    go_wp2_with (fail)
    refine hb.mono ?_
    rintro e w2 ⟨rfl, hf⟩
    go_wp2
    go_ret
    exact ⟨rfl, hf⟩
set_option maxHeartbeats 1600000 in
theorem clear_no {w : World} {v : Value} (h : NoNet w v) {a b : Int} (hk : InR (a, b)) :
    Calls Try.prog 27 #[v, .int .i64 a, .int .i64 b] w fun e w' => e = .returned (.tuple #[]) ∧ Fr NoB w w' := by
  have hk2 : InR (b, a) := ⟨hk.2, hk.1⟩
  have d1 := del_no hk w
  have d2 := del_no hk2 w
  rcases h with rfl | ⟨p, rfl, hc, hlt⟩
  · go_enter Try.func27, Try.ntmps27
    go_wp2
    go_end0
    exact ⟨rfl, Fr.refl _ _⟩
  · go_enter Try.func27, Try.ntmps27
    go_wp2
    go_end0
    exact ⟨rfl, Fr.refl _ _⟩
set_option maxHeartbeats 1600000 in
theorem links_no {w : World} {v : Value} (h : NoNet w v) :
    Calls Try.prog 24 #[v] w fun e w' => e = .returned (.slice none 0 0) ∧ Fr NoB w w' := by
  have hr := run_range_nilMap (P := Try.prog) w 48 _ _ Try.underlying48
  have hnx := fun ty => run_next_nilMap (P := Try.prog) w ty 0 0 #[]
  have hs := fun W => Try.slices_SortFunc_none (α := Lk) none 0 (.func (.func 43) #[] #[]) W
  rcases h with rfl | ⟨p, rfl, hc, hlt⟩
  · clear hs
    go_enter Try.func24, Try.ntmps24
    go_wp2
    go_ret
    exact ⟨rfl, Fr.refl _ _⟩
  · go_enter Try.func24, Try.ntmps24
    go_wp2
    refine wp_loop_rounds 1 ?_
    rw [rounds_succ]
    go_wp2_with (fail)
    refine (hs _).mono ?_
    rintro e w2 ⟨rfl, rfl⟩
    go_wp2
    go_ret
    exact ⟨rfl, (Fr.refl NoB w).alloc _⟩

set_option maxRecDepth 8000 in
set_option maxHeartbeats 3200000 in
theorem none_calls {w : World} {v : Value} (h : NoNet w v) (at' : Int) :
    Calls Try.prog 26 #[v, .int .i64 at'] w fun e w' => e = .returned (.bool true) ∧ Fr NoB w w' := by
  have hk : InR (1, 1) := by unfold InR; omega
  have HH := Lib.hid h
  clear h
  go_enter Try.func26, Try.ntmps26
  go_wp2_with (fail)
  refine (take_no HH.out hk at').mono ?_
  rintro e w1 ⟨rfl, f1⟩
  have F1 := Lib.hid f1
  clear f1
  go_wp2_with (fail)
  refine (clear_no (HH.out.fr F1.out) hk).mono ?_
  rintro e w2 ⟨rfl, f2⟩
  have F2 := Lib.hid (F1.out.then f2)
  clear f2 F1
  go_wp2_with (fail)
  refine (send_no (HH.out.fr F2.out) hk none 0 0).mono ?_
  rintro e w3 ⟨rfl, f3⟩
  have F3 := Lib.hid (F2.out.then f3)
  clear f3 F2
  go_wp2_with (fail)
  refine (count_no (HH.out.fr F3.out) hk).mono ?_
  rintro e w4 ⟨rfl, f4⟩
  have F4 := Lib.hid (F3.out.then f4)
  clear f4 F3
  go_wp2_with (fail)
  refine (twice_no (HH.out.fr F4.out) hk at').mono ?_
  rintro e w5 ⟨rfl, f5⟩
  have F5 := Lib.hid (F4.out.then f5)
  clear f5 F4
  go_wp2_with (fail)
  refine (links_no (HH.out.fr F5.out)).mono ?_
  rintro e w6 ⟨rfl, f6⟩
  go_wp2
  go_ret
  exact ⟨rfl, F5.out.then f6⟩

set_option maxHeartbeats 1600000 in
theorem nil_walk (at' : Int) (w : World) : Calls Try.prog 5 #[.int .i64 at'] w fun e w' => e = .returned (.bool true) ∧ Fr NoB w w' := by
  go_enter Try.func5, Try.ntmps5
  go_wp2_with (fail)
  refine (awake_calls w).mono ?_
  rintro e w1 ⟨rfl, f1⟩
  go_wp2_with (fail)
  refine (none_calls (.inl rfl) at').mono ?_
  rintro e w2 ⟨rfl, f2⟩
  have F2 := Lib.hid (f1.then f2)
  clear f1 f2
  go_wp2_with (fail)
  refine (none_calls (.inr ⟨w2.heap.size, rfl, ?_, by simp⟩) at').mono ?_
  · rw [Lib.cell_of_heap (heap_alloc_new w2 _)]; rfl
  rintro e w3 ⟨rfl, f3⟩
  go_wp2
  go_ret
  exact ⟨rfl, (F2.out.alloc _).then f3⟩
end Go.Proofs.Ytmgkenbfjlahpaa
