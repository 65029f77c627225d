/-
  End: ensemble.Find and ensemble.Voter; SameEnsemble.
-/
import Derived.Test.YtljioepkbbbibaaDoorEnb
namespace Go.Proofs.YtljioepkbbbibaaDoor
open Go.RowKit

def findM (ms : List Mem) (id : Int) : Option Mem := ms.find? fun m => m.1 == id
def votM (ms : List Mem) (id : Int) : Bool := match findM ms id with
  | none => false
  | some m => m.2.1 == 1
theorem find_hit {ms : List Mem} {k : Nat} {m : Mem} {id : Int} (h : ms[k]? = some m) (hn : findM (ms.take k) id = none) (hm : m.1 = id) : findM ms id = some m := by
  have hk := List.getElem?_eq_some_iff.1 h
  unfold findM at *
  rw [← List.take_append_drop k ms, List.find?_append, hn, List.drop_eq_getElem_cons hk.1, hk.2]
  simp [hm]
theorem find_step {ms : List Mem} {k : Nat} {m : Mem} {id : Int} (h : ms[k]? = some m) (hn : findM (ms.take k) id = none) (hm : m.1 ≠ id) : findM (ms.take (k + 1)) id = none := by
  unfold findM at *
  rw [List.take_add_one, h, List.find?_append, hn]
  simp [hm]

theorem alloc_st (w : World) (o : Obj) (n : Nat) (hn : w.heap.size = n) : (w.alloc o).heap.size = n + 1 ∧ (w.alloc o).heap[n]? = some o ∧ ∀ (k : Nat) (v : Obj), w.heap[k]? = some v → (w.alloc o).heap[k]? = some v := by
  subst hn
  exact ⟨by simp, heap_alloc_new w o, fun k v h => (Below.heap_alloc w o k (Lib.lt_of_heap h)).trans h⟩
/-- A member's four values, or four zeros. -/
def memOr (o : Option Mem) : Value := match o with
  | none => .agg #[.int .i64 0, .int .u8 0, .int .i64 0, .int .i64 0]
  | some m => .agg #[.int .i64 m.1, .int .u8 m.2.1, .int .i64 m.2.2.1, .int .i64 m.2.2.2]

theorem results_row_tmp {P : Program} {fn : Func} {p u : Tmp} {ty : TypeId} (h : fn.results = #[.cell p ty, .tmp u]) (tmps : Array Value) (w : World) (g : Nat) (t : TypeId) (cs : Array Value) (fr : Nat × Nat) (d : TypeDesc)
    (hp : tmps.getD p undef = .pointer (some ⟨g, 0, none⟩)) (hg : w.heap[g]? = some (.cells cs t fr))
    (hu : P.underlying ty = some d) (hd : (match d with | .struct _ | .array _ _ => true | _ => false) = true) (hi : (P.info? ty).map (·.size) = some cs.size) :
    (results fn tmps).run P w = .ok (.tuple #[.agg cs, tmps.getD u undef]) w := by
  rw [results_cell_tmp h, hp]
  simp [asAddr, run_loadVar_row w g t ty cs fr d hg hu hd hi]
theorem four_set {w : World} {N : Nat} {t : TypeId} {x0 x1 x2 x3 : Value} (h : w.heap[N]? = some (.cells #[.int .i64 0, .int .u8 0, .int .i64 0, .int .i64 0] t (0, 0))) :
    ((((w.setCell ⟨N, 0, none⟩ x0).setCell ⟨N, 1, none⟩ x1).setCell ⟨N, 2, none⟩ x2).setCell ⟨N, 3, none⟩ x3).heap[N]? = some (.cells #[x0, x1, x2, x3] t (0, 0)) := by
  rw [heap_set (heap_set (heap_set (heap_set h x0) x1) x2) x3]
  rfl
theorem four_fr {w0 w : World} (h : Fr NoB w0 w) (N : Nat) (hN : w0.heap.size ≤ N) (x0 x1 x2 x3 : Value) : Fr NoB w0 ((((w.setCell ⟨N, 0, none⟩ x0).setCell ⟨N, 1, none⟩ x1).setCell ⟨N, 2, none⟩ x2).setCell ⟨N, 3, none⟩ x3) :=
  (((h.setCell (p := ⟨N, 0, none⟩) (fun k => absurd k (by simp only; omega)) _).setCell (p := ⟨N, 1, none⟩) (fun k => absurd k (by simp only; omega)) _).setCell (p := ⟨N, 2, none⟩) (fun k => absurd k (by simp only; omega)) _).setCell (p := ⟨N, 3, none⟩) (fun k => absurd k (by simp only; omega)) _

end Go.Proofs.YtljioepkbbbibaaDoor
