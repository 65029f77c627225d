/-
  Sgc: rows of deeds that are made read as these deeds.
-/
import Derived.Test.YtmlmbahimklfiaaDoorSgb
import Derived.Test.YtmlmbahimklfiaaDoorSgx
namespace Go.Proofs.YtmlmbahimklfiaaDoor
open Go.RowKit

theorem DE.rd {n0 : Nat} {w : World} {c : Nat} {A : Option Addr} {U : Value} {L : List (De × Pl)} {es : List Int} (h : DE n0 w (.slice A L.length c) U L es) : RdS w n0 w.heap.size A (L.map (·.1)) := fun hl => by
  rw [List.length_map] at hl
  obtain ⟨g, cap, hv, hb, hlt⟩ := h.own.form hl
  have hP : A = some ⟨g, 0, none⟩ := by injection hv
  refine ⟨g, 0, hP, hb, hlt, fun i q hq => ?_⟩
  rw [List.getElem?_map] at hq
  cases hx : L[i]? with
  | none => rw [hx] at hq; cases hq
  | some x =>
    rw [hx] at hq
    simp only [Option.map_some, Option.some.injEq] at hq
    subst hq
    obtain ⟨lo, hi, h1, h2, h3, h4⟩ := (h.parts x (List.mem_of_getElem? hx)).e
    refine ⟨x.2, fun j v hv => ?_, h4.data.wide h1 h2, h4.ms.wide h1 h2, h4.parts.wide h1 h2⟩
    have := h.own.cells (g := g) (by rw [hP]; rfl) (i * 16 + j) v (dsv_get hx j v hv)
    rw [Lib.addr_add, Nat.zero_add] at this
    rw [Nat.zero_add]
    exact this
end Go.Proofs.YtmlmbahimklfiaaDoor
