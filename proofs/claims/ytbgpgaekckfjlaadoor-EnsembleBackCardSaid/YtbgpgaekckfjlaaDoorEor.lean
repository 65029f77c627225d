/-
  Eor: the second of the things that came in is of a size that the machine reaches.
-/
import Derived.Test.YtbgpgaekckfjlaaDoorEop
namespace Go.Proofs.YtbgpgaekckfjlaaDoor
open Go.ChangeShapes Go.WideShapes Go.ChangeAt Go.RowKit Go.Deep Go.Joins

theorem weights_second {H : Type} {P : Program} {t0 t : TypeId} {ts : List TypeId} {d0 d : DataW H} {ds : List (DataW H)} (h : (DataW.weightsEach P (t0 :: t :: ts) (d0 :: d :: ds)).all (· ≤ reachBytes) = true) : (DataW.weightsEach P (t :: ts) (d :: ds)).all (· ≤ reachBytes) = true := by
  rw [DataW.weightsEach, List.all_append, Bool.and_eq_true] at h
  exact h.2

end Go.Proofs.YtbgpgaekckfjlaaDoor
