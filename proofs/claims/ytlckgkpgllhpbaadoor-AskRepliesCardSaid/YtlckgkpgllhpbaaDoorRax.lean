/-
  Rax: the document's none; sizes.
-/
import Derived.Test.YtlckgkpgllhpbaaDoorAyw
namespace Go.Proofs.YtlckgkpgllhpbaaDoor
open Go.RowKit

theorem stsize10b : (Tryd.prog.info? 37).map (·.size) = some 10 := by kernel_rfl
theorem rnone_calls (v : Int) (A : Option Addr) (m c : Nat) (w : World) : Calls Tryd.prog 81 #[.agg #[.int .i64 v, .slice A m c]] w fun e w' => e = .returned (.bool (v == 0 && (m : Int) == 0)) ∧ Fr NoB w w' := by
  have F := Lib.hid ((Fr.refl NoB w).alloc (.cells #[.int .i64 v, .slice A m c] 40))
  cases hv : (v == 0) with
  | true =>
    go_enter Tryd.func81, Tryd.ntmps81
    go_wp2
    go_ret
    exact ⟨by simp, F.out⟩
  | false =>
    go_enter Tryd.func81, Tryd.ntmps81
    go_wp2
    go_ret
    exact ⟨rfl, F.out⟩
theorem rsizeY2 {f : Fy} {p : Py} {np : Nat} : (Tryd.prog.info? 43).map (·.size) = some (ycells f p np).toList.length := by kernel_rfl
end Go.Proofs.YtlckgkpgllhpbaaDoor
