/-
  Drb: the document's bare, of some kinds.
-/
import Derived.Test.YtmlmbahimklfiaaGreatDoorDrp
import Derived.Test.YtmlmbahimklfiaaGreatDoorDez
import Derived.Test.YtmlmbahimklfiaaGreatDoorDba
import Derived.Test.YtmlmbahimklfiaaGreatDoorDbb
import Derived.Test.YtmlmbahimklfiaaGreatDoorDbc
namespace Go.Proofs.YtmlmbahimklfiaaGreatDoor
open Go.RowKit

theorem bare_calls (f : Fd) (p : Pl) (np : Nat) (w : World) (hf : f.Ok) (hn : np ≤ 140737488355328) :
    Calls Tryz.prog 113 #[dval f p np] w fun e w' => e = .returned (.bool (decide (BareD f np))) ∧ Fr NoB w w' := by
  have := hf.k
  by_cases k1 : f.k = 1
  · exact bare1_calls f p np w hf hn k1
  by_cases k2 : f.k = 2
  · exact bare2_calls f p np w hf hn k2
  by_cases k3 : f.k = 3
  · exact bare3_calls f p np w hf hn k3
  by_cases k4 : f.k = 4
  · exact bare4_calls f p np w hf hn k4
  by_cases k5 : f.k = 5
  · exact bare5_calls f p np w hf hn k5
  by_cases k6 : f.k = 6
  · exact bare6_calls f p np w hf hn k6
  by_cases k7 : f.k = 7
  · exact bare7_calls f p np w hf hn k7
  by_cases k8 : f.k = 8
  · exact bare8_calls f p np w hf hn k8
  by_cases k9 : f.k = 9
  · exact bare9_calls f p np w hf hn k9
  exact barex_calls f p np w hf hn (by omega)
end Go.Proofs.YtmlmbahimklfiaaGreatDoor
