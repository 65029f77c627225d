/-
  Nsg: NetSent: the walk of any number of steps.
-/
import Derived.Test.YtmgkenbfjlahpaaNse
import Derived.Test.YtmgkenbfjlahpaaNsf
namespace Go.Proofs.Ytmgkenbfjlahpaa
open Go.RowKit

theorem sent_walk (A : Option Addr) (n c : Nat) (w : World) (hn : n ≤ c) (hcm : c ≤ maxLen) (hr : RdO w A n) : Calls Try.prog 7 #[.slice A n c] w fun e w' => e = .returned (.bool true) ∧ Fr NoB w w' := by
  by_cases hbig : (n : Int) > 200
  · exact sent_big A n c w hn hcm hr hbig
  · exact sent_small A n c w hn hcm hr hbig
end Go.Proofs.Ytmgkenbfjlahpaa
