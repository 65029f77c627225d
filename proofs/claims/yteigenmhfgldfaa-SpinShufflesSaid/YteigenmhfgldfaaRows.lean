/-
  No cell of these rows narrows 'for every input' (looked for: loops, veiled, ifaces, maps, wideKeys, modest, calm, conditions, laid).
  DERIVED. THE GIVEN ROWS OF THIS SEAT. 5 by the template 'for every input the law returns true; each argument reads behind the call as it read before'; 0 by the template 'total and deterministic' (their statements: YteigenmhfgldfaaTotals.lean).
  GIVEN WITH THE SEED: the statements are not yours to turn. If you find one false, say at which input.
  Laid BY PROGRAM, IN A SANDBOX (cutbox-rows.mjs): the forced cells as the released guide's own fill.sh prints them over the translation 6913cccf3b6e0443… (all of the seat's roots in one cut). By AI agents, Wed Nov 11 2026. No macro, syntax, notation, axiom, sorry.
-/
import Derived.Test.YteigenmhfgldfaaChecked
import GoSem.Claim
import GoSem.ClaimJoined
import GoSem.ClaimMapViews
import Derived.JoinedTies
import Derived.KernelRfl
namespace Go.Proofs.Yteigenmhfgldfaa
/- THE CELL 'sum', in the pinned program and in every row, IS THE sha256 OF THE DUMP (.gsa) THAT YteigenmhfgldfaaProg.lean LOADS. Nothing in Lean hashes anything: it is a label: what it is worth is what the hold of that sum in a sandbox is worth. -/
noncomputable def Try.pinned : Pinned := { name := "yteigenmhfgldfaa", sum := "6913cccf3b6e04438a86d1458e2f2e498c1325e98997505a836f819bf133724c", checked := Try.checked }
namespace Rows
def none {H : Type} : Left H := { results := [], args := [] }

/-- 'beadlelaw01.SpinField': WHATEVER THE INPUT: true; the input reads as it did. -/
def spinFieldSpec : ChangeSpec := { name := "spinField", fn := fun _ => fun
  | [d1, d2, d3, d4, d5, d6] => { results := [.lit (.bool true)], args := [d1, d2, d3, d4, d5, d6] }
  | _ => none }
def spinFieldRow : OpenClaim := { program := "yteigenmhfgldfaa", sum := "6913cccf3b6e04438a86d1458e2f2e498c1325e98997505a836f819bf133724c", func := "beadle/beadlelaw01.SpinField", spec := "spinField", inPlace := ["math.archTrunc", "math.Float64bits", "math.Float64frombits"], apart := false }
def SpinFieldSaid : Prop := spinFieldRow.holds Try.pinned (OpenSpec.ofChange spinFieldSpec)

/-- ITS FALSE NEIGHBOUR: 'it returns false'. Refute it at one input. -/
def spinFieldWrong : ChangeSpec := { name := "spinField", fn := fun _ => fun
  | [d1, d2, d3, d4, d5, d6] => { results := [.lit (.bool false)], args := [d1, d2, d3, d4, d5, d6] }
  | _ => none }
def SpinFieldWrongFalsely : Prop := spinFieldRow.holds Try.pinned (OpenSpec.ofChange spinFieldWrong)

/-- 'beadlelaw01.SpinAdds': WHATEVER THE INPUT: true; the input reads as it did. -/
def spinAddsSpec : ChangeSpec := { name := "spinAdds", fn := fun _ => fun
  | [d1, d2, d3, d4] => { results := [.lit (.bool true)], args := [d1, d2, d3, d4] }
  | _ => none }
def spinAddsRow : OpenClaim := { program := "yteigenmhfgldfaa", sum := "6913cccf3b6e04438a86d1458e2f2e498c1325e98997505a836f819bf133724c", func := "beadle/beadlelaw01.SpinAdds", spec := "spinAdds", inPlace := ["math.archTrunc", "math.Float64bits", "math.Float64frombits"], apart := false }
def SpinAddsSaid : Prop := spinAddsRow.holds Try.pinned (OpenSpec.ofChange spinAddsSpec)

/-- ITS FALSE NEIGHBOUR: 'it returns false'. Refute it at one input. -/
def spinAddsWrong : ChangeSpec := { name := "spinAdds", fn := fun _ => fun
  | [d1, d2, d3, d4] => { results := [.lit (.bool false)], args := [d1, d2, d3, d4] }
  | _ => none }
def SpinAddsWrongFalsely : Prop := spinAddsRow.holds Try.pinned (OpenSpec.ofChange spinAddsWrong)

/-- 'beadlelaw01.SpinShuffles': WHATEVER THE INPUT: true; the input reads as it did. -/
def spinShufflesSpec : ChangeSpec := { name := "spinShuffles", fn := fun _ => fun
  | [d1, d2] => { results := [.lit (.bool true)], args := [d1, d2] }
  | _ => none }
def spinShufflesRow : OpenClaim := { program := "yteigenmhfgldfaa", sum := "6913cccf3b6e04438a86d1458e2f2e498c1325e98997505a836f819bf133724c", func := "beadle/beadlelaw01.SpinShuffles", spec := "spinShuffles", inPlace := ["math.archTrunc", "math.Float64bits", "math.Float64frombits"], recurses := true, apart := false }
def SpinShufflesSaid : Prop := spinShufflesRow.holds Try.pinned (OpenSpec.ofChange spinShufflesSpec)

/-- ITS FALSE NEIGHBOUR: 'it returns false'. Refute it at one input. -/
def spinShufflesWrong : ChangeSpec := { name := "spinShuffles", fn := fun _ => fun
  | [d1, d2] => { results := [.lit (.bool false)], args := [d1, d2] }
  | _ => none }
def SpinShufflesWrongFalsely : Prop := spinShufflesRow.holds Try.pinned (OpenSpec.ofChange spinShufflesWrong)

/-- 'beadlelaw01.SpinTurns': WHATEVER THE INPUT: true; the input reads as it did. -/
def spinTurnsSpec : ChangeSpec := { name := "spinTurns", fn := fun _ => fun
  | [d1, d2, d3] => { results := [.lit (.bool true)], args := [d1, d2, d3] }
  | _ => none }
def spinTurnsRow : OpenClaim := { program := "yteigenmhfgldfaa", sum := "6913cccf3b6e04438a86d1458e2f2e498c1325e98997505a836f819bf133724c", func := "beadle/beadlelaw01.SpinTurns", spec := "spinTurns", inPlace := ["math.archTrunc", "math.Float64bits", "math.Float64frombits"], apart := false }
def SpinTurnsSaid : Prop := spinTurnsRow.holds Try.pinned (OpenSpec.ofChange spinTurnsSpec)

/-- ITS FALSE NEIGHBOUR: 'it returns false'. Refute it at one input. -/
def spinTurnsWrong : ChangeSpec := { name := "spinTurns", fn := fun _ => fun
  | [d1, d2, d3] => { results := [.lit (.bool false)], args := [d1, d2, d3] }
  | _ => none }
def SpinTurnsWrongFalsely : Prop := spinTurnsRow.holds Try.pinned (OpenSpec.ofChange spinTurnsWrong)

/-- 'beadlelaw01.SpinNone': WHATEVER THE INPUT: true; the input reads as it did. -/
def spinNoneSpec : ChangeSpec := { name := "spinNone", fn := fun _ => fun
  | [d1, d2] => { results := [.lit (.bool true)], args := [d1, d2] }
  | _ => none }
def spinNoneRow : OpenClaim := { program := "yteigenmhfgldfaa", sum := "6913cccf3b6e04438a86d1458e2f2e498c1325e98997505a836f819bf133724c", func := "beadle/beadlelaw01.SpinNone", spec := "spinNone", inPlace := ["math.archTrunc", "math.Float64bits", "math.Float64frombits"], apart := false }
def SpinNoneSaid : Prop := spinNoneRow.holds Try.pinned (OpenSpec.ofChange spinNoneSpec)

/-- ITS FALSE NEIGHBOUR: 'it returns false'. Refute it at one input. -/
def spinNoneWrong : ChangeSpec := { name := "spinNone", fn := fun _ => fun
  | [d1, d2] => { results := [.lit (.bool false)], args := [d1, d2] }
  | _ => none }
def SpinNoneWrongFalsely : Prop := spinNoneRow.holds Try.pinned (OpenSpec.ofChange spinNoneWrong)

/- THE SECOND FORM. 'bulk': how many values and letters a reading holds, each counted each time it is reached (what is shared counts as often as it is met; a slice's spare places count too). A statement '..UptoSaid' is the law's where the arguments, and the package variables that the reading takes, are together of bulk at most 1048576: NARROWER than '..Said'. Prove '..Said' where nothing that the law and all that it calls make is longer than what came in: it says more and counts as full. Else prove '..UptoSaid'. A law counts once. -/
mutual
def uptoBulk {H : Type} : DataW H → Nat
  | .lit (.string bytes) => bytes.length + 1
  | .lit _ => 1
  | .nil => 1
  | .ptr d => uptoBulk d + 1
  | .slice elems spare => uptoBulkAll elems + uptoBulkAll spare + 1
  | .agg parts => uptoBulkAll parts + 1
  | .iface _ d => uptoBulk d + 1
  | .map entries => uptoBulkEntries entries + 1
  | .held _ => 1
def uptoBulkAll {H : Type} : List (DataW H) → Nat
  | [] => 0
  | d :: r => uptoBulk d + uptoBulkAll r
def uptoBulkEntries {H : Type} : List (Lit × DataW H) → Nat
  | [] => 0
  | x :: r => uptoBulkEntry x + uptoBulkEntries r
def uptoBulkEntry {H : Type} : Lit × DataW H → Nat
  | (.string bytes, d) => bytes.length + uptoBulk d + 1
  | (_, d) => uptoBulk d + 1
 end
def uptoSmall : (H : Type) → List (DataW H) → Bool := fun _ ds => decide (uptoBulkAll ds ≤ 1048576)
def OpenSpec.upto (s : _root_.Go.ChangeSpec) : _root_.Go.OpenSpec := { _root_.Go.OpenSpec.ofChange s with cond := some uptoSmall }

/-- 'beadlelaw01.SpinField', WHERE WHAT IT READS IS OF BULK AT MOST 1048576: true; the input reads as it did. -/
def spinFieldUptoRow : OpenClaim := { program := "yteigenmhfgldfaa", sum := "6913cccf3b6e04438a86d1458e2f2e498c1325e98997505a836f819bf133724c", func := "beadle/beadlelaw01.SpinField", spec := "spinField", inPlace := ["math.archTrunc", "math.Float64bits", "math.Float64frombits"], apart := false, narrowed := true }
def SpinFieldUptoSaid : Prop := spinFieldUptoRow.holds Try.pinned (OpenSpec.upto spinFieldSpec)

/-- 'beadlelaw01.SpinAdds', WHERE WHAT IT READS IS OF BULK AT MOST 1048576: true; the input reads as it did. -/
def spinAddsUptoRow : OpenClaim := { program := "yteigenmhfgldfaa", sum := "6913cccf3b6e04438a86d1458e2f2e498c1325e98997505a836f819bf133724c", func := "beadle/beadlelaw01.SpinAdds", spec := "spinAdds", inPlace := ["math.archTrunc", "math.Float64bits", "math.Float64frombits"], apart := false, narrowed := true }
def SpinAddsUptoSaid : Prop := spinAddsUptoRow.holds Try.pinned (OpenSpec.upto spinAddsSpec)

/-- 'beadlelaw01.SpinShuffles', WHERE WHAT IT READS IS OF BULK AT MOST 1048576: true; the input reads as it did. -/
def spinShufflesUptoRow : OpenClaim := { program := "yteigenmhfgldfaa", sum := "6913cccf3b6e04438a86d1458e2f2e498c1325e98997505a836f819bf133724c", func := "beadle/beadlelaw01.SpinShuffles", spec := "spinShuffles", inPlace := ["math.archTrunc", "math.Float64bits", "math.Float64frombits"], recurses := true, apart := false, narrowed := true }
def SpinShufflesUptoSaid : Prop := spinShufflesUptoRow.holds Try.pinned (OpenSpec.upto spinShufflesSpec)

/-- 'beadlelaw01.SpinTurns', WHERE WHAT IT READS IS OF BULK AT MOST 1048576: true; the input reads as it did. -/
def spinTurnsUptoRow : OpenClaim := { program := "yteigenmhfgldfaa", sum := "6913cccf3b6e04438a86d1458e2f2e498c1325e98997505a836f819bf133724c", func := "beadle/beadlelaw01.SpinTurns", spec := "spinTurns", inPlace := ["math.archTrunc", "math.Float64bits", "math.Float64frombits"], apart := false, narrowed := true }
def SpinTurnsUptoSaid : Prop := spinTurnsUptoRow.holds Try.pinned (OpenSpec.upto spinTurnsSpec)

/-- 'beadlelaw01.SpinNone', WHERE WHAT IT READS IS OF BULK AT MOST 1048576: true; the input reads as it did. -/
def spinNoneUptoRow : OpenClaim := { program := "yteigenmhfgldfaa", sum := "6913cccf3b6e04438a86d1458e2f2e498c1325e98997505a836f819bf133724c", func := "beadle/beadlelaw01.SpinNone", spec := "spinNone", inPlace := ["math.archTrunc", "math.Float64bits", "math.Float64frombits"], apart := false, narrowed := true }
def SpinNoneUptoSaid : Prop := spinNoneUptoRow.holds Try.pinned (OpenSpec.upto spinNoneSpec)

end Rows
end Go.Proofs.Yteigenmhfgldfaa
