/-
  NARROWER THAN 'FOR EVERY INPUT', by the rows' own cells (each row's printed sentence says how): EnsembleChecks: laid · EnsembleBytes: laid · EnsembleMeets: laid · EnsembleGrows: laid · EnsembleBack: laid · EnsembleQuorums: laid.
  DERIVED. THE GIVEN ROWS OF THIS SEAT. 6 by the template 'for every input the law returns true; each argument reads behind the call as it read before'; 0 by the template 'total and deterministic' (their statements: YtbgpgaekckfjlaaDoorTotals.lean).
  GIVEN WITH THE SEED: the statements are not yours to turn. If you find one false, say at which input.
  Laid BY PROGRAM, IN A SANDBOX (cutbox-rows.mjs): the forced cells as the released guide's own fill.sh prints them over the translation 8e28e7cda85a35f6… (all of the seat's roots in one cut). By AI agents, Wed Nov 11 2026. No macro, syntax, notation, axiom, sorry.
-/
import Derived.Test.YtbgpgaekckfjlaaDoorChecked
import GoSem.Claim
import GoSem.ClaimJoined
import GoSem.ClaimMapViews
import Derived.JoinedTies
import Derived.KernelRfl
namespace Go.Proofs.YtbgpgaekckfjlaaDoor
/- THE CELL 'sum', in the pinned program and in every row, IS THE sha256 OF THE DUMP (.gsa) THAT YtbgpgaekckfjlaaDoorProg.lean LOADS. Nothing in Lean hashes anything: it is a label: what it is worth is what the hold of that sum in a sandbox is worth. -/
noncomputable def Tryd.pinned : Pinned := { name := "ytbgpgaekckfjlaadoor", sum := "8e28e7cda85a35f65a2e4a59030d4cfed022445fda41bd39ab4561d27969b0fb", checked := Tryd.checked }
namespace Rows
def none {H : Type} : Left H := { results := [], args := [] }

/- WHAT THE LISTED PACKAGE-LEVEL VARIABLES READ AS WHEN THE CALL BEGINS. Each datum BY PROGRAM (the guide's laid-datum.mjs) off the statement by which the dump's own 'gosem.cut.vars' lays the variable. In a bare row this is a premise. The card (YtbgpgaekckfjlaaDoorCards.lean) ties it to the program's text. -/
def laid_bytes_ErrTooLarge {H : Type} : DataW H := .iface "*errors.errorString" (.ptr (.agg [.lit (.string [98, 121, 116, 101, 115, 46, 66, 117, 102, 102, 101, 114, 58, 32, 116, 111, 111, 32, 108, 97, 114, 103, 101])]))

/-- 'beadlelaw04.EnsembleChecks': WHATEVER THE INPUT: true; the input reads as it did. -/
def ensembleChecksSpec : ChangeSpec := { name := "ensembleChecks", fn := fun _ => fun
  | [d1, d2] => { results := [.lit (.bool true)], args := [d1, d2] }
  | _ => none }
def ensembleChecksRow : OpenClaim := { program := "ytbgpgaekckfjlaadoor", sum := "8e28e7cda85a35f65a2e4a59030d4cfed022445fda41bd39ab4561d27969b0fb", func := "beadle/beadlelaw04.EnsembleChecks", spec := "ensembleChecks", unfollowed := true, recurses := true, named := ["bytes.ErrTooLarge"], apart := false, laid := [("bytes.ErrTooLarge", laid_bytes_ErrTooLarge)] }
def EnsembleChecksSaid : Prop := ensembleChecksRow.holds Tryd.pinned (OpenSpec.ofChange ensembleChecksSpec)

/-- ITS FALSE NEIGHBOUR: 'it returns false'. Refute it at one input. -/
def ensembleChecksWrong : ChangeSpec := { name := "ensembleChecks", fn := fun _ => fun
  | [d1, d2] => { results := [.lit (.bool false)], args := [d1, d2] }
  | _ => none }
def EnsembleChecksWrongFalsely : Prop := ensembleChecksRow.holds Tryd.pinned (OpenSpec.ofChange ensembleChecksWrong)

/-- 'beadlelaw04.EnsembleBytes': WHATEVER THE INPUT: true; the input reads as it did. -/
def ensembleBytesSpec : ChangeSpec := { name := "ensembleBytes", fn := fun _ => fun
  | [d1, d2] => { results := [.lit (.bool true)], args := [d1, d2] }
  | _ => none }
def ensembleBytesRow : OpenClaim := { program := "ytbgpgaekckfjlaadoor", sum := "8e28e7cda85a35f65a2e4a59030d4cfed022445fda41bd39ab4561d27969b0fb", func := "beadle/beadlelaw04.EnsembleBytes", spec := "ensembleBytes", unfollowed := true, recurses := true, named := ["bytes.ErrTooLarge"], apart := false, laid := [("bytes.ErrTooLarge", laid_bytes_ErrTooLarge)] }
def EnsembleBytesSaid : Prop := ensembleBytesRow.holds Tryd.pinned (OpenSpec.ofChange ensembleBytesSpec)

/-- ITS FALSE NEIGHBOUR: 'it returns false'. Refute it at one input. -/
def ensembleBytesWrong : ChangeSpec := { name := "ensembleBytes", fn := fun _ => fun
  | [d1, d2] => { results := [.lit (.bool false)], args := [d1, d2] }
  | _ => none }
def EnsembleBytesWrongFalsely : Prop := ensembleBytesRow.holds Tryd.pinned (OpenSpec.ofChange ensembleBytesWrong)

/-- 'beadlelaw04.EnsembleMeets': WHATEVER THE INPUT: true; the input reads as it did. -/
def ensembleMeetsSpec : ChangeSpec := { name := "ensembleMeets", fn := fun _ => fun
  | [d1, d2, d3] => { results := [.lit (.bool true)], args := [d1, d2, d3] }
  | _ => none }
def ensembleMeetsRow : OpenClaim := { program := "ytbgpgaekckfjlaadoor", sum := "8e28e7cda85a35f65a2e4a59030d4cfed022445fda41bd39ab4561d27969b0fb", func := "beadle/beadlelaw04.EnsembleMeets", spec := "ensembleMeets", unfollowed := true, recurses := true, named := ["bytes.ErrTooLarge"], apart := false, laid := [("bytes.ErrTooLarge", laid_bytes_ErrTooLarge)] }
def EnsembleMeetsSaid : Prop := ensembleMeetsRow.holds Tryd.pinned (OpenSpec.ofChange ensembleMeetsSpec)

/-- ITS FALSE NEIGHBOUR: 'it returns false'. Refute it at one input. -/
def ensembleMeetsWrong : ChangeSpec := { name := "ensembleMeets", fn := fun _ => fun
  | [d1, d2, d3] => { results := [.lit (.bool false)], args := [d1, d2, d3] }
  | _ => none }
def EnsembleMeetsWrongFalsely : Prop := ensembleMeetsRow.holds Tryd.pinned (OpenSpec.ofChange ensembleMeetsWrong)

/-- 'beadlelaw04.EnsembleGrows': WHATEVER THE INPUT: true; the input reads as it did. -/
def ensembleGrowsSpec : ChangeSpec := { name := "ensembleGrows", fn := fun _ => fun
  | [d1, d2, d3] => { results := [.lit (.bool true)], args := [d1, d2, d3] }
  | _ => none }
def ensembleGrowsRow : OpenClaim := { program := "ytbgpgaekckfjlaadoor", sum := "8e28e7cda85a35f65a2e4a59030d4cfed022445fda41bd39ab4561d27969b0fb", func := "beadle/beadlelaw04.EnsembleGrows", spec := "ensembleGrows", unfollowed := true, recurses := true, named := ["bytes.ErrTooLarge"], apart := false, laid := [("bytes.ErrTooLarge", laid_bytes_ErrTooLarge)] }
def EnsembleGrowsSaid : Prop := ensembleGrowsRow.holds Tryd.pinned (OpenSpec.ofChange ensembleGrowsSpec)

/-- ITS FALSE NEIGHBOUR: 'it returns false'. Refute it at one input. -/
def ensembleGrowsWrong : ChangeSpec := { name := "ensembleGrows", fn := fun _ => fun
  | [d1, d2, d3] => { results := [.lit (.bool false)], args := [d1, d2, d3] }
  | _ => none }
def EnsembleGrowsWrongFalsely : Prop := ensembleGrowsRow.holds Tryd.pinned (OpenSpec.ofChange ensembleGrowsWrong)

/-- 'beadlelaw04.EnsembleBack': WHATEVER THE INPUT: true; the input reads as it did. -/
def ensembleBackSpec : ChangeSpec := { name := "ensembleBack", fn := fun _ => fun
  | [d1, d2] => { results := [.lit (.bool true)], args := [d1, d2] }
  | _ => none }
def ensembleBackRow : OpenClaim := { program := "ytbgpgaekckfjlaadoor", sum := "8e28e7cda85a35f65a2e4a59030d4cfed022445fda41bd39ab4561d27969b0fb", func := "beadle/beadlelaw04.EnsembleBack", spec := "ensembleBack", unfollowed := true, recurses := true, named := ["bytes.ErrTooLarge"], apart := false, laid := [("bytes.ErrTooLarge", laid_bytes_ErrTooLarge)] }
def EnsembleBackSaid : Prop := ensembleBackRow.holds Tryd.pinned (OpenSpec.ofChange ensembleBackSpec)

/-- ITS FALSE NEIGHBOUR: 'it returns false'. Refute it at one input. -/
def ensembleBackWrong : ChangeSpec := { name := "ensembleBack", fn := fun _ => fun
  | [d1, d2] => { results := [.lit (.bool false)], args := [d1, d2] }
  | _ => none }
def EnsembleBackWrongFalsely : Prop := ensembleBackRow.holds Tryd.pinned (OpenSpec.ofChange ensembleBackWrong)

/-- 'beadlelaw04.EnsembleQuorums': WHATEVER THE INPUT: true; the input reads as it did. -/
def ensembleQuorumsSpec : ChangeSpec := { name := "ensembleQuorums", fn := fun _ => fun
  | [d1, d2] => { results := [.lit (.bool true)], args := [d1, d2] }
  | _ => none }
def ensembleQuorumsRow : OpenClaim := { program := "ytbgpgaekckfjlaadoor", sum := "8e28e7cda85a35f65a2e4a59030d4cfed022445fda41bd39ab4561d27969b0fb", func := "beadle/beadlelaw04.EnsembleQuorums", spec := "ensembleQuorums", unfollowed := true, recurses := true, named := ["bytes.ErrTooLarge"], apart := false, laid := [("bytes.ErrTooLarge", laid_bytes_ErrTooLarge)] }
def EnsembleQuorumsSaid : Prop := ensembleQuorumsRow.holds Tryd.pinned (OpenSpec.ofChange ensembleQuorumsSpec)

/-- ITS FALSE NEIGHBOUR: 'it returns false'. Refute it at one input. -/
def ensembleQuorumsWrong : ChangeSpec := { name := "ensembleQuorums", fn := fun _ => fun
  | [d1, d2] => { results := [.lit (.bool false)], args := [d1, d2] }
  | _ => none }
def EnsembleQuorumsWrongFalsely : Prop := ensembleQuorumsRow.holds Tryd.pinned (OpenSpec.ofChange ensembleQuorumsWrong)

/- THE SECOND FORM. 'bulk': how many values and letters a reading holds, each counted each time it is reached (what is shared counts as often as it is met; a slice's spare places count too). A statement '..UptoSaid' is the law's where the arguments, and the package variables that the reading takes, are together of bulk at most 1048576: NARROWER than '..Said'. Prove '..Said' where nothing that the law and all that it calls make is longer than what came in: it says more and counts as full. Else prove '..UptoSaid'. A law counts once. -/
mutual
def uptoBulk {H : Type} : DataW H → Nat
  | .lit (.string bytes) => bytes.length + 1
  | .lit _ => 1
  | .nil => 1
  | .ptr d => uptoBulk d + 1
  | .slice elems spare => uptoBulkAll elems + uptoBulkAll spare + 1
  | .agg parts => uptoBulkAll parts + 1
  | .iface _ d => uptoBulk d + 1
  | .map entries => uptoBulkEntries entries + 1
  | .held _ => 1
def uptoBulkAll {H : Type} : List (DataW H) → Nat
  | [] => 0
  | d :: r => uptoBulk d + uptoBulkAll r
def uptoBulkEntries {H : Type} : List (Lit × DataW H) → Nat
  | [] => 0
  | x :: r => uptoBulkEntry x + uptoBulkEntries r
def uptoBulkEntry {H : Type} : Lit × DataW H → Nat
  | (.string bytes, d) => bytes.length + uptoBulk d + 1
  | (_, d) => uptoBulk d + 1
 end
def uptoSmall : (H : Type) → List (DataW H) → Bool := fun _ ds => decide (uptoBulkAll ds ≤ 1048576)
def OpenSpec.upto (s : _root_.Go.ChangeSpec) : _root_.Go.OpenSpec := { _root_.Go.OpenSpec.ofChange s with cond := some uptoSmall }

/-- 'beadlelaw04.EnsembleChecks', WHERE WHAT IT READS IS OF BULK AT MOST 1048576: true; the input reads as it did. -/
def ensembleChecksUptoRow : OpenClaim := { program := "ytbgpgaekckfjlaadoor", sum := "8e28e7cda85a35f65a2e4a59030d4cfed022445fda41bd39ab4561d27969b0fb", func := "beadle/beadlelaw04.EnsembleChecks", spec := "ensembleChecks", unfollowed := true, recurses := true, named := ["bytes.ErrTooLarge"], apart := false, laid := [("bytes.ErrTooLarge", laid_bytes_ErrTooLarge)], narrowed := true }
def EnsembleChecksUptoSaid : Prop := ensembleChecksUptoRow.holds Tryd.pinned (OpenSpec.upto ensembleChecksSpec)

/-- 'beadlelaw04.EnsembleBytes', WHERE WHAT IT READS IS OF BULK AT MOST 1048576: true; the input reads as it did. -/
def ensembleBytesUptoRow : OpenClaim := { program := "ytbgpgaekckfjlaadoor", sum := "8e28e7cda85a35f65a2e4a59030d4cfed022445fda41bd39ab4561d27969b0fb", func := "beadle/beadlelaw04.EnsembleBytes", spec := "ensembleBytes", unfollowed := true, recurses := true, named := ["bytes.ErrTooLarge"], apart := false, laid := [("bytes.ErrTooLarge", laid_bytes_ErrTooLarge)], narrowed := true }
def EnsembleBytesUptoSaid : Prop := ensembleBytesUptoRow.holds Tryd.pinned (OpenSpec.upto ensembleBytesSpec)

/-- 'beadlelaw04.EnsembleMeets', WHERE WHAT IT READS IS OF BULK AT MOST 1048576: true; the input reads as it did. -/
def ensembleMeetsUptoRow : OpenClaim := { program := "ytbgpgaekckfjlaadoor", sum := "8e28e7cda85a35f65a2e4a59030d4cfed022445fda41bd39ab4561d27969b0fb", func := "beadle/beadlelaw04.EnsembleMeets", spec := "ensembleMeets", unfollowed := true, recurses := true, named := ["bytes.ErrTooLarge"], apart := false, laid := [("bytes.ErrTooLarge", laid_bytes_ErrTooLarge)], narrowed := true }
def EnsembleMeetsUptoSaid : Prop := ensembleMeetsUptoRow.holds Tryd.pinned (OpenSpec.upto ensembleMeetsSpec)

/-- 'beadlelaw04.EnsembleGrows', WHERE WHAT IT READS IS OF BULK AT MOST 1048576: true; the input reads as it did. -/
def ensembleGrowsUptoRow : OpenClaim := { program := "ytbgpgaekckfjlaadoor", sum := "8e28e7cda85a35f65a2e4a59030d4cfed022445fda41bd39ab4561d27969b0fb", func := "beadle/beadlelaw04.EnsembleGrows", spec := "ensembleGrows", unfollowed := true, recurses := true, named := ["bytes.ErrTooLarge"], apart := false, laid := [("bytes.ErrTooLarge", laid_bytes_ErrTooLarge)], narrowed := true }
def EnsembleGrowsUptoSaid : Prop := ensembleGrowsUptoRow.holds Tryd.pinned (OpenSpec.upto ensembleGrowsSpec)

/-- 'beadlelaw04.EnsembleBack', WHERE WHAT IT READS IS OF BULK AT MOST 1048576: true; the input reads as it did. -/
def ensembleBackUptoRow : OpenClaim := { program := "ytbgpgaekckfjlaadoor", sum := "8e28e7cda85a35f65a2e4a59030d4cfed022445fda41bd39ab4561d27969b0fb", func := "beadle/beadlelaw04.EnsembleBack", spec := "ensembleBack", unfollowed := true, recurses := true, named := ["bytes.ErrTooLarge"], apart := false, laid := [("bytes.ErrTooLarge", laid_bytes_ErrTooLarge)], narrowed := true }
def EnsembleBackUptoSaid : Prop := ensembleBackUptoRow.holds Tryd.pinned (OpenSpec.upto ensembleBackSpec)

/-- 'beadlelaw04.EnsembleQuorums', WHERE WHAT IT READS IS OF BULK AT MOST 1048576: true; the input reads as it did. -/
def ensembleQuorumsUptoRow : OpenClaim := { program := "ytbgpgaekckfjlaadoor", sum := "8e28e7cda85a35f65a2e4a59030d4cfed022445fda41bd39ab4561d27969b0fb", func := "beadle/beadlelaw04.EnsembleQuorums", spec := "ensembleQuorums", unfollowed := true, recurses := true, named := ["bytes.ErrTooLarge"], apart := false, laid := [("bytes.ErrTooLarge", laid_bytes_ErrTooLarge)], narrowed := true }
def EnsembleQuorumsUptoSaid : Prop := ensembleQuorumsUptoRow.holds Tryd.pinned (OpenSpec.upto ensembleQuorumsSpec)

end Rows
end Go.Proofs.YtbgpgaekckfjlaaDoor
