/-
  NARROWER THAN 'FOR EVERY INPUT', by the rows' own cells (each row's printed sentence says how): SegmentNumbers: laid · SegmentTorn: loops, laid · SegmentAgain: laid.
  DERIVED. THE GIVEN ROWS OF THIS SEAT. 3 by the template 'for every input the law returns true; each argument reads behind the call as it read before'; 0 by the template 'total and deterministic' (their statements: YtmlmbahimklfiaaDoorTotals.lean).
  GIVEN WITH THE SEED: the statements are not yours to turn. If you find one false, say at which input.
  Laid BY PROGRAM, IN A SANDBOX (cutbox-rows.mjs): the forced cells as the released guide's own fill.sh prints them over the translation 7cb9157f788bc975… (all of the seat's roots in one cut). By AI agents, Wed Nov 11 2026. No macro, syntax, notation, axiom, sorry.
-/
import Derived.Test.YtmlmbahimklfiaaDoorChecked
import GoSem.Claim
import GoSem.ClaimJoined
import GoSem.ClaimMapViews
import Derived.JoinedTies
import Derived.KernelRfl
namespace Go.Proofs.YtmlmbahimklfiaaDoor
/- THE CELL 'sum', in the pinned program and in every row, IS THE sha256 OF THE DUMP (.gsa) THAT YtmlmbahimklfiaaDoorProg.lean LOADS. Nothing in Lean hashes anything: it is a label: what it is worth is what the hold of that sum in a sandbox is worth. -/
noncomputable def Tryd.pinned : Pinned := { name := "ytmlmbahimklfiaadoor", sum := "7cb9157f788bc975485dbfa7279e6adc36f090184d9c104d8f4b6f68f4c9e5e0", checked := Tryd.checked }
namespace Rows
def none {H : Type} : Left H := { results := [], args := [] }

/- WHAT THE LISTED PACKAGE-LEVEL VARIABLES READ AS WHEN THE CALL BEGINS. Each datum BY PROGRAM (the guide's laid-datum.mjs) off the statement by which the dump's own 'gosem.cut.vars' lays the variable. In a bare row this is a premise. The card (YtmlmbahimklfiaaDoorCards.lean) ties it to the program's text. -/
def laid_bytes_ErrTooLarge {H : Type} : DataW H := .iface "*errors.errorString" (.ptr (.agg [.lit (.string [98, 121, 116, 101, 115, 46, 66, 117, 102, 102, 101, 114, 58, 32, 116, 111, 111, 32, 108, 97, 114, 103, 101])]))
def laid_beadle_deed_has {H : Type} : DataW H := .agg [.lit (.int .i64 0), .lit (.int .i64 23), .lit (.int .i64 17), .lit (.int .i64 11), .lit (.int .i64 32), .lit (.int .i64 260), .lit (.int .i64 0), .lit (.int .i64 128), .lit (.int .i64 256), .lit (.int .i64 64)]

/-- 'beadlelaw14.SegmentNumbers': WHATEVER THE INPUT: true; the input reads as it did. -/
def segmentNumbersSpec : ChangeSpec := { name := "segmentNumbers", fn := fun _ => fun
  | [] => { results := [.lit (.bool true)], args := [] }
  | _ => none }
def segmentNumbersRow : OpenClaim := { program := "ytmlmbahimklfiaadoor", sum := "7cb9157f788bc975485dbfa7279e6adc36f090184d9c104d8f4b6f68f4c9e5e0", func := "beadle/beadlelaw14.SegmentNumbers", spec := "segmentNumbers", inPlace := ["internal/bytealg.IndexByteString", "internal/bytealg.IndexString"], unfollowed := true, recurses := true, named := ["beadle/deed.has", "internal/bytealg.MaxLen", "bytes.ErrTooLarge"], apart := false, laid := [("bytes.ErrTooLarge", laid_bytes_ErrTooLarge), ("beadle/deed.has", laid_beadle_deed_has)] }
def SegmentNumbersSaid : Prop := segmentNumbersRow.holds Tryd.pinned (OpenSpec.ofChange segmentNumbersSpec)

/-- ITS FALSE NEIGHBOUR: 'it returns false'. Refute it at one input. -/
def segmentNumbersWrong : ChangeSpec := { name := "segmentNumbers", fn := fun _ => fun
  | [] => { results := [.lit (.bool false)], args := [] }
  | _ => none }
def SegmentNumbersWrongFalsely : Prop := segmentNumbersRow.holds Tryd.pinned (OpenSpec.ofChange segmentNumbersWrong)

/-- 'beadlelaw14.SegmentTorn': WHATEVER THE INPUT: true; the input reads as it did. -/
def segmentTornSpec : ChangeSpec := { name := "segmentTorn", fn := fun _ => fun
  | [d1, d2, d3] => { results := [.lit (.bool true)], args := [d1, d2, d3] }
  | _ => none }
def segmentTornRow : OpenClaim := { program := "ytmlmbahimklfiaadoor", sum := "7cb9157f788bc975485dbfa7279e6adc36f090184d9c104d8f4b6f68f4c9e5e0", func := "beadle/beadlelaw14.SegmentTorn", spec := "segmentTorn", inPlace := ["internal/bytealg.IndexByteString", "internal/bytealg.IndexString"], unfollowed := true, recurses := true, named := ["beadle/deed.has", "internal/bytealg.MaxLen", "bytes.ErrTooLarge"], loops := true, apart := false, laid := [("bytes.ErrTooLarge", laid_bytes_ErrTooLarge), ("beadle/deed.has", laid_beadle_deed_has)] }
def SegmentTornSaid : Prop := segmentTornRow.holds Tryd.pinned (OpenSpec.ofChange segmentTornSpec)

/-- ITS FALSE NEIGHBOUR: 'it returns false'. Refute it at one input. -/
def segmentTornWrong : ChangeSpec := { name := "segmentTorn", fn := fun _ => fun
  | [d1, d2, d3] => { results := [.lit (.bool false)], args := [d1, d2, d3] }
  | _ => none }
def SegmentTornWrongFalsely : Prop := segmentTornRow.holds Tryd.pinned (OpenSpec.ofChange segmentTornWrong)

/-- 'beadlelaw14.SegmentAgain': WHATEVER THE INPUT: true; the input reads as it did. -/
def segmentAgainSpec : ChangeSpec := { name := "segmentAgain", fn := fun _ => fun
  | [d] => { results := [.lit (.bool true)], args := [d] }
  | _ => none }
def segmentAgainRow : OpenClaim := { program := "ytmlmbahimklfiaadoor", sum := "7cb9157f788bc975485dbfa7279e6adc36f090184d9c104d8f4b6f68f4c9e5e0", func := "beadle/beadlelaw14.SegmentAgain", spec := "segmentAgain", inPlace := ["internal/bytealg.IndexByteString", "internal/bytealg.IndexString"], unfollowed := true, recurses := true, named := ["beadle/deed.has", "internal/bytealg.MaxLen", "bytes.ErrTooLarge"], apart := false, laid := [("bytes.ErrTooLarge", laid_bytes_ErrTooLarge), ("beadle/deed.has", laid_beadle_deed_has)] }
def SegmentAgainSaid : Prop := segmentAgainRow.holds Tryd.pinned (OpenSpec.ofChange segmentAgainSpec)

/-- ITS FALSE NEIGHBOUR: 'it returns false'. Refute it at one input. -/
def segmentAgainWrong : ChangeSpec := { name := "segmentAgain", fn := fun _ => fun
  | [d] => { results := [.lit (.bool false)], args := [d] }
  | _ => none }
def SegmentAgainWrongFalsely : Prop := segmentAgainRow.holds Tryd.pinned (OpenSpec.ofChange segmentAgainWrong)

/- THE SECOND FORM. 'bulk': how many values and letters a reading holds, each counted each time it is reached (what is shared counts as often as it is met; a slice's spare places count too). A statement '..UptoSaid' is the law's where the arguments, and the package variables that the reading takes, are together of bulk at most 1048576: NARROWER than '..Said'. Prove '..Said' where nothing that the law and all that it calls make is longer than what came in: it says more and counts as full. Else prove '..UptoSaid'. A law counts once. -/
mutual
def uptoBulk {H : Type} : DataW H → Nat
  | .lit (.string bytes) => bytes.length + 1
  | .lit _ => 1
  | .nil => 1
  | .ptr d => uptoBulk d + 1
  | .slice elems spare => uptoBulkAll elems + uptoBulkAll spare + 1
  | .agg parts => uptoBulkAll parts + 1
  | .iface _ d => uptoBulk d + 1
  | .map entries => uptoBulkEntries entries + 1
  | .held _ => 1
def uptoBulkAll {H : Type} : List (DataW H) → Nat
  | [] => 0
  | d :: r => uptoBulk d + uptoBulkAll r
def uptoBulkEntries {H : Type} : List (Lit × DataW H) → Nat
  | [] => 0
  | x :: r => uptoBulkEntry x + uptoBulkEntries r
def uptoBulkEntry {H : Type} : Lit × DataW H → Nat
  | (.string bytes, d) => bytes.length + uptoBulk d + 1
  | (_, d) => uptoBulk d + 1
 end
def uptoSmall : (H : Type) → List (DataW H) → Bool := fun _ ds => decide (uptoBulkAll ds ≤ 1048576)
def OpenSpec.upto (s : _root_.Go.ChangeSpec) : _root_.Go.OpenSpec := { _root_.Go.OpenSpec.ofChange s with cond := some uptoSmall }

/-- 'beadlelaw14.SegmentNumbers', WHERE WHAT IT READS IS OF BULK AT MOST 1048576: true; the input reads as it did. -/
def segmentNumbersUptoRow : OpenClaim := { program := "ytmlmbahimklfiaadoor", sum := "7cb9157f788bc975485dbfa7279e6adc36f090184d9c104d8f4b6f68f4c9e5e0", func := "beadle/beadlelaw14.SegmentNumbers", spec := "segmentNumbers", inPlace := ["internal/bytealg.IndexByteString", "internal/bytealg.IndexString"], unfollowed := true, recurses := true, named := ["beadle/deed.has", "internal/bytealg.MaxLen", "bytes.ErrTooLarge"], apart := false, laid := [("bytes.ErrTooLarge", laid_bytes_ErrTooLarge), ("beadle/deed.has", laid_beadle_deed_has)], narrowed := true }
def SegmentNumbersUptoSaid : Prop := segmentNumbersUptoRow.holds Tryd.pinned (OpenSpec.upto segmentNumbersSpec)

/-- 'beadlelaw14.SegmentTorn', WHERE WHAT IT READS IS OF BULK AT MOST 1048576: true; the input reads as it did. -/
def segmentTornUptoRow : OpenClaim := { program := "ytmlmbahimklfiaadoor", sum := "7cb9157f788bc975485dbfa7279e6adc36f090184d9c104d8f4b6f68f4c9e5e0", func := "beadle/beadlelaw14.SegmentTorn", spec := "segmentTorn", inPlace := ["internal/bytealg.IndexByteString", "internal/bytealg.IndexString"], unfollowed := true, recurses := true, named := ["beadle/deed.has", "internal/bytealg.MaxLen", "bytes.ErrTooLarge"], loops := true, apart := false, laid := [("bytes.ErrTooLarge", laid_bytes_ErrTooLarge), ("beadle/deed.has", laid_beadle_deed_has)], narrowed := true }
def SegmentTornUptoSaid : Prop := segmentTornUptoRow.holds Tryd.pinned (OpenSpec.upto segmentTornSpec)

/-- 'beadlelaw14.SegmentAgain', WHERE WHAT IT READS IS OF BULK AT MOST 1048576: true; the input reads as it did. -/
def segmentAgainUptoRow : OpenClaim := { program := "ytmlmbahimklfiaadoor", sum := "7cb9157f788bc975485dbfa7279e6adc36f090184d9c104d8f4b6f68f4c9e5e0", func := "beadle/beadlelaw14.SegmentAgain", spec := "segmentAgain", inPlace := ["internal/bytealg.IndexByteString", "internal/bytealg.IndexString"], unfollowed := true, recurses := true, named := ["beadle/deed.has", "internal/bytealg.MaxLen", "bytes.ErrTooLarge"], apart := false, laid := [("bytes.ErrTooLarge", laid_bytes_ErrTooLarge), ("beadle/deed.has", laid_beadle_deed_has)], narrowed := true }
def SegmentAgainUptoSaid : Prop := segmentAgainUptoRow.holds Tryd.pinned (OpenSpec.upto segmentAgainSpec)

end Rows
end Go.Proofs.YtmlmbahimklfiaaDoor
