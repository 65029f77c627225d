/-
  NARROWER THAN 'FOR EVERY INPUT', by the rows' own cells (each row's printed sentence says how): SegmentPuts: loops, laid · SegmentScans: laid · SegmentKeeps: loops, laid.
  DERIVED. THE GIVEN ROWS OF THIS SEAT. 3 by the template 'for every input the law returns true; each argument reads behind the call as it read before'; 0 by the template 'total and deterministic' (their statements: YtmlmbahimklfiaaGreatDoorTotals.lean).
  GIVEN WITH THE SEED: the statements are not yours to turn. If you find one false, say at which input.
  Laid BY PROGRAM, IN A SANDBOX (cutbox-rows.mjs): the forced cells as the released guide's own fill.sh prints them over the translation fbad6bd2fa0b08a2… (all of the seat's roots in one cut). By AI agents, Wed Nov 11 2026. No macro, syntax, notation, axiom, sorry.
-/
import Derived.Test.YtmlmbahimklfiaaGreatDoorChecked
import GoSem.PinnedTables
import GoSem.Claim
import GoSem.ClaimJoined
import GoSem.ClaimMapViews
import Derived.JoinedTies
import Derived.KernelRfl
namespace Go.Proofs.YtmlmbahimklfiaaGreatDoor
/- THE CELL 'sum', in the pinned program and in every row, IS THE sha256 OF THE DUMP (.gsa) THAT YtmlmbahimklfiaaGreatDoorProg.lean LOADS. Nothing in Lean hashes anything: it is a label: what it is worth is what the hold of that sum in a sandbox is worth. -/
noncomputable def Tryz.pinned : Pinned := { name := "ytmlmbahimklfiaagreatdoor", sum := "fbad6bd2fa0b08a2ac1fe881f8b467a03ca3cf39aab00bfb1a5711a03391589b", checked := Tryz.checked }
namespace Rows
def none {H : Type} : Left H := { results := [], args := [] }

/- WHAT THE LISTED PACKAGE-LEVEL VARIABLES READ AS WHEN THE CALL BEGINS. Each datum BY PROGRAM (the guide's laid-datum.mjs) off the statement by which the dump's own 'gosem.cut.vars' lays the variable. In a bare row this is a premise. The card (YtmlmbahimklfiaaGreatDoorCards.lean) ties it to the program's text. -/
def laid_unicode_utf8_acceptRanges {H : Type} : DataW H := .agg [.agg [.lit (.int .u8 128), .lit (.int .u8 191)], .agg [.lit (.int .u8 160), .lit (.int .u8 191)], .agg [.lit (.int .u8 128), .lit (.int .u8 159)], .agg [.lit (.int .u8 144), .lit (.int .u8 191)], .agg [.lit (.int .u8 128), .lit (.int .u8 143)], .agg [.lit (.int .u8 0), .lit (.int .u8 0)], .agg [.lit (.int .u8 0), .lit (.int .u8 0)], .agg [.lit (.int .u8 0), .lit (.int .u8 0)], .agg [.lit (.int .u8 0), .lit (.int .u8 0)], .agg [.lit (.int .u8 0), .lit (.int .u8 0)], .agg [.lit (.int .u8 0), .lit (.int .u8 0)], .agg [.lit (.int .u8 0), .lit (.int .u8 0)], .agg [.lit (.int .u8 0), .lit (.int .u8 0)], .agg [.lit (.int .u8 0), .lit (.int .u8 0)], .agg [.lit (.int .u8 0), .lit (.int .u8 0)], .agg [.lit (.int .u8 0), .lit (.int .u8 0)]]
def laid_bytes_ErrTooLarge {H : Type} : DataW H := .iface "*errors.errorString" (.ptr (.agg [.lit (.string [98, 121, 116, 101, 115, 46, 66, 117, 102, 102, 101, 114, 58, 32, 116, 111, 111, 32, 108, 97, 114, 103, 101])]))
def laid_beadle_deed_has {H : Type} : DataW H := .agg [.lit (.int .i64 0), .lit (.int .i64 23), .lit (.int .i64 17), .lit (.int .i64 11), .lit (.int .i64 32), .lit (.int .i64 260), .lit (.int .i64 0), .lit (.int .i64 128), .lit (.int .i64 256), .lit (.int .i64 64)]
/-- One of Go's own tables, pinned by name: the form's constant. -/
def laid_unicode_utf8_first : DataW Unit := Go.Pinned.utf8First

/-- 'beadlelaw14.SegmentPuts': WHATEVER THE INPUT: true; the input reads as it did. -/
def segmentPutsSpec : ChangeSpec := { name := "segmentPuts", fn := fun _ => fun
  | [d] => { results := [.lit (.bool true)], args := [d] }
  | _ => none }
def segmentPutsRow : OpenClaim := { program := "ytmlmbahimklfiaagreatdoor", sum := "fbad6bd2fa0b08a2ac1fe881f8b467a03ca3cf39aab00bfb1a5711a03391589b", func := "beadle/beadlelaw14.SegmentPuts", spec := "segmentPuts", inPlace := ["internal/bytealg.IndexByteString", "internal/bytealg.IndexString", "internal/bytealg.CountString"], unfollowed := true, recurses := true, named := ["beadle/deed.has", "internal/bytealg.MaxLen", "bytes.ErrTooLarge", "unicode/utf8.first", "unicode/utf8.acceptRanges"], loops := true, apart := false, laid := [("unicode/utf8.acceptRanges", laid_unicode_utf8_acceptRanges), ("bytes.ErrTooLarge", laid_bytes_ErrTooLarge), ("beadle/deed.has", laid_beadle_deed_has), ("unicode/utf8.first", laid_unicode_utf8_first)] }
def SegmentPutsSaid : Prop := segmentPutsRow.holds Tryz.pinned (OpenSpec.ofChange segmentPutsSpec)

/-- ITS FALSE NEIGHBOUR: 'it returns false'. Refute it at one input. -/
def segmentPutsWrong : ChangeSpec := { name := "segmentPuts", fn := fun _ => fun
  | [d] => { results := [.lit (.bool false)], args := [d] }
  | _ => none }
def SegmentPutsWrongFalsely : Prop := segmentPutsRow.holds Tryz.pinned (OpenSpec.ofChange segmentPutsWrong)

/-- 'beadlelaw14.SegmentScans': WHATEVER THE INPUT: true; the input reads as it did. -/
def segmentScansSpec : ChangeSpec := { name := "segmentScans", fn := fun _ => fun
  | [d] => { results := [.lit (.bool true)], args := [d] }
  | _ => none }
def segmentScansRow : OpenClaim := { program := "ytmlmbahimklfiaagreatdoor", sum := "fbad6bd2fa0b08a2ac1fe881f8b467a03ca3cf39aab00bfb1a5711a03391589b", func := "beadle/beadlelaw14.SegmentScans", spec := "segmentScans", inPlace := ["internal/bytealg.IndexByteString", "internal/bytealg.IndexString", "internal/bytealg.CountString"], unfollowed := true, recurses := true, named := ["beadle/deed.has", "internal/bytealg.MaxLen", "bytes.ErrTooLarge", "unicode/utf8.first", "unicode/utf8.acceptRanges"], apart := false, laid := [("unicode/utf8.acceptRanges", laid_unicode_utf8_acceptRanges), ("bytes.ErrTooLarge", laid_bytes_ErrTooLarge), ("beadle/deed.has", laid_beadle_deed_has), ("unicode/utf8.first", laid_unicode_utf8_first)] }
def SegmentScansSaid : Prop := segmentScansRow.holds Tryz.pinned (OpenSpec.ofChange segmentScansSpec)

/-- ITS FALSE NEIGHBOUR: 'it returns false'. Refute it at one input. -/
def segmentScansWrong : ChangeSpec := { name := "segmentScans", fn := fun _ => fun
  | [d] => { results := [.lit (.bool false)], args := [d] }
  | _ => none }
def SegmentScansWrongFalsely : Prop := segmentScansRow.holds Tryz.pinned (OpenSpec.ofChange segmentScansWrong)

/-- 'beadlelaw14.SegmentKeeps': WHATEVER THE INPUT: true; the input reads as it did. -/
def segmentKeepsSpec : ChangeSpec := { name := "segmentKeeps", fn := fun _ => fun
  | [d1, d2] => { results := [.lit (.bool true)], args := [d1, d2] }
  | _ => none }
def segmentKeepsRow : OpenClaim := { program := "ytmlmbahimklfiaagreatdoor", sum := "fbad6bd2fa0b08a2ac1fe881f8b467a03ca3cf39aab00bfb1a5711a03391589b", func := "beadle/beadlelaw14.SegmentKeeps", spec := "segmentKeeps", inPlace := ["internal/bytealg.IndexByteString", "internal/bytealg.IndexString", "internal/bytealg.CountString"], unfollowed := true, recurses := true, named := ["beadle/deed.has", "internal/bytealg.MaxLen", "bytes.ErrTooLarge", "unicode/utf8.first", "unicode/utf8.acceptRanges"], loops := true, apart := false, laid := [("unicode/utf8.acceptRanges", laid_unicode_utf8_acceptRanges), ("bytes.ErrTooLarge", laid_bytes_ErrTooLarge), ("beadle/deed.has", laid_beadle_deed_has), ("unicode/utf8.first", laid_unicode_utf8_first)] }
def SegmentKeepsSaid : Prop := segmentKeepsRow.holds Tryz.pinned (OpenSpec.ofChange segmentKeepsSpec)

/-- ITS FALSE NEIGHBOUR: 'it returns false'. Refute it at one input. -/
def segmentKeepsWrong : ChangeSpec := { name := "segmentKeeps", fn := fun _ => fun
  | [d1, d2] => { results := [.lit (.bool false)], args := [d1, d2] }
  | _ => none }
def SegmentKeepsWrongFalsely : Prop := segmentKeepsRow.holds Tryz.pinned (OpenSpec.ofChange segmentKeepsWrong)

/- THE SECOND FORM. 'bulk': how many values and letters a reading holds, each counted each time it is reached (what is shared counts as often as it is met; a slice's spare places count too). A statement '..UptoSaid' is the law's where the arguments, and the package variables that the reading takes, are together of bulk at most 1048576: NARROWER than '..Said'. Prove '..Said' where nothing that the law and all that it calls make is longer than what came in: it says more and counts as full. Else prove '..UptoSaid'. A law counts once. -/
mutual
def uptoBulk {H : Type} : DataW H → Nat
  | .lit (.string bytes) => bytes.length + 1
  | .lit _ => 1
  | .nil => 1
  | .ptr d => uptoBulk d + 1
  | .slice elems spare => uptoBulkAll elems + uptoBulkAll spare + 1
  | .agg parts => uptoBulkAll parts + 1
  | .iface _ d => uptoBulk d + 1
  | .map entries => uptoBulkEntries entries + 1
  | .held _ => 1
def uptoBulkAll {H : Type} : List (DataW H) → Nat
  | [] => 0
  | d :: r => uptoBulk d + uptoBulkAll r
def uptoBulkEntries {H : Type} : List (Lit × DataW H) → Nat
  | [] => 0
  | x :: r => uptoBulkEntry x + uptoBulkEntries r
def uptoBulkEntry {H : Type} : Lit × DataW H → Nat
  | (.string bytes, d) => bytes.length + uptoBulk d + 1
  | (_, d) => uptoBulk d + 1
 end
def uptoSmall : (H : Type) → List (DataW H) → Bool := fun _ ds => decide (uptoBulkAll ds ≤ 1048576)
def OpenSpec.upto (s : _root_.Go.ChangeSpec) : _root_.Go.OpenSpec := { _root_.Go.OpenSpec.ofChange s with cond := some uptoSmall }

/-- 'beadlelaw14.SegmentPuts', WHERE WHAT IT READS IS OF BULK AT MOST 1048576: true; the input reads as it did. -/
def segmentPutsUptoRow : OpenClaim := { program := "ytmlmbahimklfiaagreatdoor", sum := "fbad6bd2fa0b08a2ac1fe881f8b467a03ca3cf39aab00bfb1a5711a03391589b", func := "beadle/beadlelaw14.SegmentPuts", spec := "segmentPuts", inPlace := ["internal/bytealg.IndexByteString", "internal/bytealg.IndexString", "internal/bytealg.CountString"], unfollowed := true, recurses := true, named := ["beadle/deed.has", "internal/bytealg.MaxLen", "bytes.ErrTooLarge", "unicode/utf8.first", "unicode/utf8.acceptRanges"], loops := true, apart := false, laid := [("unicode/utf8.acceptRanges", laid_unicode_utf8_acceptRanges), ("bytes.ErrTooLarge", laid_bytes_ErrTooLarge), ("beadle/deed.has", laid_beadle_deed_has), ("unicode/utf8.first", laid_unicode_utf8_first)], narrowed := true }
def SegmentPutsUptoSaid : Prop := segmentPutsUptoRow.holds Tryz.pinned (OpenSpec.upto segmentPutsSpec)

/-- 'beadlelaw14.SegmentScans', WHERE WHAT IT READS IS OF BULK AT MOST 1048576: true; the input reads as it did. -/
def segmentScansUptoRow : OpenClaim := { program := "ytmlmbahimklfiaagreatdoor", sum := "fbad6bd2fa0b08a2ac1fe881f8b467a03ca3cf39aab00bfb1a5711a03391589b", func := "beadle/beadlelaw14.SegmentScans", spec := "segmentScans", inPlace := ["internal/bytealg.IndexByteString", "internal/bytealg.IndexString", "internal/bytealg.CountString"], unfollowed := true, recurses := true, named := ["beadle/deed.has", "internal/bytealg.MaxLen", "bytes.ErrTooLarge", "unicode/utf8.first", "unicode/utf8.acceptRanges"], apart := false, laid := [("unicode/utf8.acceptRanges", laid_unicode_utf8_acceptRanges), ("bytes.ErrTooLarge", laid_bytes_ErrTooLarge), ("beadle/deed.has", laid_beadle_deed_has), ("unicode/utf8.first", laid_unicode_utf8_first)], narrowed := true }
def SegmentScansUptoSaid : Prop := segmentScansUptoRow.holds Tryz.pinned (OpenSpec.upto segmentScansSpec)

/-- 'beadlelaw14.SegmentKeeps', WHERE WHAT IT READS IS OF BULK AT MOST 1048576: true; the input reads as it did. -/
def segmentKeepsUptoRow : OpenClaim := { program := "ytmlmbahimklfiaagreatdoor", sum := "fbad6bd2fa0b08a2ac1fe881f8b467a03ca3cf39aab00bfb1a5711a03391589b", func := "beadle/beadlelaw14.SegmentKeeps", spec := "segmentKeeps", inPlace := ["internal/bytealg.IndexByteString", "internal/bytealg.IndexString", "internal/bytealg.CountString"], unfollowed := true, recurses := true, named := ["beadle/deed.has", "internal/bytealg.MaxLen", "bytes.ErrTooLarge", "unicode/utf8.first", "unicode/utf8.acceptRanges"], loops := true, apart := false, laid := [("unicode/utf8.acceptRanges", laid_unicode_utf8_acceptRanges), ("bytes.ErrTooLarge", laid_bytes_ErrTooLarge), ("beadle/deed.has", laid_beadle_deed_has), ("unicode/utf8.first", laid_unicode_utf8_first)], narrowed := true }
def SegmentKeepsUptoSaid : Prop := segmentKeepsUptoRow.holds Tryz.pinned (OpenSpec.upto segmentKeepsSpec)

end Rows
end Go.Proofs.YtmlmbahimklfiaaGreatDoor
