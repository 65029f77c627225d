/-
  NARROWER THAN 'FOR EVERY INPUT', by the rows' own cells (each row's printed sentence says how): DeedBack: loops, laid · DeedZxids: laid · DeedOrder: laid · DeedRight: loops, laid · DeedGets: laid.
  DERIVED. THE GIVEN ROWS OF THIS SEAT. 5 by the template 'for every input the law returns true; each argument reads behind the call as it read before'; 0 by the template 'total and deterministic' (their statements: YtljioepkbbbibaaDoorTotals.lean).
  GIVEN WITH THE SEED: the statements are not yours to turn. If you find one false, say at which input.
  Laid BY PROGRAM, IN A SANDBOX (cutbox-rows.mjs): the forced cells as the released guide's own fill.sh prints them over the translation bb5d22f8366cb8b4… (all of the seat's roots in one cut). By AI agents, Wed Nov 11 2026. No macro, syntax, notation, axiom, sorry.
-/
import Derived.Test.YtljioepkbbbibaaDoorChecked
import GoSem.PinnedTables
import GoSem.Claim
import GoSem.ClaimJoined
import GoSem.ClaimMapViews
import Derived.JoinedTies
import Derived.KernelRfl
namespace Go.Proofs.YtljioepkbbbibaaDoor
/- THE CELL 'sum', in the pinned program and in every row, IS THE sha256 OF THE DUMP (.gsa) THAT YtljioepkbbbibaaDoorProg.lean LOADS. Nothing in Lean hashes anything: it is a label: what it is worth is what the hold of that sum in a sandbox is worth. -/
noncomputable def Tryd.pinned : Pinned := { name := "ytljioepkbbbibaadoor", sum := "bb5d22f8366cb8b4ffdb34c033d77897f1425dc2e6fcbec4b67247931193ac79", checked := Tryd.checked }
namespace Rows
def none {H : Type} : Left H := { results := [], args := [] }

/- WHAT THE LISTED PACKAGE-LEVEL VARIABLES READ AS WHEN THE CALL BEGINS. Each datum BY PROGRAM (the guide's laid-datum.mjs) off the statement by which the dump's own 'gosem.cut.vars' lays the variable. In a bare row this is a premise. The card (YtljioepkbbbibaaDoorCards.lean) ties it to the program's text. -/
def laid_bytes_ErrTooLarge {H : Type} : DataW H := .iface "*errors.errorString" (.ptr (.agg [.lit (.string [98, 121, 116, 101, 115, 46, 66, 117, 102, 102, 101, 114, 58, 32, 116, 111, 111, 32, 108, 97, 114, 103, 101])]))
def laid_beadle_deed_has {H : Type} : DataW H := .agg [.lit (.int .i64 0), .lit (.int .i64 23), .lit (.int .i64 17), .lit (.int .i64 11), .lit (.int .i64 32), .lit (.int .i64 260), .lit (.int .i64 0), .lit (.int .i64 128), .lit (.int .i64 256), .lit (.int .i64 64)]
def laid_unicode_utf8_acceptRanges {H : Type} : DataW H := .agg [.agg [.lit (.int .u8 128), .lit (.int .u8 191)], .agg [.lit (.int .u8 160), .lit (.int .u8 191)], .agg [.lit (.int .u8 128), .lit (.int .u8 159)], .agg [.lit (.int .u8 144), .lit (.int .u8 191)], .agg [.lit (.int .u8 128), .lit (.int .u8 143)], .agg [.lit (.int .u8 0), .lit (.int .u8 0)], .agg [.lit (.int .u8 0), .lit (.int .u8 0)], .agg [.lit (.int .u8 0), .lit (.int .u8 0)], .agg [.lit (.int .u8 0), .lit (.int .u8 0)], .agg [.lit (.int .u8 0), .lit (.int .u8 0)], .agg [.lit (.int .u8 0), .lit (.int .u8 0)], .agg [.lit (.int .u8 0), .lit (.int .u8 0)], .agg [.lit (.int .u8 0), .lit (.int .u8 0)], .agg [.lit (.int .u8 0), .lit (.int .u8 0)], .agg [.lit (.int .u8 0), .lit (.int .u8 0)], .agg [.lit (.int .u8 0), .lit (.int .u8 0)]]
/-- One of Go's own tables, pinned by name: the form's constant. -/
def laid_unicode_utf8_first : DataW Unit := Go.Pinned.utf8First

/-- 'beadlelaw05.DeedBack': WHATEVER THE INPUT: true; the input reads as it did. -/
def deedBackSpec : ChangeSpec := { name := "deedBack", fn := fun _ => fun
  | [d1, d2, d3, d4] => { results := [.lit (.bool true)], args := [d1, d2, d3, d4] }
  | _ => none }
def deedBackRow : OpenClaim := { program := "ytljioepkbbbibaadoor", sum := "bb5d22f8366cb8b4ffdb34c033d77897f1425dc2e6fcbec4b67247931193ac79", func := "beadle/beadlelaw05.DeedBack", spec := "deedBack", inPlace := ["internal/bytealg.IndexByteString", "internal/bytealg.IndexString"], unfollowed := true, recurses := true, named := ["beadle/deed.has", "internal/bytealg.MaxLen", "bytes.ErrTooLarge"], loops := true, apart := false, laid := [("bytes.ErrTooLarge", laid_bytes_ErrTooLarge), ("beadle/deed.has", laid_beadle_deed_has)] }
def DeedBackSaid : Prop := deedBackRow.holds Tryd.pinned (OpenSpec.ofChange deedBackSpec)

/-- ITS FALSE NEIGHBOUR: 'it returns false'. Refute it at one input. -/
def deedBackWrong : ChangeSpec := { name := "deedBack", fn := fun _ => fun
  | [d1, d2, d3, d4] => { results := [.lit (.bool false)], args := [d1, d2, d3, d4] }
  | _ => none }
def DeedBackWrongFalsely : Prop := deedBackRow.holds Tryd.pinned (OpenSpec.ofChange deedBackWrong)

/-- 'beadlelaw05.DeedZxids': WHATEVER THE INPUT: true; the input reads as it did. -/
def deedZxidsSpec : ChangeSpec := { name := "deedZxids", fn := fun _ => fun
  | [d1, d2, d3] => { results := [.lit (.bool true)], args := [d1, d2, d3] }
  | _ => none }
def deedZxidsRow : OpenClaim := { program := "ytljioepkbbbibaadoor", sum := "bb5d22f8366cb8b4ffdb34c033d77897f1425dc2e6fcbec4b67247931193ac79", func := "beadle/beadlelaw05.DeedZxids", spec := "deedZxids", inPlace := ["internal/bytealg.IndexByteString", "internal/bytealg.IndexString"], unfollowed := true, recurses := true, named := ["beadle/deed.has", "internal/bytealg.MaxLen", "bytes.ErrTooLarge"], apart := false, laid := [("bytes.ErrTooLarge", laid_bytes_ErrTooLarge), ("beadle/deed.has", laid_beadle_deed_has)] }
def DeedZxidsSaid : Prop := deedZxidsRow.holds Tryd.pinned (OpenSpec.ofChange deedZxidsSpec)

/-- ITS FALSE NEIGHBOUR: 'it returns false'. Refute it at one input. -/
def deedZxidsWrong : ChangeSpec := { name := "deedZxids", fn := fun _ => fun
  | [d1, d2, d3] => { results := [.lit (.bool false)], args := [d1, d2, d3] }
  | _ => none }
def DeedZxidsWrongFalsely : Prop := deedZxidsRow.holds Tryd.pinned (OpenSpec.ofChange deedZxidsWrong)

/-- 'beadlelaw05.DeedOrder': WHATEVER THE INPUT: true; the input reads as it did. -/
def deedOrderSpec : ChangeSpec := { name := "deedOrder", fn := fun _ => fun
  | [d1, d2, d3, d4] => { results := [.lit (.bool true)], args := [d1, d2, d3, d4] }
  | _ => none }
def deedOrderRow : OpenClaim := { program := "ytljioepkbbbibaadoor", sum := "bb5d22f8366cb8b4ffdb34c033d77897f1425dc2e6fcbec4b67247931193ac79", func := "beadle/beadlelaw05.DeedOrder", spec := "deedOrder", inPlace := ["internal/bytealg.IndexByteString", "internal/bytealg.IndexString"], unfollowed := true, recurses := true, named := ["beadle/deed.has", "internal/bytealg.MaxLen", "bytes.ErrTooLarge"], apart := false, laid := [("bytes.ErrTooLarge", laid_bytes_ErrTooLarge), ("beadle/deed.has", laid_beadle_deed_has)] }
def DeedOrderSaid : Prop := deedOrderRow.holds Tryd.pinned (OpenSpec.ofChange deedOrderSpec)

/-- ITS FALSE NEIGHBOUR: 'it returns false'. Refute it at one input. -/
def deedOrderWrong : ChangeSpec := { name := "deedOrder", fn := fun _ => fun
  | [d1, d2, d3, d4] => { results := [.lit (.bool false)], args := [d1, d2, d3, d4] }
  | _ => none }
def DeedOrderWrongFalsely : Prop := deedOrderRow.holds Tryd.pinned (OpenSpec.ofChange deedOrderWrong)

/-- 'beadlelaw05.DeedRight': WHATEVER THE INPUT: true; the input reads as it did. -/
def deedRightSpec : ChangeSpec := { name := "deedRight", fn := fun _ => fun
  | [d] => { results := [.lit (.bool true)], args := [d] }
  | _ => none }
def deedRightRow : OpenClaim := { program := "ytljioepkbbbibaadoor", sum := "bb5d22f8366cb8b4ffdb34c033d77897f1425dc2e6fcbec4b67247931193ac79", func := "beadle/beadlelaw05.DeedRight", spec := "deedRight", inPlace := ["internal/bytealg.IndexByteString", "internal/bytealg.IndexString", "internal/bytealg.CountString"], unfollowed := true, recurses := true, named := ["beadle/deed.has", "internal/bytealg.MaxLen", "bytes.ErrTooLarge", "unicode/utf8.first", "unicode/utf8.acceptRanges"], loops := true, apart := false, laid := [("unicode/utf8.acceptRanges", laid_unicode_utf8_acceptRanges), ("bytes.ErrTooLarge", laid_bytes_ErrTooLarge), ("beadle/deed.has", laid_beadle_deed_has), ("unicode/utf8.first", laid_unicode_utf8_first)] }
def DeedRightSaid : Prop := deedRightRow.holds Tryd.pinned (OpenSpec.ofChange deedRightSpec)

/-- ITS FALSE NEIGHBOUR: 'it returns false'. Refute it at one input. -/
def deedRightWrong : ChangeSpec := { name := "deedRight", fn := fun _ => fun
  | [d] => { results := [.lit (.bool false)], args := [d] }
  | _ => none }
def DeedRightWrongFalsely : Prop := deedRightRow.holds Tryd.pinned (OpenSpec.ofChange deedRightWrong)

/-- 'beadlelaw05.DeedGets': WHATEVER THE INPUT: true; the input reads as it did. -/
def deedGetsSpec : ChangeSpec := { name := "deedGets", fn := fun _ => fun
  | [d] => { results := [.lit (.bool true)], args := [d] }
  | _ => none }
def deedGetsRow : OpenClaim := { program := "ytljioepkbbbibaadoor", sum := "bb5d22f8366cb8b4ffdb34c033d77897f1425dc2e6fcbec4b67247931193ac79", func := "beadle/beadlelaw05.DeedGets", spec := "deedGets", inPlace := ["internal/bytealg.IndexByteString", "internal/bytealg.IndexString", "internal/bytealg.CountString"], unfollowed := true, recurses := true, named := ["beadle/deed.has", "internal/bytealg.MaxLen", "bytes.ErrTooLarge", "unicode/utf8.first", "unicode/utf8.acceptRanges"], apart := false, laid := [("unicode/utf8.acceptRanges", laid_unicode_utf8_acceptRanges), ("bytes.ErrTooLarge", laid_bytes_ErrTooLarge), ("beadle/deed.has", laid_beadle_deed_has), ("unicode/utf8.first", laid_unicode_utf8_first)] }
def DeedGetsSaid : Prop := deedGetsRow.holds Tryd.pinned (OpenSpec.ofChange deedGetsSpec)

/-- ITS FALSE NEIGHBOUR: 'it returns false'. Refute it at one input. -/
def deedGetsWrong : ChangeSpec := { name := "deedGets", fn := fun _ => fun
  | [d] => { results := [.lit (.bool false)], args := [d] }
  | _ => none }
def DeedGetsWrongFalsely : Prop := deedGetsRow.holds Tryd.pinned (OpenSpec.ofChange deedGetsWrong)

/- THE SECOND FORM. 'bulk': how many values and letters a reading holds, each counted each time it is reached (what is shared counts as often as it is met; a slice's spare places count too). A statement '..UptoSaid' is the law's where the arguments, and the package variables that the reading takes, are together of bulk at most 1048576: NARROWER than '..Said'. Prove '..Said' where nothing that the law and all that it calls make is longer than what came in: it says more and counts as full. Else prove '..UptoSaid'. A law counts once. -/
mutual
def uptoBulk {H : Type} : DataW H → Nat
  | .lit (.string bytes) => bytes.length + 1
  | .lit _ => 1
  | .nil => 1
  | .ptr d => uptoBulk d + 1
  | .slice elems spare => uptoBulkAll elems + uptoBulkAll spare + 1
  | .agg parts => uptoBulkAll parts + 1
  | .iface _ d => uptoBulk d + 1
  | .map entries => uptoBulkEntries entries + 1
  | .held _ => 1
def uptoBulkAll {H : Type} : List (DataW H) → Nat
  | [] => 0
  | d :: r => uptoBulk d + uptoBulkAll r
def uptoBulkEntries {H : Type} : List (Lit × DataW H) → Nat
  | [] => 0
  | x :: r => uptoBulkEntry x + uptoBulkEntries r
def uptoBulkEntry {H : Type} : Lit × DataW H → Nat
  | (.string bytes, d) => bytes.length + uptoBulk d + 1
  | (_, d) => uptoBulk d + 1
 end
def uptoSmall : (H : Type) → List (DataW H) → Bool := fun _ ds => decide (uptoBulkAll ds ≤ 1048576)
def OpenSpec.upto (s : _root_.Go.ChangeSpec) : _root_.Go.OpenSpec := { _root_.Go.OpenSpec.ofChange s with cond := some uptoSmall }

/-- 'beadlelaw05.DeedBack', WHERE WHAT IT READS IS OF BULK AT MOST 1048576: true; the input reads as it did. -/
def deedBackUptoRow : OpenClaim := { program := "ytljioepkbbbibaadoor", sum := "bb5d22f8366cb8b4ffdb34c033d77897f1425dc2e6fcbec4b67247931193ac79", func := "beadle/beadlelaw05.DeedBack", spec := "deedBack", inPlace := ["internal/bytealg.IndexByteString", "internal/bytealg.IndexString"], unfollowed := true, recurses := true, named := ["beadle/deed.has", "internal/bytealg.MaxLen", "bytes.ErrTooLarge"], loops := true, apart := false, laid := [("bytes.ErrTooLarge", laid_bytes_ErrTooLarge), ("beadle/deed.has", laid_beadle_deed_has)], narrowed := true }
def DeedBackUptoSaid : Prop := deedBackUptoRow.holds Tryd.pinned (OpenSpec.upto deedBackSpec)

/-- 'beadlelaw05.DeedZxids', WHERE WHAT IT READS IS OF BULK AT MOST 1048576: true; the input reads as it did. -/
def deedZxidsUptoRow : OpenClaim := { program := "ytljioepkbbbibaadoor", sum := "bb5d22f8366cb8b4ffdb34c033d77897f1425dc2e6fcbec4b67247931193ac79", func := "beadle/beadlelaw05.DeedZxids", spec := "deedZxids", inPlace := ["internal/bytealg.IndexByteString", "internal/bytealg.IndexString"], unfollowed := true, recurses := true, named := ["beadle/deed.has", "internal/bytealg.MaxLen", "bytes.ErrTooLarge"], apart := false, laid := [("bytes.ErrTooLarge", laid_bytes_ErrTooLarge), ("beadle/deed.has", laid_beadle_deed_has)], narrowed := true }
def DeedZxidsUptoSaid : Prop := deedZxidsUptoRow.holds Tryd.pinned (OpenSpec.upto deedZxidsSpec)

/-- 'beadlelaw05.DeedOrder', WHERE WHAT IT READS IS OF BULK AT MOST 1048576: true; the input reads as it did. -/
def deedOrderUptoRow : OpenClaim := { program := "ytljioepkbbbibaadoor", sum := "bb5d22f8366cb8b4ffdb34c033d77897f1425dc2e6fcbec4b67247931193ac79", func := "beadle/beadlelaw05.DeedOrder", spec := "deedOrder", inPlace := ["internal/bytealg.IndexByteString", "internal/bytealg.IndexString"], unfollowed := true, recurses := true, named := ["beadle/deed.has", "internal/bytealg.MaxLen", "bytes.ErrTooLarge"], apart := false, laid := [("bytes.ErrTooLarge", laid_bytes_ErrTooLarge), ("beadle/deed.has", laid_beadle_deed_has)], narrowed := true }
def DeedOrderUptoSaid : Prop := deedOrderUptoRow.holds Tryd.pinned (OpenSpec.upto deedOrderSpec)

/-- 'beadlelaw05.DeedRight', WHERE WHAT IT READS IS OF BULK AT MOST 1048576: true; the input reads as it did. -/
def deedRightUptoRow : OpenClaim := { program := "ytljioepkbbbibaadoor", sum := "bb5d22f8366cb8b4ffdb34c033d77897f1425dc2e6fcbec4b67247931193ac79", func := "beadle/beadlelaw05.DeedRight", spec := "deedRight", inPlace := ["internal/bytealg.IndexByteString", "internal/bytealg.IndexString", "internal/bytealg.CountString"], unfollowed := true, recurses := true, named := ["beadle/deed.has", "internal/bytealg.MaxLen", "bytes.ErrTooLarge", "unicode/utf8.first", "unicode/utf8.acceptRanges"], loops := true, apart := false, laid := [("unicode/utf8.acceptRanges", laid_unicode_utf8_acceptRanges), ("bytes.ErrTooLarge", laid_bytes_ErrTooLarge), ("beadle/deed.has", laid_beadle_deed_has), ("unicode/utf8.first", laid_unicode_utf8_first)], narrowed := true }
def DeedRightUptoSaid : Prop := deedRightUptoRow.holds Tryd.pinned (OpenSpec.upto deedRightSpec)

/-- 'beadlelaw05.DeedGets', WHERE WHAT IT READS IS OF BULK AT MOST 1048576: true; the input reads as it did. -/
def deedGetsUptoRow : OpenClaim := { program := "ytljioepkbbbibaadoor", sum := "bb5d22f8366cb8b4ffdb34c033d77897f1425dc2e6fcbec4b67247931193ac79", func := "beadle/beadlelaw05.DeedGets", spec := "deedGets", inPlace := ["internal/bytealg.IndexByteString", "internal/bytealg.IndexString", "internal/bytealg.CountString"], unfollowed := true, recurses := true, named := ["beadle/deed.has", "internal/bytealg.MaxLen", "bytes.ErrTooLarge", "unicode/utf8.first", "unicode/utf8.acceptRanges"], apart := false, laid := [("unicode/utf8.acceptRanges", laid_unicode_utf8_acceptRanges), ("bytes.ErrTooLarge", laid_bytes_ErrTooLarge), ("beadle/deed.has", laid_beadle_deed_has), ("unicode/utf8.first", laid_unicode_utf8_first)], narrowed := true }
def DeedGetsUptoSaid : Prop := deedGetsUptoRow.holds Tryd.pinned (OpenSpec.upto deedGetsSpec)

end Rows
end Go.Proofs.YtljioepkbbbibaaDoor
