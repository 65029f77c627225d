/-
  NARROWER THAN 'FOR EVERY INPUT', by the rows' own cells (each row's printed sentence says how): AskCalls: loops, laid · AskReplies: loops, laid · AskBack: loops, laid · AskOne: laid.
  DERIVED. THE GIVEN ROWS OF THIS SEAT. 4 by the template 'for every input the law returns true; each argument reads behind the call as it read before'; 0 by the template 'total and deterministic' (their statements: YtlckgkpgllhpbaaDoorTotals.lean).
  GIVEN WITH THE SEED: the statements are not yours to turn. If you find one false, say at which input.
  Laid BY PROGRAM, IN A SANDBOX (cutbox-rows.mjs): the forced cells as the released guide's own fill.sh prints them over the translation de548bfa3f3916ba… (all of the seat's roots in one cut). By AI agents, Wed Nov 11 2026. No macro, syntax, notation, axiom, sorry.
-/
import Derived.Test.YtlckgkpgllhpbaaDoorChecked
import GoSem.Claim
import GoSem.ClaimJoined
import GoSem.ClaimMapViews
import Derived.JoinedTies
import Derived.KernelRfl
namespace Go.Proofs.YtlckgkpgllhpbaaDoor
/- THE CELL 'sum', in the pinned program and in every row, IS THE sha256 OF THE DUMP (.gsa) THAT YtlckgkpgllhpbaaDoorProg.lean LOADS. Nothing in Lean hashes anything: it is a label: what it is worth is what the hold of that sum in a sandbox is worth. -/
noncomputable def Tryd.pinned : Pinned := { name := "ytlckgkpgllhpbaadoor", sum := "de548bfa3f3916baaeedba18133133f8caafc7f4dacf995a04b22d68438f2221", checked := Tryd.checked }
namespace Rows
def none {H : Type} : Left H := { results := [], args := [] }

/- WHAT THE LISTED PACKAGE-LEVEL VARIABLES READ AS WHEN THE CALL BEGINS. Each datum BY PROGRAM (the guide's laid-datum.mjs) off the statement by which the dump's own 'gosem.cut.vars' lays the variable. In a bare row this is a premise. The card (YtlckgkpgllhpbaaDoorCards.lean) ties it to the program's text. -/
def laid_bytes_ErrTooLarge {H : Type} : DataW H := .iface "*errors.errorString" (.ptr (.agg [.lit (.string [98, 121, 116, 101, 115, 46, 66, 117, 102, 102, 101, 114, 58, 32, 116, 111, 111, 32, 108, 97, 114, 103, 101])]))

/-- 'beadlelaw06.AskCalls': WHATEVER THE INPUT: true; the input reads as it did. -/
def askCallsSpec : ChangeSpec := { name := "askCalls", fn := fun _ => fun
  | [d] => { results := [.lit (.bool true)], args := [d] }
  | _ => none }
def askCallsRow : OpenClaim := { program := "ytlckgkpgllhpbaadoor", sum := "de548bfa3f3916baaeedba18133133f8caafc7f4dacf995a04b22d68438f2221", func := "beadle/beadlelaw06.AskCalls", spec := "askCalls", unfollowed := true, recurses := true, named := ["bytes.ErrTooLarge"], loops := true, apart := false, laid := [("bytes.ErrTooLarge", laid_bytes_ErrTooLarge)] }
def AskCallsSaid : Prop := askCallsRow.holds Tryd.pinned (OpenSpec.ofChange askCallsSpec)

/-- ITS FALSE NEIGHBOUR: 'it returns false'. Refute it at one input. -/
def askCallsWrong : ChangeSpec := { name := "askCalls", fn := fun _ => fun
  | [d] => { results := [.lit (.bool false)], args := [d] }
  | _ => none }
def AskCallsWrongFalsely : Prop := askCallsRow.holds Tryd.pinned (OpenSpec.ofChange askCallsWrong)

/-- 'beadlelaw06.AskReplies': WHATEVER THE INPUT: true; the input reads as it did. -/
def askRepliesSpec : ChangeSpec := { name := "askReplies", fn := fun _ => fun
  | [d1, d2] => { results := [.lit (.bool true)], args := [d1, d2] }
  | _ => none }
def askRepliesRow : OpenClaim := { program := "ytlckgkpgllhpbaadoor", sum := "de548bfa3f3916baaeedba18133133f8caafc7f4dacf995a04b22d68438f2221", func := "beadle/beadlelaw06.AskReplies", spec := "askReplies", unfollowed := true, recurses := true, named := ["bytes.ErrTooLarge"], loops := true, apart := false, laid := [("bytes.ErrTooLarge", laid_bytes_ErrTooLarge)] }
def AskRepliesSaid : Prop := askRepliesRow.holds Tryd.pinned (OpenSpec.ofChange askRepliesSpec)

/-- ITS FALSE NEIGHBOUR: 'it returns false'. Refute it at one input. -/
def askRepliesWrong : ChangeSpec := { name := "askReplies", fn := fun _ => fun
  | [d1, d2] => { results := [.lit (.bool false)], args := [d1, d2] }
  | _ => none }
def AskRepliesWrongFalsely : Prop := askRepliesRow.holds Tryd.pinned (OpenSpec.ofChange askRepliesWrong)

/-- 'beadlelaw06.AskBack': WHATEVER THE INPUT: true; the input reads as it did. -/
def askBackSpec : ChangeSpec := { name := "askBack", fn := fun _ => fun
  | [d1, d2, d3, d4, d5] => { results := [.lit (.bool true)], args := [d1, d2, d3, d4, d5] }
  | _ => none }
def askBackRow : OpenClaim := { program := "ytlckgkpgllhpbaadoor", sum := "de548bfa3f3916baaeedba18133133f8caafc7f4dacf995a04b22d68438f2221", func := "beadle/beadlelaw06.AskBack", spec := "askBack", unfollowed := true, recurses := true, named := ["bytes.ErrTooLarge"], loops := true, apart := false, laid := [("bytes.ErrTooLarge", laid_bytes_ErrTooLarge)] }
def AskBackSaid : Prop := askBackRow.holds Tryd.pinned (OpenSpec.ofChange askBackSpec)

/-- ITS FALSE NEIGHBOUR: 'it returns false'. Refute it at one input. -/
def askBackWrong : ChangeSpec := { name := "askBack", fn := fun _ => fun
  | [d1, d2, d3, d4, d5] => { results := [.lit (.bool false)], args := [d1, d2, d3, d4, d5] }
  | _ => none }
def AskBackWrongFalsely : Prop := askBackRow.holds Tryd.pinned (OpenSpec.ofChange askBackWrong)

/-- 'beadlelaw06.AskOne': WHATEVER THE INPUT: true; the input reads as it did. -/
def askOneSpec : ChangeSpec := { name := "askOne", fn := fun _ => fun
  | [d] => { results := [.lit (.bool true)], args := [d] }
  | _ => none }
def askOneRow : OpenClaim := { program := "ytlckgkpgllhpbaadoor", sum := "de548bfa3f3916baaeedba18133133f8caafc7f4dacf995a04b22d68438f2221", func := "beadle/beadlelaw06.AskOne", spec := "askOne", unfollowed := true, recurses := true, named := ["bytes.ErrTooLarge"], apart := false, laid := [("bytes.ErrTooLarge", laid_bytes_ErrTooLarge)] }
def AskOneSaid : Prop := askOneRow.holds Tryd.pinned (OpenSpec.ofChange askOneSpec)

/-- ITS FALSE NEIGHBOUR: 'it returns false'. Refute it at one input. -/
def askOneWrong : ChangeSpec := { name := "askOne", fn := fun _ => fun
  | [d] => { results := [.lit (.bool false)], args := [d] }
  | _ => none }
def AskOneWrongFalsely : Prop := askOneRow.holds Tryd.pinned (OpenSpec.ofChange askOneWrong)

/- THE SECOND FORM. 'bulk': how many values and letters a reading holds, each counted each time it is reached (what is shared counts as often as it is met; a slice's spare places count too). A statement '..UptoSaid' is the law's where the arguments, and the package variables that the reading takes, are together of bulk at most 1048576: NARROWER than '..Said'. Prove '..Said' where nothing that the law and all that it calls make is longer than what came in: it says more and counts as full. Else prove '..UptoSaid'. A law counts once. -/
mutual
def uptoBulk {H : Type} : DataW H → Nat
  | .lit (.string bytes) => bytes.length + 1
  | .lit _ => 1
  | .nil => 1
  | .ptr d => uptoBulk d + 1
  | .slice elems spare => uptoBulkAll elems + uptoBulkAll spare + 1
  | .agg parts => uptoBulkAll parts + 1
  | .iface _ d => uptoBulk d + 1
  | .map entries => uptoBulkEntries entries + 1
  | .held _ => 1
def uptoBulkAll {H : Type} : List (DataW H) → Nat
  | [] => 0
  | d :: r => uptoBulk d + uptoBulkAll r
def uptoBulkEntries {H : Type} : List (Lit × DataW H) → Nat
  | [] => 0
  | x :: r => uptoBulkEntry x + uptoBulkEntries r
def uptoBulkEntry {H : Type} : Lit × DataW H → Nat
  | (.string bytes, d) => bytes.length + uptoBulk d + 1
  | (_, d) => uptoBulk d + 1
 end
def uptoSmall : (H : Type) → List (DataW H) → Bool := fun _ ds => decide (uptoBulkAll ds ≤ 1048576)
def OpenSpec.upto (s : _root_.Go.ChangeSpec) : _root_.Go.OpenSpec := { _root_.Go.OpenSpec.ofChange s with cond := some uptoSmall }

/-- 'beadlelaw06.AskCalls', WHERE WHAT IT READS IS OF BULK AT MOST 1048576: true; the input reads as it did. -/
def askCallsUptoRow : OpenClaim := { program := "ytlckgkpgllhpbaadoor", sum := "de548bfa3f3916baaeedba18133133f8caafc7f4dacf995a04b22d68438f2221", func := "beadle/beadlelaw06.AskCalls", spec := "askCalls", unfollowed := true, recurses := true, named := ["bytes.ErrTooLarge"], loops := true, apart := false, laid := [("bytes.ErrTooLarge", laid_bytes_ErrTooLarge)], narrowed := true }
def AskCallsUptoSaid : Prop := askCallsUptoRow.holds Tryd.pinned (OpenSpec.upto askCallsSpec)

/-- 'beadlelaw06.AskReplies', WHERE WHAT IT READS IS OF BULK AT MOST 1048576: true; the input reads as it did. -/
def askRepliesUptoRow : OpenClaim := { program := "ytlckgkpgllhpbaadoor", sum := "de548bfa3f3916baaeedba18133133f8caafc7f4dacf995a04b22d68438f2221", func := "beadle/beadlelaw06.AskReplies", spec := "askReplies", unfollowed := true, recurses := true, named := ["bytes.ErrTooLarge"], loops := true, apart := false, laid := [("bytes.ErrTooLarge", laid_bytes_ErrTooLarge)], narrowed := true }
def AskRepliesUptoSaid : Prop := askRepliesUptoRow.holds Tryd.pinned (OpenSpec.upto askRepliesSpec)

/-- 'beadlelaw06.AskBack', WHERE WHAT IT READS IS OF BULK AT MOST 1048576: true; the input reads as it did. -/
def askBackUptoRow : OpenClaim := { program := "ytlckgkpgllhpbaadoor", sum := "de548bfa3f3916baaeedba18133133f8caafc7f4dacf995a04b22d68438f2221", func := "beadle/beadlelaw06.AskBack", spec := "askBack", unfollowed := true, recurses := true, named := ["bytes.ErrTooLarge"], loops := true, apart := false, laid := [("bytes.ErrTooLarge", laid_bytes_ErrTooLarge)], narrowed := true }
def AskBackUptoSaid : Prop := askBackUptoRow.holds Tryd.pinned (OpenSpec.upto askBackSpec)

/-- 'beadlelaw06.AskOne', WHERE WHAT IT READS IS OF BULK AT MOST 1048576: true; the input reads as it did. -/
def askOneUptoRow : OpenClaim := { program := "ytlckgkpgllhpbaadoor", sum := "de548bfa3f3916baaeedba18133133f8caafc7f4dacf995a04b22d68438f2221", func := "beadle/beadlelaw06.AskOne", spec := "askOne", unfollowed := true, recurses := true, named := ["bytes.ErrTooLarge"], apart := false, laid := [("bytes.ErrTooLarge", laid_bytes_ErrTooLarge)], narrowed := true }
def AskOneUptoSaid : Prop := askOneUptoRow.holds Tryd.pinned (OpenSpec.upto askOneSpec)

end Rows
end Go.Proofs.YtlckgkpgllhpbaaDoor
