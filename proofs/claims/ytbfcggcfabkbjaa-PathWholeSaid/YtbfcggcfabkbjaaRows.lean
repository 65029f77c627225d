/-
  No cell of these rows narrows 'for every input' (looked for: loops, veiled, ifaces, maps, wideKeys, modest, calm, conditions, laid).
  DERIVED. THE GIVEN ROWS OF THIS SEAT. 3 by the template 'for every input the law returns true; each argument reads behind the call as it read before'; 0 by the template 'total and deterministic' (their statements: YtbfcggcfabkbjaaTotals.lean).
  GIVEN WITH THE SEED: the statements are not yours to turn. If you find one false, say at which input.
  Laid BY PROGRAM, IN A SANDBOX (cutbox-rows.mjs): the forced cells as the released guide's own fill.sh prints them over the translation a656f7f32ff3bc2a… (all of the seat's roots in one cut). By AI agents, Wed Nov 11 2026. No macro, syntax, notation, axiom, sorry.
-/
import Derived.Test.YtbfcggcfabkbjaaChecked
import GoSem.Claim
import GoSem.ClaimJoined
import GoSem.ClaimMapViews
import Derived.JoinedTies
import Derived.KernelRfl
namespace Go.Proofs.Ytbfcggcfabkbjaa
/- THE CELL 'sum', in the pinned program and in every row, IS THE sha256 OF THE DUMP (.gsa) THAT YtbfcggcfabkbjaaProg.lean LOADS. Nothing in Lean hashes anything: it is a label: what it is worth is what the hold of that sum in a sandbox is worth. -/
noncomputable def Try.pinned : Pinned := { name := "ytbfcggcfabkbjaa", sum := "a656f7f32ff3bc2a0d6d187ff058e5181da59142e24f3bd8545b37439282558b", checked := Try.checked }
namespace Rows
def none {H : Type} : Left H := { results := [], args := [] }

/-- 'beadlelaw02.PathOver': WHATEVER THE INPUT: true; the input reads as it did. -/
def pathOverSpec : ChangeSpec := { name := "pathOver", fn := fun _ => fun
  | [d1, d2, d3, d4] => { results := [.lit (.bool true)], args := [d1, d2, d3, d4] }
  | _ => none }
def pathOverRow : OpenClaim := { program := "ytbfcggcfabkbjaa", sum := "a656f7f32ff3bc2a0d6d187ff058e5181da59142e24f3bd8545b37439282558b", func := "beadle/beadlelaw02.PathOver", spec := "pathOver", inPlace := ["internal/bytealg.IndexByteString", "internal/bytealg.IndexString"], unfollowed := true, recurses := true, named := ["internal/bytealg.MaxLen"], apart := false }
def PathOverSaid : Prop := pathOverRow.holds Try.pinned (OpenSpec.ofChange pathOverSpec)

/-- ITS FALSE NEIGHBOUR: 'it returns false'. Refute it at one input. -/
def pathOverWrong : ChangeSpec := { name := "pathOver", fn := fun _ => fun
  | [d1, d2, d3, d4] => { results := [.lit (.bool false)], args := [d1, d2, d3, d4] }
  | _ => none }
def PathOverWrongFalsely : Prop := pathOverRow.holds Try.pinned (OpenSpec.ofChange pathOverWrong)

/-- 'beadlelaw02.PathRises': WHATEVER THE INPUT: true; the input reads as it did. -/
def pathRisesSpec : ChangeSpec := { name := "pathRises", fn := fun _ => fun
  | [d1, d2, d3] => { results := [.lit (.bool true)], args := [d1, d2, d3] }
  | _ => none }
def pathRisesRow : OpenClaim := { program := "ytbfcggcfabkbjaa", sum := "a656f7f32ff3bc2a0d6d187ff058e5181da59142e24f3bd8545b37439282558b", func := "beadle/beadlelaw02.PathRises", spec := "pathRises", inPlace := ["internal/bytealg.IndexByteString", "internal/bytealg.IndexString"], unfollowed := true, recurses := true, named := ["internal/bytealg.MaxLen"], apart := false }
def PathRisesSaid : Prop := pathRisesRow.holds Try.pinned (OpenSpec.ofChange pathRisesSpec)

/-- ITS FALSE NEIGHBOUR: 'it returns false'. Refute it at one input. -/
def pathRisesWrong : ChangeSpec := { name := "pathRises", fn := fun _ => fun
  | [d1, d2, d3] => { results := [.lit (.bool false)], args := [d1, d2, d3] }
  | _ => none }
def PathRisesWrongFalsely : Prop := pathRisesRow.holds Try.pinned (OpenSpec.ofChange pathRisesWrong)

/-- 'beadlelaw02.PathWhole': WHATEVER THE INPUT: true; the input reads as it did. -/
def pathWholeSpec : ChangeSpec := { name := "pathWhole", fn := fun _ => fun
  | [d] => { results := [.lit (.bool true)], args := [d] }
  | _ => none }
def pathWholeRow : OpenClaim := { program := "ytbfcggcfabkbjaa", sum := "a656f7f32ff3bc2a0d6d187ff058e5181da59142e24f3bd8545b37439282558b", func := "beadle/beadlelaw02.PathWhole", spec := "pathWhole", inPlace := ["internal/bytealg.IndexByteString", "internal/bytealg.IndexString", "internal/bytealg.CountString"], unfollowed := true, recurses := true, named := ["internal/bytealg.MaxLen"], apart := false }
def PathWholeSaid : Prop := pathWholeRow.holds Try.pinned (OpenSpec.ofChange pathWholeSpec)

/-- ITS FALSE NEIGHBOUR: 'it returns false'. Refute it at one input. -/
def pathWholeWrong : ChangeSpec := { name := "pathWhole", fn := fun _ => fun
  | [d] => { results := [.lit (.bool false)], args := [d] }
  | _ => none }
def PathWholeWrongFalsely : Prop := pathWholeRow.holds Try.pinned (OpenSpec.ofChange pathWholeWrong)

/- THE SECOND FORM. 'bulk': how many values and letters a reading holds, each counted each time it is reached (what is shared counts as often as it is met; a slice's spare places count too). A statement '..UptoSaid' is the law's where the arguments, and the package variables that the reading takes, are together of bulk at most 1048576: NARROWER than '..Said'. Prove '..Said' where nothing that the law and all that it calls make is longer than what came in: it says more and counts as full. Else prove '..UptoSaid'. A law counts once. -/
mutual
def uptoBulk {H : Type} : DataW H → Nat
  | .lit (.string bytes) => bytes.length + 1
  | .lit _ => 1
  | .nil => 1
  | .ptr d => uptoBulk d + 1
  | .slice elems spare => uptoBulkAll elems + uptoBulkAll spare + 1
  | .agg parts => uptoBulkAll parts + 1
  | .iface _ d => uptoBulk d + 1
  | .map entries => uptoBulkEntries entries + 1
  | .held _ => 1
def uptoBulkAll {H : Type} : List (DataW H) → Nat
  | [] => 0
  | d :: r => uptoBulk d + uptoBulkAll r
def uptoBulkEntries {H : Type} : List (Lit × DataW H) → Nat
  | [] => 0
  | x :: r => uptoBulkEntry x + uptoBulkEntries r
def uptoBulkEntry {H : Type} : Lit × DataW H → Nat
  | (.string bytes, d) => bytes.length + uptoBulk d + 1
  | (_, d) => uptoBulk d + 1
 end
def uptoSmall : (H : Type) → List (DataW H) → Bool := fun _ ds => decide (uptoBulkAll ds ≤ 1048576)
def OpenSpec.upto (s : _root_.Go.ChangeSpec) : _root_.Go.OpenSpec := { _root_.Go.OpenSpec.ofChange s with cond := some uptoSmall }

/-- 'beadlelaw02.PathOver', WHERE WHAT IT READS IS OF BULK AT MOST 1048576: true; the input reads as it did. -/
def pathOverUptoRow : OpenClaim := { program := "ytbfcggcfabkbjaa", sum := "a656f7f32ff3bc2a0d6d187ff058e5181da59142e24f3bd8545b37439282558b", func := "beadle/beadlelaw02.PathOver", spec := "pathOver", inPlace := ["internal/bytealg.IndexByteString", "internal/bytealg.IndexString"], unfollowed := true, recurses := true, named := ["internal/bytealg.MaxLen"], apart := false, narrowed := true }
def PathOverUptoSaid : Prop := pathOverUptoRow.holds Try.pinned (OpenSpec.upto pathOverSpec)

/-- 'beadlelaw02.PathRises', WHERE WHAT IT READS IS OF BULK AT MOST 1048576: true; the input reads as it did. -/
def pathRisesUptoRow : OpenClaim := { program := "ytbfcggcfabkbjaa", sum := "a656f7f32ff3bc2a0d6d187ff058e5181da59142e24f3bd8545b37439282558b", func := "beadle/beadlelaw02.PathRises", spec := "pathRises", inPlace := ["internal/bytealg.IndexByteString", "internal/bytealg.IndexString"], unfollowed := true, recurses := true, named := ["internal/bytealg.MaxLen"], apart := false, narrowed := true }
def PathRisesUptoSaid : Prop := pathRisesUptoRow.holds Try.pinned (OpenSpec.upto pathRisesSpec)

/-- 'beadlelaw02.PathWhole', WHERE WHAT IT READS IS OF BULK AT MOST 1048576: true; the input reads as it did. -/
def pathWholeUptoRow : OpenClaim := { program := "ytbfcggcfabkbjaa", sum := "a656f7f32ff3bc2a0d6d187ff058e5181da59142e24f3bd8545b37439282558b", func := "beadle/beadlelaw02.PathWhole", spec := "pathWhole", inPlace := ["internal/bytealg.IndexByteString", "internal/bytealg.IndexString", "internal/bytealg.CountString"], unfollowed := true, recurses := true, named := ["internal/bytealg.MaxLen"], apart := false, narrowed := true }
def PathWholeUptoSaid : Prop := pathWholeUptoRow.holds Try.pinned (OpenSpec.upto pathWholeSpec)

end Rows
end Go.Proofs.Ytbfcggcfabkbjaa
