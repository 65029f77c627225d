/-
  DERIVED. GIVEN WITH THE SEED: THE CARDS: each row of YtmlmbahimklfiaaDoorRows.lean that lists a variable, with what it lists TIED to the program's text (the seventh form; the later family's looks); each row that meets fmt, with fmt's text TOLD by the authors' own Lean function (tested against real Go, not proved from fmt's source: count such statements apart). THE CARD IS WHAT COUNTS. Prove the row's statement (the work); the ties are given (YtmlmbahimklfiaaDoorTie.lean); close each card by the builder's one call (the guide's Derived/Test/ToyasCard.lean, 'card_holds'). Laid BY PROGRAM, IN A SANDBOX (cutbox-door.mjs). By AI agents, Wed Nov 11 2026. No macro, syntax, notation, axiom, sorry.
-/
import Derived.Test.YtmlmbahimklfiaaDoorRows
import GoSem.ClaimSeven
namespace Go.Proofs.YtmlmbahimklfiaaDoor
namespace Rows

/-- THE TIED CARD OF 'beadlelaw14.SegmentNumbers'. -/
def segmentNumbersCard : Claim7 := { stood := { row := segmentNumbersRow, standIns := [], harness := (true, "794d127eb96c50336c2afef49f689bc3c4ff85f883c2d6838baacc32608ebb29"), looks := false }, kinds := [], alts := [], laidByText := true, laidKinds := [.sentinel, .data], laidTests := true, laidLooks := .later }
def SegmentNumbersCardSaid : Prop := Claim7.holds Tryd.pinned (.plain (OpenSpec.ofChange segmentNumbersSpec)) segmentNumbersCard

/-- THE TIED CARD OF 'beadlelaw14.SegmentTorn'. -/
def segmentTornCard : Claim7 := { stood := { row := segmentTornRow, standIns := [], harness := (true, "794d127eb96c50336c2afef49f689bc3c4ff85f883c2d6838baacc32608ebb29"), looks := false }, kinds := [], alts := [], laidByText := true, laidKinds := [.sentinel, .data], laidTests := true, laidLooks := .later }
def SegmentTornCardSaid : Prop := Claim7.holds Tryd.pinned (.plain (OpenSpec.ofChange segmentTornSpec)) segmentTornCard

/-- THE TIED CARD OF 'beadlelaw14.SegmentAgain'. -/
def segmentAgainCard : Claim7 := { stood := { row := segmentAgainRow, standIns := [], harness := (true, "794d127eb96c50336c2afef49f689bc3c4ff85f883c2d6838baacc32608ebb29"), looks := false }, kinds := [], alts := [], laidByText := true, laidKinds := [.sentinel, .data], laidTests := true, laidLooks := .later }
def SegmentAgainCardSaid : Prop := Claim7.holds Tryd.pinned (.plain (OpenSpec.ofChange segmentAgainSpec)) segmentAgainCard

/-- THE SECOND FORM's CARD OF 'beadlelaw14.SegmentNumbers'. -/
def segmentNumbersUptoCard : Claim7 := { stood := { row := segmentNumbersUptoRow, standIns := [], harness := (true, "794d127eb96c50336c2afef49f689bc3c4ff85f883c2d6838baacc32608ebb29"), looks := false }, kinds := [], alts := [], laidByText := true, laidKinds := [.sentinel, .data], laidTests := true, laidLooks := .later }
def SegmentNumbersUptoCardSaid : Prop := Claim7.holds Tryd.pinned (.plain (OpenSpec.upto segmentNumbersSpec)) segmentNumbersUptoCard

/-- THE SECOND FORM's CARD OF 'beadlelaw14.SegmentTorn'. -/
def segmentTornUptoCard : Claim7 := { stood := { row := segmentTornUptoRow, standIns := [], harness := (true, "794d127eb96c50336c2afef49f689bc3c4ff85f883c2d6838baacc32608ebb29"), looks := false }, kinds := [], alts := [], laidByText := true, laidKinds := [.sentinel, .data], laidTests := true, laidLooks := .later }
def SegmentTornUptoCardSaid : Prop := Claim7.holds Tryd.pinned (.plain (OpenSpec.upto segmentTornSpec)) segmentTornUptoCard

/-- THE SECOND FORM's CARD OF 'beadlelaw14.SegmentAgain'. -/
def segmentAgainUptoCard : Claim7 := { stood := { row := segmentAgainUptoRow, standIns := [], harness := (true, "794d127eb96c50336c2afef49f689bc3c4ff85f883c2d6838baacc32608ebb29"), looks := false }, kinds := [], alts := [], laidByText := true, laidKinds := [.sentinel, .data], laidTests := true, laidLooks := .later }
def SegmentAgainUptoCardSaid : Prop := Claim7.holds Tryd.pinned (.plain (OpenSpec.upto segmentAgainSpec)) segmentAgainUptoCard
end Rows
end Go.Proofs.YtmlmbahimklfiaaDoor
