/-
  DERIVED. GIVEN WITH THE SEED: THE CARDS: each row of YtmlmbahimklfiaaGreatDoorRows.lean that lists a variable, with what it lists TIED to the program's text (the seventh form; the later family's looks); each row that meets fmt, with fmt's text TOLD by the authors' own Lean function (tested against real Go, not proved from fmt's source: count such statements apart). THE CARD IS WHAT COUNTS. Prove the row's statement (the work); the ties are given (YtmlmbahimklfiaaGreatDoorTie.lean); close each card by the builder's one call (the guide's Derived/Test/ToyasCard.lean, 'card_holds'). Laid BY PROGRAM, IN A SANDBOX (cutbox-door.mjs). By AI agents, Wed Nov 11 2026. No macro, syntax, notation, axiom, sorry.
-/
import Derived.Test.YtmlmbahimklfiaaGreatDoorRows
import GoSem.ClaimSeven
namespace Go.Proofs.YtmlmbahimklfiaaGreatDoor
namespace Rows

/-- THE TIED CARD OF 'beadlelaw14.SegmentPuts'. -/
def segmentPutsCard : Claim7 := { stood := { row := segmentPutsRow, standIns := [], harness := (true, "214491d510a09d7a83ede0be4c3b27a214b2de232b2afa2b1f8f29039a79356c"), looks := false }, kinds := [], alts := [], laidByText := true, laidKinds := [.data, .sentinel, .data, .pinned], laidTests := true, laidLooks := .later }
def SegmentPutsCardSaid : Prop := Claim7.holds Tryz.pinned (.plain (OpenSpec.ofChange segmentPutsSpec)) segmentPutsCard

/-- THE TIED CARD OF 'beadlelaw14.SegmentScans'. -/
def segmentScansCard : Claim7 := { stood := { row := segmentScansRow, standIns := [], harness := (true, "214491d510a09d7a83ede0be4c3b27a214b2de232b2afa2b1f8f29039a79356c"), looks := false }, kinds := [], alts := [], laidByText := true, laidKinds := [.data, .sentinel, .data, .pinned], laidTests := true, laidLooks := .later }
def SegmentScansCardSaid : Prop := Claim7.holds Tryz.pinned (.plain (OpenSpec.ofChange segmentScansSpec)) segmentScansCard

/-- THE TIED CARD OF 'beadlelaw14.SegmentKeeps'. -/
def segmentKeepsCard : Claim7 := { stood := { row := segmentKeepsRow, standIns := [], harness := (true, "214491d510a09d7a83ede0be4c3b27a214b2de232b2afa2b1f8f29039a79356c"), looks := false }, kinds := [], alts := [], laidByText := true, laidKinds := [.data, .sentinel, .data, .pinned], laidTests := true, laidLooks := .later }
def SegmentKeepsCardSaid : Prop := Claim7.holds Tryz.pinned (.plain (OpenSpec.ofChange segmentKeepsSpec)) segmentKeepsCard

/-- THE SECOND FORM's CARD OF 'beadlelaw14.SegmentPuts'. -/
def segmentPutsUptoCard : Claim7 := { stood := { row := segmentPutsUptoRow, standIns := [], harness := (true, "214491d510a09d7a83ede0be4c3b27a214b2de232b2afa2b1f8f29039a79356c"), looks := false }, kinds := [], alts := [], laidByText := true, laidKinds := [.data, .sentinel, .data, .pinned], laidTests := true, laidLooks := .later }
def SegmentPutsUptoCardSaid : Prop := Claim7.holds Tryz.pinned (.plain (OpenSpec.upto segmentPutsSpec)) segmentPutsUptoCard

/-- THE SECOND FORM's CARD OF 'beadlelaw14.SegmentScans'. -/
def segmentScansUptoCard : Claim7 := { stood := { row := segmentScansUptoRow, standIns := [], harness := (true, "214491d510a09d7a83ede0be4c3b27a214b2de232b2afa2b1f8f29039a79356c"), looks := false }, kinds := [], alts := [], laidByText := true, laidKinds := [.data, .sentinel, .data, .pinned], laidTests := true, laidLooks := .later }
def SegmentScansUptoCardSaid : Prop := Claim7.holds Tryz.pinned (.plain (OpenSpec.upto segmentScansSpec)) segmentScansUptoCard

/-- THE SECOND FORM's CARD OF 'beadlelaw14.SegmentKeeps'. -/
def segmentKeepsUptoCard : Claim7 := { stood := { row := segmentKeepsUptoRow, standIns := [], harness := (true, "214491d510a09d7a83ede0be4c3b27a214b2de232b2afa2b1f8f29039a79356c"), looks := false }, kinds := [], alts := [], laidByText := true, laidKinds := [.data, .sentinel, .data, .pinned], laidTests := true, laidLooks := .later }
def SegmentKeepsUptoCardSaid : Prop := Claim7.holds Tryz.pinned (.plain (OpenSpec.upto segmentKeepsSpec)) segmentKeepsUptoCard
end Rows
end Go.Proofs.YtmlmbahimklfiaaGreatDoor
