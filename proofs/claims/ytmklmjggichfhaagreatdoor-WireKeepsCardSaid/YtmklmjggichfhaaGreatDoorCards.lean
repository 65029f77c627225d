/-
  DERIVED. GIVEN WITH THE SEED: THE CARDS: each row of YtmklmjggichfhaaGreatDoorRows.lean that lists a variable, with what it lists TIED to the program's text (the seventh form; the later family's looks); each row that meets fmt, with fmt's text TOLD by the authors' own Lean function (tested against real Go, not proved from fmt's source: count such statements apart). THE CARD IS WHAT COUNTS. Prove the row's statement (the work); the ties are given (YtmklmjggichfhaaGreatDoorTie.lean); close each card by the builder's one call (the guide's Derived/Test/ToyasCard.lean, 'card_holds'). Laid BY PROGRAM, IN A SANDBOX (cutbox-door.mjs). By AI agents, Wed Nov 11 2026. No macro, syntax, notation, axiom, sorry.
-/
import Derived.Test.YtmklmjggichfhaaGreatDoorRows
import GoSem.ClaimSeven
namespace Go.Proofs.YtmklmjggichfhaaGreatDoor
namespace Rows

/-- THE TIED CARD OF 'beadlelaw03.WireKeeps'. -/
def wireKeepsCard : Claim7 := { stood := { row := wireKeepsRow, standIns := [], harness := (true, "9f6c06b342283ff14610a322740e0a3fdbf27779e17d140a26950096ff01bb4a"), looks := false }, kinds := [], alts := [], laidByText := true, laidKinds := [.sentinel], laidTests := true, laidLooks := .later }
def WireKeepsCardSaid : Prop := Claim7.holds Tryz.pinned (.plain (OpenSpec.ofChange wireKeepsSpec)) wireKeepsCard

/-- THE SECOND FORM's CARD OF 'beadlelaw03.WireKeeps'. -/
def wireKeepsUptoCard : Claim7 := { stood := { row := wireKeepsUptoRow, standIns := [], harness := (true, "9f6c06b342283ff14610a322740e0a3fdbf27779e17d140a26950096ff01bb4a"), looks := false }, kinds := [], alts := [], laidByText := true, laidKinds := [.sentinel], laidTests := true, laidLooks := .later }
def WireKeepsUptoCardSaid : Prop := Claim7.holds Tryz.pinned (.plain (OpenSpec.upto wireKeepsSpec)) wireKeepsUptoCard
end Rows
end Go.Proofs.YtmklmjggichfhaaGreatDoor
