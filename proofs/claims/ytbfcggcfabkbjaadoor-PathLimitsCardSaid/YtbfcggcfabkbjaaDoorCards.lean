/-
  DERIVED. GIVEN WITH THE SEED: THE CARDS: each row of YtbfcggcfabkbjaaDoorRows.lean that lists a variable, with what it lists TIED to the program's text (the seventh form; the later family's looks); each row that meets fmt, with fmt's text TOLD by the authors' own Lean function (tested against real Go, not proved from fmt's source: count such statements apart). THE CARD IS WHAT COUNTS. Prove the row's statement (the work); the ties are given (YtbfcggcfabkbjaaDoorTie.lean); close each card by the builder's one call (the guide's Derived/Test/ToyasCard.lean, 'card_holds'). Laid BY PROGRAM, IN A SANDBOX (cutbox-door.mjs). By AI agents, Wed Nov 11 2026. No macro, syntax, notation, axiom, sorry.
-/
import Derived.Test.YtbfcggcfabkbjaaDoorRows
import GoSem.ClaimSeven
namespace Go.Proofs.YtbfcggcfabkbjaaDoor
namespace Rows

/-- THE TIED CARD OF 'beadlelaw02.PathNumbers'. -/
def pathNumbersCard : Claim7 := { stood := { row := pathNumbersRow, standIns := [], harness := (true, "8ba9fe268fe6a3e72e432c8aff037ba6941a808e05e23cb4683e635cd30703a6"), looks := false }, kinds := [], alts := [], laidByText := true, laidKinds := [.data, .pinned], laidTests := true, laidLooks := .later }
def PathNumbersCardSaid : Prop := Claim7.holds Tryd.pinned (.plain (OpenSpec.ofChange pathNumbersSpec)) pathNumbersCard

/-- THE TIED CARD OF 'beadlelaw02.PathTells'. -/
def pathTellsCard : Claim7 := { stood := { row := pathTellsRow, standIns := [], harness := (true, "8ba9fe268fe6a3e72e432c8aff037ba6941a808e05e23cb4683e635cd30703a6"), looks := false }, kinds := [], alts := [], laidByText := true, laidKinds := [.data, .pinned], laidTests := true, laidLooks := .later }
def PathTellsCardSaid : Prop := Claim7.holds Tryd.pinned (.plain (OpenSpec.ofChange pathTellsSpec)) pathTellsCard

/-- THE TIED CARD OF 'beadlelaw02.PathLimits'. -/
def pathLimitsCard : Claim7 := { stood := { row := pathLimitsRow, standIns := [], harness := (true, "8ba9fe268fe6a3e72e432c8aff037ba6941a808e05e23cb4683e635cd30703a6"), looks := false }, kinds := [], alts := [], laidByText := true, laidKinds := [.data, .pinned], laidTests := true, laidLooks := .later }
def PathLimitsCardSaid : Prop := Claim7.holds Tryd.pinned (.plain (OpenSpec.ofChange pathLimitsSpec)) pathLimitsCard

/-- THE SECOND FORM's CARD OF 'beadlelaw02.PathNumbers'. -/
def pathNumbersUptoCard : Claim7 := { stood := { row := pathNumbersUptoRow, standIns := [], harness := (true, "8ba9fe268fe6a3e72e432c8aff037ba6941a808e05e23cb4683e635cd30703a6"), looks := false }, kinds := [], alts := [], laidByText := true, laidKinds := [.data, .pinned], laidTests := true, laidLooks := .later }
def PathNumbersUptoCardSaid : Prop := Claim7.holds Tryd.pinned (.plain (OpenSpec.upto pathNumbersSpec)) pathNumbersUptoCard

/-- THE SECOND FORM's CARD OF 'beadlelaw02.PathTells'. -/
def pathTellsUptoCard : Claim7 := { stood := { row := pathTellsUptoRow, standIns := [], harness := (true, "8ba9fe268fe6a3e72e432c8aff037ba6941a808e05e23cb4683e635cd30703a6"), looks := false }, kinds := [], alts := [], laidByText := true, laidKinds := [.data, .pinned], laidTests := true, laidLooks := .later }
def PathTellsUptoCardSaid : Prop := Claim7.holds Tryd.pinned (.plain (OpenSpec.upto pathTellsSpec)) pathTellsUptoCard

/-- THE SECOND FORM's CARD OF 'beadlelaw02.PathLimits'. -/
def pathLimitsUptoCard : Claim7 := { stood := { row := pathLimitsUptoRow, standIns := [], harness := (true, "8ba9fe268fe6a3e72e432c8aff037ba6941a808e05e23cb4683e635cd30703a6"), looks := false }, kinds := [], alts := [], laidByText := true, laidKinds := [.data, .pinned], laidTests := true, laidLooks := .later }
def PathLimitsUptoCardSaid : Prop := Claim7.holds Tryd.pinned (.plain (OpenSpec.upto pathLimitsSpec)) pathLimitsUptoCard
end Rows
end Go.Proofs.YtbfcggcfabkbjaaDoor
