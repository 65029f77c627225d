/-
  DERIVED. GIVEN WITH THE SEED: THE CARDS: each row of YtlckgkpgllhpbaaDoorRows.lean that lists a variable, with what it lists TIED to the program's text (the seventh form; the later family's looks); each row that meets fmt, with fmt's text TOLD by the authors' own Lean function (tested against real Go, not proved from fmt's source: count such statements apart). THE CARD IS WHAT COUNTS. Prove the row's statement (the work); the ties are given (YtlckgkpgllhpbaaDoorTie.lean); close each card by the builder's one call (the guide's Derived/Test/ToyasCard.lean, 'card_holds'). Laid BY PROGRAM, IN A SANDBOX (cutbox-door.mjs). By AI agents, Wed Nov 11 2026. No macro, syntax, notation, axiom, sorry.
-/
import Derived.Test.YtlckgkpgllhpbaaDoorRows
import GoSem.ClaimSeven
namespace Go.Proofs.YtlckgkpgllhpbaaDoor
namespace Rows

/-- THE TIED CARD OF 'beadlelaw06.AskCalls'. -/
def askCallsCard : Claim7 := { stood := { row := askCallsRow, standIns := [], harness := (true, "017f6732afa192a182fff90775e1c047e9b18bf664b63696a79f67dcbc635d8b"), looks := false }, kinds := [], alts := [], laidByText := true, laidKinds := [.sentinel], laidTests := true, laidLooks := .later }
def AskCallsCardSaid : Prop := Claim7.holds Tryd.pinned (.plain (OpenSpec.ofChange askCallsSpec)) askCallsCard

/-- THE TIED CARD OF 'beadlelaw06.AskReplies'. -/
def askRepliesCard : Claim7 := { stood := { row := askRepliesRow, standIns := [], harness := (true, "017f6732afa192a182fff90775e1c047e9b18bf664b63696a79f67dcbc635d8b"), looks := false }, kinds := [], alts := [], laidByText := true, laidKinds := [.sentinel], laidTests := true, laidLooks := .later }
def AskRepliesCardSaid : Prop := Claim7.holds Tryd.pinned (.plain (OpenSpec.ofChange askRepliesSpec)) askRepliesCard

/-- THE TIED CARD OF 'beadlelaw06.AskBack'. -/
def askBackCard : Claim7 := { stood := { row := askBackRow, standIns := [], harness := (true, "017f6732afa192a182fff90775e1c047e9b18bf664b63696a79f67dcbc635d8b"), looks := false }, kinds := [], alts := [], laidByText := true, laidKinds := [.sentinel], laidTests := true, laidLooks := .later }
def AskBackCardSaid : Prop := Claim7.holds Tryd.pinned (.plain (OpenSpec.ofChange askBackSpec)) askBackCard

/-- THE TIED CARD OF 'beadlelaw06.AskOne'. -/
def askOneCard : Claim7 := { stood := { row := askOneRow, standIns := [], harness := (true, "017f6732afa192a182fff90775e1c047e9b18bf664b63696a79f67dcbc635d8b"), looks := false }, kinds := [], alts := [], laidByText := true, laidKinds := [.sentinel], laidTests := true, laidLooks := .later }
def AskOneCardSaid : Prop := Claim7.holds Tryd.pinned (.plain (OpenSpec.ofChange askOneSpec)) askOneCard

/-- THE SECOND FORM's CARD OF 'beadlelaw06.AskCalls'. -/
def askCallsUptoCard : Claim7 := { stood := { row := askCallsUptoRow, standIns := [], harness := (true, "017f6732afa192a182fff90775e1c047e9b18bf664b63696a79f67dcbc635d8b"), looks := false }, kinds := [], alts := [], laidByText := true, laidKinds := [.sentinel], laidTests := true, laidLooks := .later }
def AskCallsUptoCardSaid : Prop := Claim7.holds Tryd.pinned (.plain (OpenSpec.upto askCallsSpec)) askCallsUptoCard

/-- THE SECOND FORM's CARD OF 'beadlelaw06.AskReplies'. -/
def askRepliesUptoCard : Claim7 := { stood := { row := askRepliesUptoRow, standIns := [], harness := (true, "017f6732afa192a182fff90775e1c047e9b18bf664b63696a79f67dcbc635d8b"), looks := false }, kinds := [], alts := [], laidByText := true, laidKinds := [.sentinel], laidTests := true, laidLooks := .later }
def AskRepliesUptoCardSaid : Prop := Claim7.holds Tryd.pinned (.plain (OpenSpec.upto askRepliesSpec)) askRepliesUptoCard

/-- THE SECOND FORM's CARD OF 'beadlelaw06.AskBack'. -/
def askBackUptoCard : Claim7 := { stood := { row := askBackUptoRow, standIns := [], harness := (true, "017f6732afa192a182fff90775e1c047e9b18bf664b63696a79f67dcbc635d8b"), looks := false }, kinds := [], alts := [], laidByText := true, laidKinds := [.sentinel], laidTests := true, laidLooks := .later }
def AskBackUptoCardSaid : Prop := Claim7.holds Tryd.pinned (.plain (OpenSpec.upto askBackSpec)) askBackUptoCard

/-- THE SECOND FORM's CARD OF 'beadlelaw06.AskOne'. -/
def askOneUptoCard : Claim7 := { stood := { row := askOneUptoRow, standIns := [], harness := (true, "017f6732afa192a182fff90775e1c047e9b18bf664b63696a79f67dcbc635d8b"), looks := false }, kinds := [], alts := [], laidByText := true, laidKinds := [.sentinel], laidTests := true, laidLooks := .later }
def AskOneUptoCardSaid : Prop := Claim7.holds Tryd.pinned (.plain (OpenSpec.upto askOneSpec)) askOneUptoCard
end Rows
end Go.Proofs.YtlckgkpgllhpbaaDoor
