/-
  DERIVED. GIVEN WITH THE SEED: THE CARDS: each row of YtbgpgaekckfjlaaDoorRows.lean that lists a variable, with what it lists TIED to the program's text (the seventh form; the later family's looks); each row that meets fmt, with fmt's text TOLD by the authors' own Lean function (tested against real Go, not proved from fmt's source: count such statements apart). THE CARD IS WHAT COUNTS. Prove the row's statement (the work); the ties are given (YtbgpgaekckfjlaaDoorTie.lean); close each card by the builder's one call (the guide's Derived/Test/ToyasCard.lean, 'card_holds'). Laid BY PROGRAM, IN A SANDBOX (cutbox-door.mjs). By AI agents, Wed Nov 11 2026. No macro, syntax, notation, axiom, sorry.
-/
import Derived.Test.YtbgpgaekckfjlaaDoorRows
import GoSem.ClaimSeven
namespace Go.Proofs.YtbgpgaekckfjlaaDoor
namespace Rows

/-- THE TIED CARD OF 'beadlelaw04.EnsembleChecks'. -/
def ensembleChecksCard : Claim7 := { stood := { row := ensembleChecksRow, standIns := [], harness := (true, "d97cdc881f18054d8349facd748ba3bc3ddb6d072f2859241120a8d7db492436"), looks := false }, kinds := [], alts := [], laidByText := true, laidKinds := [.sentinel], laidTests := true, laidLooks := .later }
def EnsembleChecksCardSaid : Prop := Claim7.holds Tryd.pinned (.plain (OpenSpec.ofChange ensembleChecksSpec)) ensembleChecksCard

/-- THE TIED CARD OF 'beadlelaw04.EnsembleBytes'. -/
def ensembleBytesCard : Claim7 := { stood := { row := ensembleBytesRow, standIns := [], harness := (true, "d97cdc881f18054d8349facd748ba3bc3ddb6d072f2859241120a8d7db492436"), looks := false }, kinds := [], alts := [], laidByText := true, laidKinds := [.sentinel], laidTests := true, laidLooks := .later }
def EnsembleBytesCardSaid : Prop := Claim7.holds Tryd.pinned (.plain (OpenSpec.ofChange ensembleBytesSpec)) ensembleBytesCard

/-- THE TIED CARD OF 'beadlelaw04.EnsembleMeets'. -/
def ensembleMeetsCard : Claim7 := { stood := { row := ensembleMeetsRow, standIns := [], harness := (true, "d97cdc881f18054d8349facd748ba3bc3ddb6d072f2859241120a8d7db492436"), looks := false }, kinds := [], alts := [], laidByText := true, laidKinds := [.sentinel], laidTests := true, laidLooks := .later }
def EnsembleMeetsCardSaid : Prop := Claim7.holds Tryd.pinned (.plain (OpenSpec.ofChange ensembleMeetsSpec)) ensembleMeetsCard

/-- THE TIED CARD OF 'beadlelaw04.EnsembleGrows'. -/
def ensembleGrowsCard : Claim7 := { stood := { row := ensembleGrowsRow, standIns := [], harness := (true, "d97cdc881f18054d8349facd748ba3bc3ddb6d072f2859241120a8d7db492436"), looks := false }, kinds := [], alts := [], laidByText := true, laidKinds := [.sentinel], laidTests := true, laidLooks := .later }
def EnsembleGrowsCardSaid : Prop := Claim7.holds Tryd.pinned (.plain (OpenSpec.ofChange ensembleGrowsSpec)) ensembleGrowsCard

/-- THE TIED CARD OF 'beadlelaw04.EnsembleBack'. -/
def ensembleBackCard : Claim7 := { stood := { row := ensembleBackRow, standIns := [], harness := (true, "d97cdc881f18054d8349facd748ba3bc3ddb6d072f2859241120a8d7db492436"), looks := false }, kinds := [], alts := [], laidByText := true, laidKinds := [.sentinel], laidTests := true, laidLooks := .later }
def EnsembleBackCardSaid : Prop := Claim7.holds Tryd.pinned (.plain (OpenSpec.ofChange ensembleBackSpec)) ensembleBackCard

/-- THE TIED CARD OF 'beadlelaw04.EnsembleQuorums'. -/
def ensembleQuorumsCard : Claim7 := { stood := { row := ensembleQuorumsRow, standIns := [], harness := (true, "d97cdc881f18054d8349facd748ba3bc3ddb6d072f2859241120a8d7db492436"), looks := false }, kinds := [], alts := [], laidByText := true, laidKinds := [.sentinel], laidTests := true, laidLooks := .later }
def EnsembleQuorumsCardSaid : Prop := Claim7.holds Tryd.pinned (.plain (OpenSpec.ofChange ensembleQuorumsSpec)) ensembleQuorumsCard

/-- THE SECOND FORM's CARD OF 'beadlelaw04.EnsembleChecks'. -/
def ensembleChecksUptoCard : Claim7 := { stood := { row := ensembleChecksUptoRow, standIns := [], harness := (true, "d97cdc881f18054d8349facd748ba3bc3ddb6d072f2859241120a8d7db492436"), looks := false }, kinds := [], alts := [], laidByText := true, laidKinds := [.sentinel], laidTests := true, laidLooks := .later }
def EnsembleChecksUptoCardSaid : Prop := Claim7.holds Tryd.pinned (.plain (OpenSpec.upto ensembleChecksSpec)) ensembleChecksUptoCard

/-- THE SECOND FORM's CARD OF 'beadlelaw04.EnsembleBytes'. -/
def ensembleBytesUptoCard : Claim7 := { stood := { row := ensembleBytesUptoRow, standIns := [], harness := (true, "d97cdc881f18054d8349facd748ba3bc3ddb6d072f2859241120a8d7db492436"), looks := false }, kinds := [], alts := [], laidByText := true, laidKinds := [.sentinel], laidTests := true, laidLooks := .later }
def EnsembleBytesUptoCardSaid : Prop := Claim7.holds Tryd.pinned (.plain (OpenSpec.upto ensembleBytesSpec)) ensembleBytesUptoCard

/-- THE SECOND FORM's CARD OF 'beadlelaw04.EnsembleMeets'. -/
def ensembleMeetsUptoCard : Claim7 := { stood := { row := ensembleMeetsUptoRow, standIns := [], harness := (true, "d97cdc881f18054d8349facd748ba3bc3ddb6d072f2859241120a8d7db492436"), looks := false }, kinds := [], alts := [], laidByText := true, laidKinds := [.sentinel], laidTests := true, laidLooks := .later }
def EnsembleMeetsUptoCardSaid : Prop := Claim7.holds Tryd.pinned (.plain (OpenSpec.upto ensembleMeetsSpec)) ensembleMeetsUptoCard

/-- THE SECOND FORM's CARD OF 'beadlelaw04.EnsembleGrows'. -/
def ensembleGrowsUptoCard : Claim7 := { stood := { row := ensembleGrowsUptoRow, standIns := [], harness := (true, "d97cdc881f18054d8349facd748ba3bc3ddb6d072f2859241120a8d7db492436"), looks := false }, kinds := [], alts := [], laidByText := true, laidKinds := [.sentinel], laidTests := true, laidLooks := .later }
def EnsembleGrowsUptoCardSaid : Prop := Claim7.holds Tryd.pinned (.plain (OpenSpec.upto ensembleGrowsSpec)) ensembleGrowsUptoCard

/-- THE SECOND FORM's CARD OF 'beadlelaw04.EnsembleBack'. -/
def ensembleBackUptoCard : Claim7 := { stood := { row := ensembleBackUptoRow, standIns := [], harness := (true, "d97cdc881f18054d8349facd748ba3bc3ddb6d072f2859241120a8d7db492436"), looks := false }, kinds := [], alts := [], laidByText := true, laidKinds := [.sentinel], laidTests := true, laidLooks := .later }
def EnsembleBackUptoCardSaid : Prop := Claim7.holds Tryd.pinned (.plain (OpenSpec.upto ensembleBackSpec)) ensembleBackUptoCard

/-- THE SECOND FORM's CARD OF 'beadlelaw04.EnsembleQuorums'. -/
def ensembleQuorumsUptoCard : Claim7 := { stood := { row := ensembleQuorumsUptoRow, standIns := [], harness := (true, "d97cdc881f18054d8349facd748ba3bc3ddb6d072f2859241120a8d7db492436"), looks := false }, kinds := [], alts := [], laidByText := true, laidKinds := [.sentinel], laidTests := true, laidLooks := .later }
def EnsembleQuorumsUptoCardSaid : Prop := Claim7.holds Tryd.pinned (.plain (OpenSpec.upto ensembleQuorumsSpec)) ensembleQuorumsUptoCard
end Rows
end Go.Proofs.YtbgpgaekckfjlaaDoor
