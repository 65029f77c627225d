/-
  DERIVED. GIVEN WITH THE SEED: THE CARDS: each row of YtljioepkbbbibaaDoorRows.lean that lists a variable, with what it lists TIED to the program's text (the seventh form; the later family's looks); each row that meets fmt, with fmt's text TOLD by the authors' own Lean function (tested against real Go, not proved from fmt's source: count such statements apart). THE CARD IS WHAT COUNTS. Prove the row's statement (the work); the ties are given (YtljioepkbbbibaaDoorTie.lean); close each card by the builder's one call (the guide's Derived/Test/ToyasCard.lean, 'card_holds'). Laid BY PROGRAM, IN A SANDBOX (cutbox-door.mjs). By AI agents, Wed Nov 11 2026. No macro, syntax, notation, axiom, sorry.
-/
import Derived.Test.YtljioepkbbbibaaDoorRows
import GoSem.ClaimSeven
namespace Go.Proofs.YtljioepkbbbibaaDoor
namespace Rows

/-- THE TIED CARD OF 'beadlelaw05.DeedBack'. -/
def deedBackCard : Claim7 := { stood := { row := deedBackRow, standIns := [], harness := (true, "e3d53d644cba6e78cfc6f11eca87f5e5f5c2745a329dd2c05dcebbb230dec1ef"), looks := false }, kinds := [], alts := [], laidByText := true, laidKinds := [.sentinel, .data], laidTests := true, laidLooks := .later }
def DeedBackCardSaid : Prop := Claim7.holds Tryd.pinned (.plain (OpenSpec.ofChange deedBackSpec)) deedBackCard

/-- THE TIED CARD OF 'beadlelaw05.DeedZxids'. -/
def deedZxidsCard : Claim7 := { stood := { row := deedZxidsRow, standIns := [], harness := (true, "e3d53d644cba6e78cfc6f11eca87f5e5f5c2745a329dd2c05dcebbb230dec1ef"), looks := false }, kinds := [], alts := [], laidByText := true, laidKinds := [.sentinel, .data], laidTests := true, laidLooks := .later }
def DeedZxidsCardSaid : Prop := Claim7.holds Tryd.pinned (.plain (OpenSpec.ofChange deedZxidsSpec)) deedZxidsCard

/-- THE TIED CARD OF 'beadlelaw05.DeedOrder'. -/
def deedOrderCard : Claim7 := { stood := { row := deedOrderRow, standIns := [], harness := (true, "e3d53d644cba6e78cfc6f11eca87f5e5f5c2745a329dd2c05dcebbb230dec1ef"), looks := false }, kinds := [], alts := [], laidByText := true, laidKinds := [.sentinel, .data], laidTests := true, laidLooks := .later }
def DeedOrderCardSaid : Prop := Claim7.holds Tryd.pinned (.plain (OpenSpec.ofChange deedOrderSpec)) deedOrderCard

/-- THE TIED CARD OF 'beadlelaw05.DeedRight'. -/
def deedRightCard : Claim7 := { stood := { row := deedRightRow, standIns := [], harness := (true, "e3d53d644cba6e78cfc6f11eca87f5e5f5c2745a329dd2c05dcebbb230dec1ef"), looks := false }, kinds := [], alts := [], laidByText := true, laidKinds := [.data, .sentinel, .data, .pinned], laidTests := true, laidLooks := .later }
def DeedRightCardSaid : Prop := Claim7.holds Tryd.pinned (.plain (OpenSpec.ofChange deedRightSpec)) deedRightCard

/-- THE TIED CARD OF 'beadlelaw05.DeedGets'. -/
def deedGetsCard : Claim7 := { stood := { row := deedGetsRow, standIns := [], harness := (true, "e3d53d644cba6e78cfc6f11eca87f5e5f5c2745a329dd2c05dcebbb230dec1ef"), looks := false }, kinds := [], alts := [], laidByText := true, laidKinds := [.data, .sentinel, .data, .pinned], laidTests := true, laidLooks := .later }
def DeedGetsCardSaid : Prop := Claim7.holds Tryd.pinned (.plain (OpenSpec.ofChange deedGetsSpec)) deedGetsCard

/-- THE SECOND FORM's CARD OF 'beadlelaw05.DeedBack'. -/
def deedBackUptoCard : Claim7 := { stood := { row := deedBackUptoRow, standIns := [], harness := (true, "e3d53d644cba6e78cfc6f11eca87f5e5f5c2745a329dd2c05dcebbb230dec1ef"), looks := false }, kinds := [], alts := [], laidByText := true, laidKinds := [.sentinel, .data], laidTests := true, laidLooks := .later }
def DeedBackUptoCardSaid : Prop := Claim7.holds Tryd.pinned (.plain (OpenSpec.upto deedBackSpec)) deedBackUptoCard

/-- THE SECOND FORM's CARD OF 'beadlelaw05.DeedZxids'. -/
def deedZxidsUptoCard : Claim7 := { stood := { row := deedZxidsUptoRow, standIns := [], harness := (true, "e3d53d644cba6e78cfc6f11eca87f5e5f5c2745a329dd2c05dcebbb230dec1ef"), looks := false }, kinds := [], alts := [], laidByText := true, laidKinds := [.sentinel, .data], laidTests := true, laidLooks := .later }
def DeedZxidsUptoCardSaid : Prop := Claim7.holds Tryd.pinned (.plain (OpenSpec.upto deedZxidsSpec)) deedZxidsUptoCard

/-- THE SECOND FORM's CARD OF 'beadlelaw05.DeedOrder'. -/
def deedOrderUptoCard : Claim7 := { stood := { row := deedOrderUptoRow, standIns := [], harness := (true, "e3d53d644cba6e78cfc6f11eca87f5e5f5c2745a329dd2c05dcebbb230dec1ef"), looks := false }, kinds := [], alts := [], laidByText := true, laidKinds := [.sentinel, .data], laidTests := true, laidLooks := .later }
def DeedOrderUptoCardSaid : Prop := Claim7.holds Tryd.pinned (.plain (OpenSpec.upto deedOrderSpec)) deedOrderUptoCard

/-- THE SECOND FORM's CARD OF 'beadlelaw05.DeedRight'. -/
def deedRightUptoCard : Claim7 := { stood := { row := deedRightUptoRow, standIns := [], harness := (true, "e3d53d644cba6e78cfc6f11eca87f5e5f5c2745a329dd2c05dcebbb230dec1ef"), looks := false }, kinds := [], alts := [], laidByText := true, laidKinds := [.data, .sentinel, .data, .pinned], laidTests := true, laidLooks := .later }
def DeedRightUptoCardSaid : Prop := Claim7.holds Tryd.pinned (.plain (OpenSpec.upto deedRightSpec)) deedRightUptoCard

/-- THE SECOND FORM's CARD OF 'beadlelaw05.DeedGets'. -/
def deedGetsUptoCard : Claim7 := { stood := { row := deedGetsUptoRow, standIns := [], harness := (true, "e3d53d644cba6e78cfc6f11eca87f5e5f5c2745a329dd2c05dcebbb230dec1ef"), looks := false }, kinds := [], alts := [], laidByText := true, laidKinds := [.data, .sentinel, .data, .pinned], laidTests := true, laidLooks := .later }
def DeedGetsUptoCardSaid : Prop := Claim7.holds Tryd.pinned (.plain (OpenSpec.upto deedGetsSpec)) deedGetsUptoCard
end Rows
end Go.Proofs.YtljioepkbbbibaaDoor
