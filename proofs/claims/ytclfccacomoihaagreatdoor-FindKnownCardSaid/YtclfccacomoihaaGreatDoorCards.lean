/-
  DERIVED. GIVEN WITH THE SEED: THE CARDS: each row of YtclfccacomoihaaGreatDoorRows.lean that lists a variable, with what it lists TIED to the program's text (the seventh form; the later family's looks); each row that meets fmt, with fmt's text TOLD by the authors' own Lean function (tested against real Go, not proved from fmt's source: count such statements apart). THE CARD IS WHAT COUNTS. Prove the row's statement (the work); the ties are given (YtclfccacomoihaaGreatDoorTie.lean); close each card by the builder's one call (the guide's Derived/Test/ToyasCard.lean, 'card_holds'). Laid BY PROGRAM, IN A SANDBOX (cutbox-door.mjs). By AI agents, Wed Nov 11 2026. No macro, syntax, notation, axiom, sorry.
-/
import Derived.Test.YtclfccacomoihaaGreatDoorRows
import GoSem.ClaimSeven
namespace Go.Proofs.YtclfccacomoihaaGreatDoor
namespace Rows

/-- THE TIED CARD OF 'frankinglaw22.FindLogic'. -/
def findLogicCard : Claim7 := { stood := { row := findLogicRow, standIns := [], harness := (true, "693aa5a67ea0259c7c7f20138df98dc10614c395f997e105a95eea0d56f2233f"), looks := false }, kinds := [], alts := [], laidByText := true, laidKinds := [.data, .pinned, .pinned], laidTests := true, laidLooks := .later }
def FindLogicCardSaid : Prop := Claim7.holds Tryz.pinned (.plain (OpenSpec.ofChange findLogicSpec)) findLogicCard

/-- THE TIED CARD OF 'frankinglaw22.FindFlags'. -/
def findFlagsCard : Claim7 := { stood := { row := findFlagsRow, standIns := [], harness := (true, "693aa5a67ea0259c7c7f20138df98dc10614c395f997e105a95eea0d56f2233f"), looks := false }, kinds := [], alts := [], laidByText := true, laidKinds := [.data, .pinned, .pinned], laidTests := true, laidLooks := .later }
def FindFlagsCardSaid : Prop := Claim7.holds Tryz.pinned (.plain (OpenSpec.ofChange findFlagsSpec)) findFlagsCard

/-- THE TIED CARD OF 'frankinglaw22.FindKnown'. -/
def findKnownCard : Claim7 := { stood := { row := findKnownRow, standIns := [], harness := (true, "693aa5a67ea0259c7c7f20138df98dc10614c395f997e105a95eea0d56f2233f"), looks := false }, kinds := [], alts := [], laidByText := true, laidKinds := [.data, .pinned, .pinned], laidTests := true, laidLooks := .later }
def FindKnownCardSaid : Prop := Claim7.holds Tryz.pinned (.plain (OpenSpec.ofChange findKnownSpec)) findKnownCard

/-- THE TIED CARD OF 'frankinglaw22.FindParses'. -/
def findParsesCard : Claim7 := { stood := { row := findParsesRow, standIns := [], harness := (true, "693aa5a67ea0259c7c7f20138df98dc10614c395f997e105a95eea0d56f2233f"), looks := false }, kinds := [], alts := [], laidByText := true, laidKinds := [.data, .pinned, .pinned], laidTests := true, laidLooks := .later }
def FindParsesCardSaid : Prop := Claim7.holds Tryz.pinned (.plain (OpenSpec.ofChange findParsesSpec)) findParsesCard

/-- THE TIED CARD OF 'frankinglaw22.FindSays'. -/
def findSaysCard : Claim7 := { stood := { row := findSaysRow, standIns := [], harness := (true, "693aa5a67ea0259c7c7f20138df98dc10614c395f997e105a95eea0d56f2233f"), looks := false }, kinds := [], alts := [], laidByText := true, laidKinds := [.data, .pinned, .pinned], laidTests := true, laidLooks := .later }
def FindSaysCardSaid : Prop := Claim7.holds Tryz.pinned (.plain (OpenSpec.ofChange findSaysSpec)) findSaysCard

/-- THE SECOND FORM's CARD OF 'frankinglaw22.FindLogic'. -/
def findLogicUptoCard : Claim7 := { stood := { row := findLogicUptoRow, standIns := [], harness := (true, "693aa5a67ea0259c7c7f20138df98dc10614c395f997e105a95eea0d56f2233f"), looks := false }, kinds := [], alts := [], laidByText := true, laidKinds := [.data, .pinned, .pinned], laidTests := true, laidLooks := .later }
def FindLogicUptoCardSaid : Prop := Claim7.holds Tryz.pinned (.plain (OpenSpec.upto findLogicSpec)) findLogicUptoCard

/-- THE SECOND FORM's CARD OF 'frankinglaw22.FindFlags'. -/
def findFlagsUptoCard : Claim7 := { stood := { row := findFlagsUptoRow, standIns := [], harness := (true, "693aa5a67ea0259c7c7f20138df98dc10614c395f997e105a95eea0d56f2233f"), looks := false }, kinds := [], alts := [], laidByText := true, laidKinds := [.data, .pinned, .pinned], laidTests := true, laidLooks := .later }
def FindFlagsUptoCardSaid : Prop := Claim7.holds Tryz.pinned (.plain (OpenSpec.upto findFlagsSpec)) findFlagsUptoCard

/-- THE SECOND FORM's CARD OF 'frankinglaw22.FindKnown'. -/
def findKnownUptoCard : Claim7 := { stood := { row := findKnownUptoRow, standIns := [], harness := (true, "693aa5a67ea0259c7c7f20138df98dc10614c395f997e105a95eea0d56f2233f"), looks := false }, kinds := [], alts := [], laidByText := true, laidKinds := [.data, .pinned, .pinned], laidTests := true, laidLooks := .later }
def FindKnownUptoCardSaid : Prop := Claim7.holds Tryz.pinned (.plain (OpenSpec.upto findKnownSpec)) findKnownUptoCard

/-- THE SECOND FORM's CARD OF 'frankinglaw22.FindParses'. -/
def findParsesUptoCard : Claim7 := { stood := { row := findParsesUptoRow, standIns := [], harness := (true, "693aa5a67ea0259c7c7f20138df98dc10614c395f997e105a95eea0d56f2233f"), looks := false }, kinds := [], alts := [], laidByText := true, laidKinds := [.data, .pinned, .pinned], laidTests := true, laidLooks := .later }
def FindParsesUptoCardSaid : Prop := Claim7.holds Tryz.pinned (.plain (OpenSpec.upto findParsesSpec)) findParsesUptoCard

/-- THE SECOND FORM's CARD OF 'frankinglaw22.FindSays'. -/
def findSaysUptoCard : Claim7 := { stood := { row := findSaysUptoRow, standIns := [], harness := (true, "693aa5a67ea0259c7c7f20138df98dc10614c395f997e105a95eea0d56f2233f"), looks := false }, kinds := [], alts := [], laidByText := true, laidKinds := [.data, .pinned, .pinned], laidTests := true, laidLooks := .later }
def FindSaysUptoCardSaid : Prop := Claim7.holds Tryz.pinned (.plain (OpenSpec.upto findSaysSpec)) findSaysUptoCard
end Rows
end Go.Proofs.YtclfccacomoihaaGreatDoor
