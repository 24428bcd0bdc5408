/-
  DERIVED. GIVEN WITH THE SEED: THE CARDS: each row of YtcifbeiofjchgaaDoorRows.lean that lists a variable, with what it lists TIED to the program's text (the seventh form; the later family's looks); each row that meets fmt, with fmt's text TOLD by the authors' own Lean function (tested against real Go, not proved from fmt's source: count such statements apart). THE CARD IS WHAT COUNTS. Prove the row's statement (the work); the ties are given (YtcifbeiofjchgaaDoorTie.lean); close each card by the builder's one call (the guide's Derived/Test/ToyasCard.lean, 'card_holds'). Laid BY PROGRAM, IN A SANDBOX (cutbox-door.mjs). By AI agents, Wed Nov 11 2026. No macro, syntax, notation, axiom, sorry.
-/
import Derived.Test.YtcifbeiofjchgaaDoorRows
import GoSem.ClaimSeven
namespace Go.Proofs.YtcifbeiofjchgaaDoor
namespace Rows

/-- THE TIED CARD OF 'frankinglaw10.DateOrder'. -/
def dateOrderCard : Claim7 := { stood := { row := dateOrderRow, standIns := [], harness := (true, "8fafda90108389e7bd4c121891ca6528a18e9e0acc9124acc118bef400057c8b"), looks := false }, kinds := [], alts := [], laidByText := true, laidKinds := [.data, .data, .data], laidTests := true, laidLooks := .later }
def DateOrderCardSaid : Prop := Claim7.holds Tryd.pinned (.plain (OpenSpec.ofChange dateOrderSpec)) dateOrderCard

/-- THE TIED CARD OF 'frankinglaw10.DateBack'. -/
def dateBackCard : Claim7 := { stood := { row := dateBackRow, standIns := [], harness := (true, "8fafda90108389e7bd4c121891ca6528a18e9e0acc9124acc118bef400057c8b"), looks := false }, kinds := [], alts := [], laidByText := true, laidKinds := [.data, .data, .data, .data, .pinned, .pinned], laidTests := true, laidLooks := .later }
def DateBackCardSaid : Prop := Claim7.holds Tryd.pinned (.plain (OpenSpec.ofChange dateBackSpec)) dateBackCard

/-- THE TIED CARD OF 'frankinglaw10.DateDays'. -/
def dateDaysCard : Claim7 := { stood := { row := dateDaysRow, standIns := [], harness := (true, "8fafda90108389e7bd4c121891ca6528a18e9e0acc9124acc118bef400057c8b"), looks := false }, kinds := [], alts := [], laidByText := true, laidKinds := [.data, .data, .data, .data, .pinned, .pinned], laidTests := true, laidLooks := .later }
def DateDaysCardSaid : Prop := Claim7.holds Tryd.pinned (.plain (OpenSpec.ofChange dateDaysSpec)) dateDaysCard

/-- THE TIED CARD OF 'frankinglaw10.DateKnown'. -/
def dateKnownCard : Claim7 := { stood := { row := dateKnownRow, standIns := [], harness := (true, "8fafda90108389e7bd4c121891ca6528a18e9e0acc9124acc118bef400057c8b"), looks := false }, kinds := [], alts := [], laidByText := true, laidKinds := [.data, .data, .data, .data, .pinned, .pinned], laidTests := true, laidLooks := .later }
def DateKnownCardSaid : Prop := Claim7.holds Tryd.pinned (.plain (OpenSpec.ofChange dateKnownSpec)) dateKnownCard

/-- THE TIED CARD OF 'frankinglaw10.DateSays'. -/
def dateSaysCard : Claim7 := { stood := { row := dateSaysRow, standIns := [], harness := (true, "8fafda90108389e7bd4c121891ca6528a18e9e0acc9124acc118bef400057c8b"), looks := false }, kinds := [], alts := [], laidByText := true, laidKinds := [.data, .data, .data, .data, .pinned, .pinned], laidTests := true, laidLooks := .later }
def DateSaysCardSaid : Prop := Claim7.holds Tryd.pinned (.plain (OpenSpec.ofChange dateSaysSpec)) dateSaysCard

/-- THE SECOND FORM's CARD OF 'frankinglaw10.DateOrder'. -/
def dateOrderUptoCard : Claim7 := { stood := { row := dateOrderUptoRow, standIns := [], harness := (true, "8fafda90108389e7bd4c121891ca6528a18e9e0acc9124acc118bef400057c8b"), looks := false }, kinds := [], alts := [], laidByText := true, laidKinds := [.data, .data, .data], laidTests := true, laidLooks := .later }
def DateOrderUptoCardSaid : Prop := Claim7.holds Tryd.pinned (.plain (OpenSpec.upto dateOrderSpec)) dateOrderUptoCard

/-- THE SECOND FORM's CARD OF 'frankinglaw10.DateBack'. -/
def dateBackUptoCard : Claim7 := { stood := { row := dateBackUptoRow, standIns := [], harness := (true, "8fafda90108389e7bd4c121891ca6528a18e9e0acc9124acc118bef400057c8b"), looks := false }, kinds := [], alts := [], laidByText := true, laidKinds := [.data, .data, .data, .data, .pinned, .pinned], laidTests := true, laidLooks := .later }
def DateBackUptoCardSaid : Prop := Claim7.holds Tryd.pinned (.plain (OpenSpec.upto dateBackSpec)) dateBackUptoCard

/-- THE SECOND FORM's CARD OF 'frankinglaw10.DateDays'. -/
def dateDaysUptoCard : Claim7 := { stood := { row := dateDaysUptoRow, standIns := [], harness := (true, "8fafda90108389e7bd4c121891ca6528a18e9e0acc9124acc118bef400057c8b"), looks := false }, kinds := [], alts := [], laidByText := true, laidKinds := [.data, .data, .data, .data, .pinned, .pinned], laidTests := true, laidLooks := .later }
def DateDaysUptoCardSaid : Prop := Claim7.holds Tryd.pinned (.plain (OpenSpec.upto dateDaysSpec)) dateDaysUptoCard

/-- THE SECOND FORM's CARD OF 'frankinglaw10.DateKnown'. -/
def dateKnownUptoCard : Claim7 := { stood := { row := dateKnownUptoRow, standIns := [], harness := (true, "8fafda90108389e7bd4c121891ca6528a18e9e0acc9124acc118bef400057c8b"), looks := false }, kinds := [], alts := [], laidByText := true, laidKinds := [.data, .data, .data, .data, .pinned, .pinned], laidTests := true, laidLooks := .later }
def DateKnownUptoCardSaid : Prop := Claim7.holds Tryd.pinned (.plain (OpenSpec.upto dateKnownSpec)) dateKnownUptoCard

/-- THE SECOND FORM's CARD OF 'frankinglaw10.DateSays'. -/
def dateSaysUptoCard : Claim7 := { stood := { row := dateSaysUptoRow, standIns := [], harness := (true, "8fafda90108389e7bd4c121891ca6528a18e9e0acc9124acc118bef400057c8b"), looks := false }, kinds := [], alts := [], laidByText := true, laidKinds := [.data, .data, .data, .data, .pinned, .pinned], laidTests := true, laidLooks := .later }
def DateSaysUptoCardSaid : Prop := Claim7.holds Tryd.pinned (.plain (OpenSpec.upto dateSaysSpec)) dateSaysUptoCard
end Rows
end Go.Proofs.YtcifbeiofjchgaaDoor
