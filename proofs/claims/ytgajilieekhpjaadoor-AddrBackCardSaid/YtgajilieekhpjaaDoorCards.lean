/-
  DERIVED. GIVEN WITH THE SEED: THE CARDS: each row of YtgajilieekhpjaaDoorRows.lean that lists a variable, with what it lists TIED to the program's text (the seventh form; the later family's looks); each row that meets fmt, with fmt's text TOLD by the authors' own Lean function (tested against real Go, not proved from fmt's source: count such statements apart). THE CARD IS WHAT COUNTS. Prove the row's statement (the work); the ties are given (YtgajilieekhpjaaDoorTie.lean); close each card by the builder's one call (the guide's Derived/Test/ToyasCard.lean, 'card_holds'). Laid BY PROGRAM, IN A SANDBOX (cutbox-door.mjs). By AI agents, Wed Nov 11 2026. No macro, syntax, notation, axiom, sorry.
-/
import Derived.Test.YtgajilieekhpjaaDoorRows
import GoSem.ClaimSeven
namespace Go.Proofs.YtgajilieekhpjaaDoor
namespace Rows

/-- THE TIED CARD OF 'frankinglaw12.AddrKnown'. -/
def addrKnownCard : Claim7 := { stood := { row := addrKnownRow, standIns := [], harness := (true, "ba2c67bd0ba3889d963945fdd0210ef8f6bcd45d47c6e83862b20c2877c9203b"), looks := false }, kinds := [], alts := [], laidByText := true, laidKinds := [.data, .data, .data, .data, .pinned], laidTests := true, laidLooks := .later }
def AddrKnownCardSaid : Prop := Claim7.holds Tryd.pinned (.plain (OpenSpec.ofChange addrKnownSpec)) addrKnownCard

/-- THE TIED CARD OF 'frankinglaw12.AddrSays'. -/
def addrSaysCard : Claim7 := { stood := { row := addrSaysRow, standIns := [], harness := (true, "ba2c67bd0ba3889d963945fdd0210ef8f6bcd45d47c6e83862b20c2877c9203b"), looks := false }, kinds := [], alts := [], laidByText := true, laidKinds := [.data, .data, .data, .data, .pinned], laidTests := true, laidLooks := .later }
def AddrSaysCardSaid : Prop := Claim7.holds Tryd.pinned (.plain (OpenSpec.ofChange addrSaysSpec)) addrSaysCard

/-- THE TIED CARD OF 'frankinglaw12.AddrBack'. -/
def addrBackCard : Claim7 := { stood := { row := addrBackRow, standIns := [], harness := (true, "ba2c67bd0ba3889d963945fdd0210ef8f6bcd45d47c6e83862b20c2877c9203b"), looks := false }, kinds := [], alts := [], laidByText := true, laidKinds := [.data, .data, .data, .data, .pinned], laidTests := true, laidLooks := .later }
def AddrBackCardSaid : Prop := Claim7.holds Tryd.pinned (.plain (OpenSpec.ofChange addrBackSpec)) addrBackCard

/-- THE TIED CARD OF 'frankinglaw12.AddrLists'. -/
def addrListsCard : Claim7 := { stood := { row := addrListsRow, standIns := [], harness := (true, "ba2c67bd0ba3889d963945fdd0210ef8f6bcd45d47c6e83862b20c2877c9203b"), looks := false }, kinds := [], alts := [], laidByText := true, laidKinds := [.data, .data, .data, .data, .pinned], laidTests := true, laidLooks := .later }
def AddrListsCardSaid : Prop := Claim7.holds Tryd.pinned (.plain (OpenSpec.ofChange addrListsSpec)) addrListsCard

/-- THE SECOND FORM's CARD OF 'frankinglaw12.AddrKnown'. -/
def addrKnownUptoCard : Claim7 := { stood := { row := addrKnownUptoRow, standIns := [], harness := (true, "ba2c67bd0ba3889d963945fdd0210ef8f6bcd45d47c6e83862b20c2877c9203b"), looks := false }, kinds := [], alts := [], laidByText := true, laidKinds := [.data, .data, .data, .data, .pinned], laidTests := true, laidLooks := .later }
def AddrKnownUptoCardSaid : Prop := Claim7.holds Tryd.pinned (.plain (OpenSpec.upto addrKnownSpec)) addrKnownUptoCard

/-- THE SECOND FORM's CARD OF 'frankinglaw12.AddrSays'. -/
def addrSaysUptoCard : Claim7 := { stood := { row := addrSaysUptoRow, standIns := [], harness := (true, "ba2c67bd0ba3889d963945fdd0210ef8f6bcd45d47c6e83862b20c2877c9203b"), looks := false }, kinds := [], alts := [], laidByText := true, laidKinds := [.data, .data, .data, .data, .pinned], laidTests := true, laidLooks := .later }
def AddrSaysUptoCardSaid : Prop := Claim7.holds Tryd.pinned (.plain (OpenSpec.upto addrSaysSpec)) addrSaysUptoCard

/-- THE SECOND FORM's CARD OF 'frankinglaw12.AddrBack'. -/
def addrBackUptoCard : Claim7 := { stood := { row := addrBackUptoRow, standIns := [], harness := (true, "ba2c67bd0ba3889d963945fdd0210ef8f6bcd45d47c6e83862b20c2877c9203b"), looks := false }, kinds := [], alts := [], laidByText := true, laidKinds := [.data, .data, .data, .data, .pinned], laidTests := true, laidLooks := .later }
def AddrBackUptoCardSaid : Prop := Claim7.holds Tryd.pinned (.plain (OpenSpec.upto addrBackSpec)) addrBackUptoCard

/-- THE SECOND FORM's CARD OF 'frankinglaw12.AddrLists'. -/
def addrListsUptoCard : Claim7 := { stood := { row := addrListsUptoRow, standIns := [], harness := (true, "ba2c67bd0ba3889d963945fdd0210ef8f6bcd45d47c6e83862b20c2877c9203b"), looks := false }, kinds := [], alts := [], laidByText := true, laidKinds := [.data, .data, .data, .data, .pinned], laidTests := true, laidLooks := .later }
def AddrListsUptoCardSaid : Prop := Claim7.holds Tryd.pinned (.plain (OpenSpec.upto addrListsSpec)) addrListsUptoCard
end Rows
end Go.Proofs.YtgajilieekhpjaaDoor
