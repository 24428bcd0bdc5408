/-
  DERIVED. GIVEN WITH THE SEED: THE CARDS: each row of YtcgjkppoakngnaaDoorRows.lean that lists a variable, with what it lists TIED to the program's text (the seventh form; the later family's looks); each row that meets fmt, with fmt's text TOLD by the authors' own Lean function (tested against real Go, not proved from fmt's source: count such statements apart). THE CARD IS WHAT COUNTS. Prove the row's statement (the work); the ties are given (YtcgjkppoakngnaaDoorTie.lean); close each card by the builder's one call (the guide's Derived/Test/ToyasCard.lean, 'card_holds'). Laid BY PROGRAM, IN A SANDBOX (cutbox-door.mjs). By AI agents, Wed Nov 11 2026. No macro, syntax, notation, axiom, sorry.
-/
import Derived.Test.YtcgjkppoakngnaaDoorRows
import GoSem.ClaimSeven
namespace Go.Proofs.YtcgjkppoakngnaaDoor
namespace Rows

/-- THE TIED CARD OF 'frankinglaw25.SnapWhole'. -/
def snapWholeCard : Claim7 := { stood := { row := snapWholeRow, standIns := [], harness := (true, "263563a8feea704a344a437255f2af7e52da639a4cc6107a774a40bad7b22dc1"), looks := true }, kinds := [], alts := [], laidByText := true, laidKinds := [.data, .data, .data], laidTests := true, laidLooks := .later }
def SnapWholeCardSaid : Prop := Claim7.holds Tryd.pinned (.plain (OpenSpec.ofChange snapWholeSpec)) snapWholeCard

/-- THE TIED CARD OF 'frankinglaw10.DateOrder'. -/
def dateOrderCard : Claim7 := { stood := { row := dateOrderRow, standIns := [], harness := (true, "263563a8feea704a344a437255f2af7e52da639a4cc6107a774a40bad7b22dc1"), looks := true }, kinds := [], alts := [], laidByText := true, laidKinds := [.data, .data, .data], laidTests := true, laidLooks := .later }
def DateOrderCardSaid : Prop := Claim7.holds Tryd.pinned (.plain (OpenSpec.ofChange dateOrderSpec)) dateOrderCard

/-- THE TIED CARD OF 'frankinglaw1.OctetKnown'. -/
def octetKnownCard : Claim7 := { stood := { row := octetKnownRow, standIns := [], harness := (true, "263563a8feea704a344a437255f2af7e52da639a4cc6107a774a40bad7b22dc1"), looks := true }, kinds := [], alts := [], laidByText := true, laidKinds := [.data, .data, .data], laidTests := true, laidLooks := .later }
def OctetKnownCardSaid : Prop := Claim7.holds Tryd.pinned (.plain (OpenSpec.ofChange octetKnownSpec)) octetKnownCard

/-- THE TIED CARD OF 'frankinglaw1.OctetSays'. -/
def octetSaysCard : Claim7 := { stood := { row := octetSaysRow, standIns := [], harness := (true, "263563a8feea704a344a437255f2af7e52da639a4cc6107a774a40bad7b22dc1"), looks := true }, kinds := [], alts := [], laidByText := true, laidKinds := [.data, .data, .data], laidTests := true, laidLooks := .later }
def OctetSaysCardSaid : Prop := Claim7.holds Tryd.pinned (.plain (OpenSpec.ofChange octetSaysSpec)) octetSaysCard

/-- THE TIED CARD OF 'frankinglaw25.SnapReplays'. -/
def snapReplaysCard : Claim7 := { stood := { row := snapReplaysRow, standIns := [], harness := (true, "263563a8feea704a344a437255f2af7e52da639a4cc6107a774a40bad7b22dc1"), looks := true }, kinds := [], alts := [], laidByText := true, laidKinds := [.data, .data, .data, .sentinel, .sentinel], laidTests := true, laidLooks := .later }
def SnapReplaysCardSaid : Prop := Claim7.holds Tryd.pinned (.plain (OpenSpec.ofChange snapReplaysSpec)) snapReplaysCard

/-- THE TIED CARD OF 'frankinglaw25.SnapKnown'. -/
def snapKnownCard : Claim7 := { stood := { row := snapKnownRow, standIns := [], harness := (true, "263563a8feea704a344a437255f2af7e52da639a4cc6107a774a40bad7b22dc1"), looks := true }, kinds := [], alts := [], laidByText := true, laidKinds := [.data, .data, .data, .sentinel, .sentinel], laidTests := true, laidLooks := .later }
def SnapKnownCardSaid : Prop := Claim7.holds Tryd.pinned (.plain (OpenSpec.ofChange snapKnownSpec)) snapKnownCard

/-- THE TIED CARD OF 'frankinglaw25.SnapPlays'. -/
def snapPlaysCard : Claim7 := { stood := { row := snapPlaysRow, standIns := [], harness := (true, "263563a8feea704a344a437255f2af7e52da639a4cc6107a774a40bad7b22dc1"), looks := true }, kinds := [], alts := [], laidByText := true, laidKinds := [.data, .data, .data, .sentinel, .sentinel], laidTests := true, laidLooks := .later }
def SnapPlaysCardSaid : Prop := Claim7.holds Tryd.pinned (.plain (OpenSpec.ofChange snapPlaysSpec)) snapPlaysCard

/-- THE SECOND FORM's CARD OF 'frankinglaw25.SnapWhole'. -/
def snapWholeUptoCard : Claim7 := { stood := { row := snapWholeUptoRow, standIns := [], harness := (true, "263563a8feea704a344a437255f2af7e52da639a4cc6107a774a40bad7b22dc1"), looks := true }, kinds := [], alts := [], laidByText := true, laidKinds := [.data, .data, .data], laidTests := true, laidLooks := .later }
def SnapWholeUptoCardSaid : Prop := Claim7.holds Tryd.pinned (.plain (OpenSpec.upto snapWholeSpec)) snapWholeUptoCard

/-- THE SECOND FORM's CARD OF 'frankinglaw10.DateOrder'. -/
def dateOrderUptoCard : Claim7 := { stood := { row := dateOrderUptoRow, standIns := [], harness := (true, "263563a8feea704a344a437255f2af7e52da639a4cc6107a774a40bad7b22dc1"), looks := true }, kinds := [], alts := [], laidByText := true, laidKinds := [.data, .data, .data], laidTests := true, laidLooks := .later }
def DateOrderUptoCardSaid : Prop := Claim7.holds Tryd.pinned (.plain (OpenSpec.upto dateOrderSpec)) dateOrderUptoCard

/-- THE SECOND FORM's CARD OF 'frankinglaw1.OctetKnown'. -/
def octetKnownUptoCard : Claim7 := { stood := { row := octetKnownUptoRow, standIns := [], harness := (true, "263563a8feea704a344a437255f2af7e52da639a4cc6107a774a40bad7b22dc1"), looks := true }, kinds := [], alts := [], laidByText := true, laidKinds := [.data, .data, .data], laidTests := true, laidLooks := .later }
def OctetKnownUptoCardSaid : Prop := Claim7.holds Tryd.pinned (.plain (OpenSpec.upto octetKnownSpec)) octetKnownUptoCard

/-- THE SECOND FORM's CARD OF 'frankinglaw1.OctetSays'. -/
def octetSaysUptoCard : Claim7 := { stood := { row := octetSaysUptoRow, standIns := [], harness := (true, "263563a8feea704a344a437255f2af7e52da639a4cc6107a774a40bad7b22dc1"), looks := true }, kinds := [], alts := [], laidByText := true, laidKinds := [.data, .data, .data], laidTests := true, laidLooks := .later }
def OctetSaysUptoCardSaid : Prop := Claim7.holds Tryd.pinned (.plain (OpenSpec.upto octetSaysSpec)) octetSaysUptoCard

/-- THE SECOND FORM's CARD OF 'frankinglaw25.SnapReplays'. -/
def snapReplaysUptoCard : Claim7 := { stood := { row := snapReplaysUptoRow, standIns := [], harness := (true, "263563a8feea704a344a437255f2af7e52da639a4cc6107a774a40bad7b22dc1"), looks := true }, kinds := [], alts := [], laidByText := true, laidKinds := [.data, .data, .data, .sentinel, .sentinel], laidTests := true, laidLooks := .later }
def SnapReplaysUptoCardSaid : Prop := Claim7.holds Tryd.pinned (.plain (OpenSpec.upto snapReplaysSpec)) snapReplaysUptoCard

/-- THE SECOND FORM's CARD OF 'frankinglaw25.SnapKnown'. -/
def snapKnownUptoCard : Claim7 := { stood := { row := snapKnownUptoRow, standIns := [], harness := (true, "263563a8feea704a344a437255f2af7e52da639a4cc6107a774a40bad7b22dc1"), looks := true }, kinds := [], alts := [], laidByText := true, laidKinds := [.data, .data, .data, .sentinel, .sentinel], laidTests := true, laidLooks := .later }
def SnapKnownUptoCardSaid : Prop := Claim7.holds Tryd.pinned (.plain (OpenSpec.upto snapKnownSpec)) snapKnownUptoCard

/-- THE SECOND FORM's CARD OF 'frankinglaw25.SnapPlays'. -/
def snapPlaysUptoCard : Claim7 := { stood := { row := snapPlaysUptoRow, standIns := [], harness := (true, "263563a8feea704a344a437255f2af7e52da639a4cc6107a774a40bad7b22dc1"), looks := true }, kinds := [], alts := [], laidByText := true, laidKinds := [.data, .data, .data, .sentinel, .sentinel], laidTests := true, laidLooks := .later }
def SnapPlaysUptoCardSaid : Prop := Claim7.holds Tryd.pinned (.plain (OpenSpec.upto snapPlaysSpec)) snapPlaysUptoCard
end Rows
end Go.Proofs.YtcgjkppoakngnaaDoor
