/-
  DERIVED. GIVEN WITH THE SEED: THE CARDS: each row of YtdeigahngjoefaaDoorRows.lean that lists a variable, with what it lists TIED to the program's text (the seventh form; the later family's looks); each row that meets fmt, with fmt's text TOLD by the authors' own Lean function (tested against real Go, not proved from fmt's source: count such statements apart). THE CARD IS WHAT COUNTS. Prove the row's statement (the work); the ties are given (YtdeigahngjoefaaDoorTie.lean); close each card by the builder's one call (the guide's Derived/Test/ToyasCard.lean, 'card_holds'). Laid BY PROGRAM, IN A SANDBOX (cutbox-door.mjs). By AI agents, Wed Nov 11 2026. No macro, syntax, notation, axiom, sorry.
-/
import Derived.Test.YtdeigahngjoefaaDoorRows
import GoSem.ClaimSeven
namespace Go.Proofs.YtdeigahngjoefaaDoor
namespace Rows

/-- THE TIED CARD OF 'frankinglaw19.FlagOrder'. -/
def flagOrderCard : Claim7 := { stood := { row := flagOrderRow, standIns := [], harness := (true, "ebee54c7c274c131dbbc121529aef73b02aadd12ec13abd59003d90c05c54458"), looks := false }, kinds := [], alts := [], laidByText := true, laidKinds := [.data, .pinned], laidTests := true, laidLooks := .later }
def FlagOrderCardSaid : Prop := Claim7.holds Tryd.pinned (.plain (OpenSpec.ofChange flagOrderSpec)) flagOrderCard

/-- THE TIED CARD OF 'frankinglaw19.FlagKnown'. -/
def flagKnownCard : Claim7 := { stood := { row := flagKnownRow, standIns := [], harness := (true, "ebee54c7c274c131dbbc121529aef73b02aadd12ec13abd59003d90c05c54458"), looks := false }, kinds := [], alts := [], laidByText := true, laidKinds := [.data, .pinned], laidTests := true, laidLooks := .later }
def FlagKnownCardSaid : Prop := Claim7.holds Tryd.pinned (.plain (OpenSpec.ofChange flagKnownSpec)) flagKnownCard

/-- THE TIED CARD OF 'frankinglaw19.FlagSays'. -/
def flagSaysCard : Claim7 := { stood := { row := flagSaysRow, standIns := [], harness := (true, "ebee54c7c274c131dbbc121529aef73b02aadd12ec13abd59003d90c05c54458"), looks := false }, kinds := [], alts := [], laidByText := true, laidKinds := [.data, .pinned], laidTests := true, laidLooks := .later }
def FlagSaysCardSaid : Prop := Claim7.holds Tryd.pinned (.plain (OpenSpec.ofChange flagSaysSpec)) flagSaysCard

/-- THE TIED CARD OF 'frankinglaw19.FlagBack'. -/
def flagBackCard : Claim7 := { stood := { row := flagBackRow, standIns := [], harness := (true, "ebee54c7c274c131dbbc121529aef73b02aadd12ec13abd59003d90c05c54458"), looks := false }, kinds := [], alts := [], laidByText := true, laidKinds := [.data, .pinned], laidTests := true, laidLooks := .later }
def FlagBackCardSaid : Prop := Claim7.holds Tryd.pinned (.plain (OpenSpec.ofChange flagBackSpec)) flagBackCard

/-- THE SECOND FORM's CARD OF 'frankinglaw19.FlagOrder'. -/
def flagOrderUptoCard : Claim7 := { stood := { row := flagOrderUptoRow, standIns := [], harness := (true, "ebee54c7c274c131dbbc121529aef73b02aadd12ec13abd59003d90c05c54458"), looks := false }, kinds := [], alts := [], laidByText := true, laidKinds := [.data, .pinned], laidTests := true, laidLooks := .later }
def FlagOrderUptoCardSaid : Prop := Claim7.holds Tryd.pinned (.plain (OpenSpec.upto flagOrderSpec)) flagOrderUptoCard

/-- THE SECOND FORM's CARD OF 'frankinglaw19.FlagKnown'. -/
def flagKnownUptoCard : Claim7 := { stood := { row := flagKnownUptoRow, standIns := [], harness := (true, "ebee54c7c274c131dbbc121529aef73b02aadd12ec13abd59003d90c05c54458"), looks := false }, kinds := [], alts := [], laidByText := true, laidKinds := [.data, .pinned], laidTests := true, laidLooks := .later }
def FlagKnownUptoCardSaid : Prop := Claim7.holds Tryd.pinned (.plain (OpenSpec.upto flagKnownSpec)) flagKnownUptoCard

/-- THE SECOND FORM's CARD OF 'frankinglaw19.FlagSays'. -/
def flagSaysUptoCard : Claim7 := { stood := { row := flagSaysUptoRow, standIns := [], harness := (true, "ebee54c7c274c131dbbc121529aef73b02aadd12ec13abd59003d90c05c54458"), looks := false }, kinds := [], alts := [], laidByText := true, laidKinds := [.data, .pinned], laidTests := true, laidLooks := .later }
def FlagSaysUptoCardSaid : Prop := Claim7.holds Tryd.pinned (.plain (OpenSpec.upto flagSaysSpec)) flagSaysUptoCard

/-- THE SECOND FORM's CARD OF 'frankinglaw19.FlagBack'. -/
def flagBackUptoCard : Claim7 := { stood := { row := flagBackUptoRow, standIns := [], harness := (true, "ebee54c7c274c131dbbc121529aef73b02aadd12ec13abd59003d90c05c54458"), looks := false }, kinds := [], alts := [], laidByText := true, laidKinds := [.data, .pinned], laidTests := true, laidLooks := .later }
def FlagBackUptoCardSaid : Prop := Claim7.holds Tryd.pinned (.plain (OpenSpec.upto flagBackSpec)) flagBackUptoCard
end Rows
end Go.Proofs.YtdeigahngjoefaaDoor
