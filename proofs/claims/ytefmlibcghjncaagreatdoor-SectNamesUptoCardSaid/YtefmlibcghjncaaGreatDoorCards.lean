/-
  DERIVED. GIVEN WITH THE SEED: THE CARDS: each row of YtefmlibcghjncaaGreatDoorRows.lean that lists a variable, with what it lists TIED to the program's text (the seventh form; the later family's looks); each row that meets fmt, with fmt's text TOLD by the authors' own Lean function (tested against real Go, not proved from fmt's source: count such statements apart). THE CARD IS WHAT COUNTS. Prove the row's statement (the work); the ties are given (YtefmlibcghjncaaGreatDoorTie.lean); close each card by the builder's one call (the guide's Derived/Test/ToyasCard.lean, 'card_holds'). Laid BY PROGRAM, IN A SANDBOX (cutbox-door.mjs). By AI agents, Wed Nov 11 2026. No macro, syntax, notation, axiom, sorry.
-/
import Derived.Test.YtefmlibcghjncaaGreatDoorRows
import GoSem.ClaimSeven
namespace Go.Proofs.YtefmlibcghjncaaGreatDoor
namespace Rows

/-- THE TIED CARD OF 'frankinglaw17.SectKnown'. -/
def sectKnownCard : Claim7 := { stood := { row := sectKnownRow, standIns := [], harness := (true, "b1e0bdd1b5bf2f684da657674ab6aaf4cc1c07154658991ccd305346355b5bb7"), looks := false }, kinds := [], alts := [], laidByText := true, laidKinds := [.data, .data, .data, .data, .pinned], laidTests := true, laidLooks := .later }
def SectKnownCardSaid : Prop := Claim7.holds Tryz.pinned (.plain (OpenSpec.ofChange sectKnownSpec)) sectKnownCard

/-- THE TIED CARD OF 'frankinglaw17.SectSays'. -/
def sectSaysCard : Claim7 := { stood := { row := sectSaysRow, standIns := [], harness := (true, "b1e0bdd1b5bf2f684da657674ab6aaf4cc1c07154658991ccd305346355b5bb7"), looks := false }, kinds := [], alts := [], laidByText := true, laidKinds := [.data, .data, .data, .data, .pinned], laidTests := true, laidLooks := .later }
def SectSaysCardSaid : Prop := Claim7.holds Tryz.pinned (.plain (OpenSpec.ofChange sectSaysSpec)) sectSaysCard

/-- THE TIED CARD OF 'frankinglaw17.SectBack'. -/
def sectBackCard : Claim7 := { stood := { row := sectBackRow, standIns := [], harness := (true, "b1e0bdd1b5bf2f684da657674ab6aaf4cc1c07154658991ccd305346355b5bb7"), looks := false }, kinds := [], alts := [], laidByText := true, laidKinds := [.data, .data, .data, .data, .pinned], laidTests := true, laidLooks := .later }
def SectBackCardSaid : Prop := Claim7.holds Tryz.pinned (.plain (OpenSpec.ofChange sectBackSpec)) sectBackCard

/-- THE TIED CARD OF 'frankinglaw17.SectNames'. -/
def sectNamesCard : Claim7 := { stood := { row := sectNamesRow, standIns := [], harness := (true, "b1e0bdd1b5bf2f684da657674ab6aaf4cc1c07154658991ccd305346355b5bb7"), looks := false }, kinds := [], alts := [], laidByText := true, laidKinds := [.data, .data, .data, .data, .pinned], laidTests := true, laidLooks := .later }
def SectNamesCardSaid : Prop := Claim7.holds Tryz.pinned (.plain (OpenSpec.ofChange sectNamesSpec)) sectNamesCard

/-- THE SECOND FORM's CARD OF 'frankinglaw17.SectKnown'. -/
def sectKnownUptoCard : Claim7 := { stood := { row := sectKnownUptoRow, standIns := [], harness := (true, "b1e0bdd1b5bf2f684da657674ab6aaf4cc1c07154658991ccd305346355b5bb7"), looks := false }, kinds := [], alts := [], laidByText := true, laidKinds := [.data, .data, .data, .data, .pinned], laidTests := true, laidLooks := .later }
def SectKnownUptoCardSaid : Prop := Claim7.holds Tryz.pinned (.plain (OpenSpec.upto sectKnownSpec)) sectKnownUptoCard

/-- THE SECOND FORM's CARD OF 'frankinglaw17.SectSays'. -/
def sectSaysUptoCard : Claim7 := { stood := { row := sectSaysUptoRow, standIns := [], harness := (true, "b1e0bdd1b5bf2f684da657674ab6aaf4cc1c07154658991ccd305346355b5bb7"), looks := false }, kinds := [], alts := [], laidByText := true, laidKinds := [.data, .data, .data, .data, .pinned], laidTests := true, laidLooks := .later }
def SectSaysUptoCardSaid : Prop := Claim7.holds Tryz.pinned (.plain (OpenSpec.upto sectSaysSpec)) sectSaysUptoCard

/-- THE SECOND FORM's CARD OF 'frankinglaw17.SectBack'. -/
def sectBackUptoCard : Claim7 := { stood := { row := sectBackUptoRow, standIns := [], harness := (true, "b1e0bdd1b5bf2f684da657674ab6aaf4cc1c07154658991ccd305346355b5bb7"), looks := false }, kinds := [], alts := [], laidByText := true, laidKinds := [.data, .data, .data, .data, .pinned], laidTests := true, laidLooks := .later }
def SectBackUptoCardSaid : Prop := Claim7.holds Tryz.pinned (.plain (OpenSpec.upto sectBackSpec)) sectBackUptoCard

/-- THE SECOND FORM's CARD OF 'frankinglaw17.SectNames'. -/
def sectNamesUptoCard : Claim7 := { stood := { row := sectNamesUptoRow, standIns := [], harness := (true, "b1e0bdd1b5bf2f684da657674ab6aaf4cc1c07154658991ccd305346355b5bb7"), looks := false }, kinds := [], alts := [], laidByText := true, laidKinds := [.data, .data, .data, .data, .pinned], laidTests := true, laidLooks := .later }
def SectNamesUptoCardSaid : Prop := Claim7.holds Tryz.pinned (.plain (OpenSpec.upto sectNamesSpec)) sectNamesUptoCard
end Rows
end Go.Proofs.YtefmlibcghjncaaGreatDoor
