/-
  DERIVED. GIVEN WITH THE SEED: THE CARDS: each row of YtcanagkflbbmaaaGreatDoorRows.lean that lists a variable, with what it lists TIED to the program's text (the seventh form; the later family's looks); each row that meets fmt, with fmt's text TOLD by the authors' own Lean function (tested against real Go, not proved from fmt's source: count such statements apart). THE CARD IS WHAT COUNTS. Prove the row's statement (the work); the ties are given (YtcanagkflbbmaaaGreatDoorTie.lean); close each card by the builder's one call (the guide's Derived/Test/ToyasCard.lean, 'card_holds'). Laid BY PROGRAM, IN A SANDBOX (cutbox-door.mjs). By AI agents, Wed Nov 11 2026. No macro, syntax, notation, axiom, sorry.
-/
import Derived.Test.YtcanagkflbbmaaaGreatDoorRows
import GoSem.ClaimSeven
namespace Go.Proofs.YtcanagkflbbmaaaGreatDoor
namespace Rows

/-- THE TIED CARD OF 'frankinglaw23.CmdSays'. -/
def cmdSaysCard : Claim7 := { stood := { row := cmdSaysRow, standIns := [], harness := (true, "86f6793b01cfb7a94b98b8a3abeff0b4755910bf26f75bf56322d6a0472927cd"), looks := false }, kinds := [], alts := [], laidByText := true, laidKinds := [.data, .data, .data, .data, .pinned], laidTests := true, laidLooks := .later }
def CmdSaysCardSaid : Prop := Claim7.holds Tryz.pinned (.plain (OpenSpec.ofChange cmdSaysSpec)) cmdSaysCard

/-- THE SECOND FORM's CARD OF 'frankinglaw23.CmdSays'. -/
def cmdSaysUptoCard : Claim7 := { stood := { row := cmdSaysUptoRow, standIns := [], harness := (true, "86f6793b01cfb7a94b98b8a3abeff0b4755910bf26f75bf56322d6a0472927cd"), looks := false }, kinds := [], alts := [], laidByText := true, laidKinds := [.data, .data, .data, .data, .pinned], laidTests := true, laidLooks := .later }
def CmdSaysUptoCardSaid : Prop := Claim7.holds Tryz.pinned (.plain (OpenSpec.upto cmdSaysSpec)) cmdSaysUptoCard
end Rows
end Go.Proofs.YtcanagkflbbmaaaGreatDoor
