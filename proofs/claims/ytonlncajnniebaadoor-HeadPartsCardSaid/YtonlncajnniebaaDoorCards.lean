/-
  DERIVED. GIVEN WITH THE SEED: THE CARDS: each row of YtonlncajnniebaaDoorRows.lean that lists a variable, with what it lists TIED to the program's text (the seventh form; the later family's looks); each row that meets fmt, with fmt's text TOLD by the authors' own Lean function (tested against real Go, not proved from fmt's source: count such statements apart). THE CARD IS WHAT COUNTS. Prove the row's statement (the work); the ties are given (YtonlncajnniebaaDoorTie.lean); close each card by the builder's one call (the guide's Derived/Test/ToyasCard.lean, 'card_holds'). Laid BY PROGRAM, IN A SANDBOX (cutbox-door.mjs). By AI agents, Wed Nov 11 2026. No macro, syntax, notation, axiom, sorry.
-/
import Derived.Test.YtonlncajnniebaaDoorRows
import GoSem.ClaimSeven
namespace Go.Proofs.YtonlncajnniebaaDoor
namespace Rows

/-- THE TIED CARD OF 'frankinglaw11.HeadBuilt'. -/
def headBuiltCard : Claim7 := { stood := { row := headBuiltRow, standIns := [], harness := (true, "4dda02e6f86d06a7103b2963a415b34bb1b764f51697609c85932adde7a460d9"), looks := false }, kinds := [], alts := [], laidByText := true, laidKinds := [.data, .pinned], laidTests := true, laidLooks := .later }
def HeadBuiltCardSaid : Prop := Claim7.holds Tryd.pinned (.plain (OpenSpec.ofChange headBuiltSpec)) headBuiltCard

/-- THE TIED CARD OF 'frankinglaw11.HeadFolds'. -/
def headFoldsCard : Claim7 := { stood := { row := headFoldsRow, standIns := [], harness := (true, "4dda02e6f86d06a7103b2963a415b34bb1b764f51697609c85932adde7a460d9"), looks := false }, kinds := [], alts := [], laidByText := true, laidKinds := [.data, .pinned], laidTests := true, laidLooks := .later }
def HeadFoldsCardSaid : Prop := Claim7.holds Tryd.pinned (.plain (OpenSpec.ofChange headFoldsSpec)) headFoldsCard

/-- THE TIED CARD OF 'frankinglaw11.HeadKnown'. -/
def headKnownCard : Claim7 := { stood := { row := headKnownRow, standIns := [], harness := (true, "4dda02e6f86d06a7103b2963a415b34bb1b764f51697609c85932adde7a460d9"), looks := false }, kinds := [], alts := [], laidByText := true, laidKinds := [.data, .pinned], laidTests := true, laidLooks := .later }
def HeadKnownCardSaid : Prop := Claim7.holds Tryd.pinned (.plain (OpenSpec.ofChange headKnownSpec)) headKnownCard

/-- THE TIED CARD OF 'frankinglaw11.HeadSays'. -/
def headSaysCard : Claim7 := { stood := { row := headSaysRow, standIns := [], harness := (true, "4dda02e6f86d06a7103b2963a415b34bb1b764f51697609c85932adde7a460d9"), looks := false }, kinds := [], alts := [], laidByText := true, laidKinds := [.data, .pinned], laidTests := true, laidLooks := .later }
def HeadSaysCardSaid : Prop := Claim7.holds Tryd.pinned (.plain (OpenSpec.ofChange headSaysSpec)) headSaysCard

/-- THE TIED CARD OF 'frankinglaw11.HeadParts'. -/
def headPartsCard : Claim7 := { stood := { row := headPartsRow, standIns := [], harness := (true, "4dda02e6f86d06a7103b2963a415b34bb1b764f51697609c85932adde7a460d9"), looks := false }, kinds := [], alts := [], laidByText := true, laidKinds := [.data, .pinned], laidTests := true, laidLooks := .later }
def HeadPartsCardSaid : Prop := Claim7.holds Tryd.pinned (.plain (OpenSpec.ofChange headPartsSpec)) headPartsCard

/-- THE SECOND FORM's CARD OF 'frankinglaw11.HeadBuilt'. -/
def headBuiltUptoCard : Claim7 := { stood := { row := headBuiltUptoRow, standIns := [], harness := (true, "4dda02e6f86d06a7103b2963a415b34bb1b764f51697609c85932adde7a460d9"), looks := false }, kinds := [], alts := [], laidByText := true, laidKinds := [.data, .pinned], laidTests := true, laidLooks := .later }
def HeadBuiltUptoCardSaid : Prop := Claim7.holds Tryd.pinned (.plain (OpenSpec.upto headBuiltSpec)) headBuiltUptoCard

/-- THE SECOND FORM's CARD OF 'frankinglaw11.HeadFolds'. -/
def headFoldsUptoCard : Claim7 := { stood := { row := headFoldsUptoRow, standIns := [], harness := (true, "4dda02e6f86d06a7103b2963a415b34bb1b764f51697609c85932adde7a460d9"), looks := false }, kinds := [], alts := [], laidByText := true, laidKinds := [.data, .pinned], laidTests := true, laidLooks := .later }
def HeadFoldsUptoCardSaid : Prop := Claim7.holds Tryd.pinned (.plain (OpenSpec.upto headFoldsSpec)) headFoldsUptoCard

/-- THE SECOND FORM's CARD OF 'frankinglaw11.HeadKnown'. -/
def headKnownUptoCard : Claim7 := { stood := { row := headKnownUptoRow, standIns := [], harness := (true, "4dda02e6f86d06a7103b2963a415b34bb1b764f51697609c85932adde7a460d9"), looks := false }, kinds := [], alts := [], laidByText := true, laidKinds := [.data, .pinned], laidTests := true, laidLooks := .later }
def HeadKnownUptoCardSaid : Prop := Claim7.holds Tryd.pinned (.plain (OpenSpec.upto headKnownSpec)) headKnownUptoCard

/-- THE SECOND FORM's CARD OF 'frankinglaw11.HeadSays'. -/
def headSaysUptoCard : Claim7 := { stood := { row := headSaysUptoRow, standIns := [], harness := (true, "4dda02e6f86d06a7103b2963a415b34bb1b764f51697609c85932adde7a460d9"), looks := false }, kinds := [], alts := [], laidByText := true, laidKinds := [.data, .pinned], laidTests := true, laidLooks := .later }
def HeadSaysUptoCardSaid : Prop := Claim7.holds Tryd.pinned (.plain (OpenSpec.upto headSaysSpec)) headSaysUptoCard

/-- THE SECOND FORM's CARD OF 'frankinglaw11.HeadParts'. -/
def headPartsUptoCard : Claim7 := { stood := { row := headPartsUptoRow, standIns := [], harness := (true, "4dda02e6f86d06a7103b2963a415b34bb1b764f51697609c85932adde7a460d9"), looks := false }, kinds := [], alts := [], laidByText := true, laidKinds := [.data, .pinned], laidTests := true, laidLooks := .later }
def HeadPartsUptoCardSaid : Prop := Claim7.holds Tryd.pinned (.plain (OpenSpec.upto headPartsSpec)) headPartsUptoCard
end Rows
end Go.Proofs.YtonlncajnniebaaDoor
