/-
  DERIVED. GIVEN WITH THE SEED: THE CARDS: each row of YtlnjokbnhnihoaaGreatDoorRows.lean that lists a variable, with what it lists TIED to the program's text (the seventh form; the later family's looks); each row that meets fmt, with fmt's text TOLD by the authors' own Lean function (tested against real Go, not proved from fmt's source: count such statements apart). THE CARD IS WHAT COUNTS. Prove the row's statement (the work); the ties are given (YtlnjokbnhnihoaaGreatDoorTie.lean); close each card by the builder's one call (the guide's Derived/Test/ToyasCard.lean, 'card_holds'). Laid BY PROGRAM, IN A SANDBOX (cutbox-door.mjs). By AI agents, Wed Nov 11 2026. No macro, syntax, notation, axiom, sorry.
-/
import Derived.Test.YtlnjokbnhnihoaaGreatDoorRows
import GoSem.ClaimSeven
namespace Go.Proofs.YtlnjokbnhnihoaaGreatDoor
namespace Rows

/-- THE TIED CARD OF 'frankinglaw16.BodsKnown'. -/
def bodsKnownCard : Claim7 := { stood := { row := bodsKnownRow, standIns := [], harness := (true, "462d27ce91b6743e60046dc21da4209faa9b047ea0d0840fbf7e187fa3004dbf"), looks := false }, kinds := [], alts := [], laidByText := true, laidKinds := [.data, .data, .data, .data, .pinned], laidTests := true, laidLooks := .later }
def BodsKnownCardSaid : Prop := Claim7.holds Tryz.pinned (.plain (OpenSpec.ofChange bodsKnownSpec)) bodsKnownCard

/-- THE TIED CARD OF 'frankinglaw16.BodsSays'. -/
def bodsSaysCard : Claim7 := { stood := { row := bodsSaysRow, standIns := [], harness := (true, "462d27ce91b6743e60046dc21da4209faa9b047ea0d0840fbf7e187fa3004dbf"), looks := false }, kinds := [], alts := [], laidByText := true, laidKinds := [.data, .data, .data, .data, .pinned], laidTests := true, laidLooks := .later }
def BodsSaysCardSaid : Prop := Claim7.holds Tryz.pinned (.plain (OpenSpec.ofChange bodsSaysSpec)) bodsSaysCard

/-- THE TIED CARD OF 'frankinglaw16.BodsKids'. -/
def bodsKidsCard : Claim7 := { stood := { row := bodsKidsRow, standIns := [], harness := (true, "462d27ce91b6743e60046dc21da4209faa9b047ea0d0840fbf7e187fa3004dbf"), looks := false }, kinds := [], alts := [], laidByText := true, laidKinds := [.data, .data, .data, .data, .pinned], laidTests := true, laidLooks := .later }
def BodsKidsCardSaid : Prop := Claim7.holds Tryz.pinned (.plain (OpenSpec.ofChange bodsKidsSpec)) bodsKidsCard

/-- THE TIED CARD OF 'frankinglaw16.BodsSizes'. -/
def bodsSizesCard : Claim7 := { stood := { row := bodsSizesRow, standIns := [], harness := (true, "462d27ce91b6743e60046dc21da4209faa9b047ea0d0840fbf7e187fa3004dbf"), looks := false }, kinds := [], alts := [], laidByText := true, laidKinds := [.data, .data, .data, .data, .pinned], laidTests := true, laidLooks := .later }
def BodsSizesCardSaid : Prop := Claim7.holds Tryz.pinned (.plain (OpenSpec.ofChange bodsSizesSpec)) bodsSizesCard

/-- THE SECOND FORM's CARD OF 'frankinglaw16.BodsKnown'. -/
def bodsKnownUptoCard : Claim7 := { stood := { row := bodsKnownUptoRow, standIns := [], harness := (true, "462d27ce91b6743e60046dc21da4209faa9b047ea0d0840fbf7e187fa3004dbf"), looks := false }, kinds := [], alts := [], laidByText := true, laidKinds := [.data, .data, .data, .data, .pinned], laidTests := true, laidLooks := .later }
def BodsKnownUptoCardSaid : Prop := Claim7.holds Tryz.pinned (.plain (OpenSpec.upto bodsKnownSpec)) bodsKnownUptoCard

/-- THE SECOND FORM's CARD OF 'frankinglaw16.BodsSays'. -/
def bodsSaysUptoCard : Claim7 := { stood := { row := bodsSaysUptoRow, standIns := [], harness := (true, "462d27ce91b6743e60046dc21da4209faa9b047ea0d0840fbf7e187fa3004dbf"), looks := false }, kinds := [], alts := [], laidByText := true, laidKinds := [.data, .data, .data, .data, .pinned], laidTests := true, laidLooks := .later }
def BodsSaysUptoCardSaid : Prop := Claim7.holds Tryz.pinned (.plain (OpenSpec.upto bodsSaysSpec)) bodsSaysUptoCard

/-- THE SECOND FORM's CARD OF 'frankinglaw16.BodsKids'. -/
def bodsKidsUptoCard : Claim7 := { stood := { row := bodsKidsUptoRow, standIns := [], harness := (true, "462d27ce91b6743e60046dc21da4209faa9b047ea0d0840fbf7e187fa3004dbf"), looks := false }, kinds := [], alts := [], laidByText := true, laidKinds := [.data, .data, .data, .data, .pinned], laidTests := true, laidLooks := .later }
def BodsKidsUptoCardSaid : Prop := Claim7.holds Tryz.pinned (.plain (OpenSpec.upto bodsKidsSpec)) bodsKidsUptoCard

/-- THE SECOND FORM's CARD OF 'frankinglaw16.BodsSizes'. -/
def bodsSizesUptoCard : Claim7 := { stood := { row := bodsSizesUptoRow, standIns := [], harness := (true, "462d27ce91b6743e60046dc21da4209faa9b047ea0d0840fbf7e187fa3004dbf"), looks := false }, kinds := [], alts := [], laidByText := true, laidKinds := [.data, .data, .data, .data, .pinned], laidTests := true, laidLooks := .later }
def BodsSizesUptoCardSaid : Prop := Claim7.holds Tryz.pinned (.plain (OpenSpec.upto bodsSizesSpec)) bodsSizesUptoCard
end Rows
end Go.Proofs.YtlnjokbnhnihoaaGreatDoor
