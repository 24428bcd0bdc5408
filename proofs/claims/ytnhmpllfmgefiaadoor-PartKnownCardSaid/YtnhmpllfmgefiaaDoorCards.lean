/-
  DERIVED. GIVEN WITH THE SEED: THE CARDS: each row of YtnhmpllfmgefiaaDoorRows.lean that lists a variable, with what it lists TIED to the program's text (the seventh form; the later family's looks); each row that meets fmt, with fmt's text TOLD by the authors' own Lean function (tested against real Go, not proved from fmt's source: count such statements apart). THE CARD IS WHAT COUNTS. Prove the row's statement (the work); the ties are given (YtnhmpllfmgefiaaDoorTie.lean); close each card by the builder's one call (the guide's Derived/Test/ToyasCard.lean, 'card_holds'). Laid BY PROGRAM, IN A SANDBOX (cutbox-door.mjs). By AI agents, Wed Nov 11 2026. No macro, syntax, notation, axiom, sorry.
-/
import Derived.Test.YtnhmpllfmgefiaaDoorRows
import GoSem.ClaimSeven
namespace Go.Proofs.YtnhmpllfmgefiaaDoor
namespace Rows

/-- THE TIED CARD OF 'frankinglaw14.PartWithin'. -/
def partWithinCard : Claim7 := { stood := { row := partWithinRow, standIns := [], harness := (true, "34b4e746192f1d2857e408a76aff4b7825bed1342fbefadbe14ca0170dbe6609"), looks := false }, kinds := [], alts := [], laidByText := true, laidKinds := [.data, .pinned], laidTests := true, laidLooks := .later }
def PartWithinCardSaid : Prop := Claim7.holds Tryd.pinned (.plain (OpenSpec.ofChange partWithinSpec)) partWithinCard

/-- THE TIED CARD OF 'frankinglaw14.PartBuilt'. -/
def partBuiltCard : Claim7 := { stood := { row := partBuiltRow, standIns := [], harness := (true, "34b4e746192f1d2857e408a76aff4b7825bed1342fbefadbe14ca0170dbe6609"), looks := false }, kinds := [], alts := [], laidByText := true, laidKinds := [.data, .pinned], laidTests := true, laidLooks := .later }
def PartBuiltCardSaid : Prop := Claim7.holds Tryd.pinned (.plain (OpenSpec.ofChange partBuiltSpec)) partBuiltCard

/-- THE TIED CARD OF 'frankinglaw14.PartTypes'. -/
def partTypesCard : Claim7 := { stood := { row := partTypesRow, standIns := [], harness := (true, "34b4e746192f1d2857e408a76aff4b7825bed1342fbefadbe14ca0170dbe6609"), looks := false }, kinds := [], alts := [], laidByText := true, laidKinds := [.data, .pinned], laidTests := true, laidLooks := .later }
def PartTypesCardSaid : Prop := Claim7.holds Tryd.pinned (.plain (OpenSpec.ofChange partTypesSpec)) partTypesCard

/-- THE TIED CARD OF 'frankinglaw14.PartKnown'. -/
def partKnownCard : Claim7 := { stood := { row := partKnownRow, standIns := [], harness := (true, "34b4e746192f1d2857e408a76aff4b7825bed1342fbefadbe14ca0170dbe6609"), looks := false }, kinds := [], alts := [], laidByText := true, laidKinds := [.data, .pinned], laidTests := true, laidLooks := .later }
def PartKnownCardSaid : Prop := Claim7.holds Tryd.pinned (.plain (OpenSpec.ofChange partKnownSpec)) partKnownCard

/-- THE SECOND FORM's CARD OF 'frankinglaw14.PartWithin'. -/
def partWithinUptoCard : Claim7 := { stood := { row := partWithinUptoRow, standIns := [], harness := (true, "34b4e746192f1d2857e408a76aff4b7825bed1342fbefadbe14ca0170dbe6609"), looks := false }, kinds := [], alts := [], laidByText := true, laidKinds := [.data, .pinned], laidTests := true, laidLooks := .later }
def PartWithinUptoCardSaid : Prop := Claim7.holds Tryd.pinned (.plain (OpenSpec.upto partWithinSpec)) partWithinUptoCard

/-- THE SECOND FORM's CARD OF 'frankinglaw14.PartBuilt'. -/
def partBuiltUptoCard : Claim7 := { stood := { row := partBuiltUptoRow, standIns := [], harness := (true, "34b4e746192f1d2857e408a76aff4b7825bed1342fbefadbe14ca0170dbe6609"), looks := false }, kinds := [], alts := [], laidByText := true, laidKinds := [.data, .pinned], laidTests := true, laidLooks := .later }
def PartBuiltUptoCardSaid : Prop := Claim7.holds Tryd.pinned (.plain (OpenSpec.upto partBuiltSpec)) partBuiltUptoCard

/-- THE SECOND FORM's CARD OF 'frankinglaw14.PartTypes'. -/
def partTypesUptoCard : Claim7 := { stood := { row := partTypesUptoRow, standIns := [], harness := (true, "34b4e746192f1d2857e408a76aff4b7825bed1342fbefadbe14ca0170dbe6609"), looks := false }, kinds := [], alts := [], laidByText := true, laidKinds := [.data, .pinned], laidTests := true, laidLooks := .later }
def PartTypesUptoCardSaid : Prop := Claim7.holds Tryd.pinned (.plain (OpenSpec.upto partTypesSpec)) partTypesUptoCard

/-- THE SECOND FORM's CARD OF 'frankinglaw14.PartKnown'. -/
def partKnownUptoCard : Claim7 := { stood := { row := partKnownUptoRow, standIns := [], harness := (true, "34b4e746192f1d2857e408a76aff4b7825bed1342fbefadbe14ca0170dbe6609"), looks := false }, kinds := [], alts := [], laidByText := true, laidKinds := [.data, .pinned], laidTests := true, laidLooks := .later }
def PartKnownUptoCardSaid : Prop := Claim7.holds Tryd.pinned (.plain (OpenSpec.upto partKnownSpec)) partKnownUptoCard
end Rows
end Go.Proofs.YtnhmpllfmgefiaaDoor
