/-
  DERIVED. GIVEN WITH THE SEED: THE CARDS: each row of YtocdhndbpgfmiaaDoorRows.lean that lists a variable, with what it lists TIED to the program's text (the seventh form; the later family's looks); each row that meets fmt, with fmt's text TOLD by the authors' own Lean function (tested against real Go, not proved from fmt's source: count such statements apart). THE CARD IS WHAT COUNTS. Prove the row's statement (the work); the ties are given (YtocdhndbpgfmiaaDoorTie.lean); close each card by the builder's one call (the guide's Derived/Test/ToyasCard.lean, 'card_holds'). Laid BY PROGRAM, IN A SANDBOX (cutbox-door.mjs). By AI agents, Wed Nov 11 2026. No macro, syntax, notation, axiom, sorry.
-/
import Derived.Test.YtocdhndbpgfmiaaDoorRows
import GoSem.ClaimSeven
namespace Go.Proofs.YtocdhndbpgfmiaaDoor
namespace Rows

/-- THE TIED CARD OF 'frankinglaw15.EnvlKnown'. -/
def envlKnownCard : Claim7 := { stood := { row := envlKnownRow, standIns := [], harness := (true, "28ca315273669a522ec219d6b7106d974e852e0f9031fabf63450f40391c9d63"), looks := false }, kinds := [], alts := [], laidByText := true, laidKinds := [.data, .data, .data, .data, .pinned], laidTests := true, laidLooks := .later }
def EnvlKnownCardSaid : Prop := Claim7.holds Tryd.pinned (.plain (OpenSpec.ofChange envlKnownSpec)) envlKnownCard

/-- THE TIED CARD OF 'frankinglaw15.EnvlBody'. -/
def envlBodyCard : Claim7 := { stood := { row := envlBodyRow, standIns := [], harness := (true, "28ca315273669a522ec219d6b7106d974e852e0f9031fabf63450f40391c9d63"), looks := false }, kinds := [], alts := [], laidByText := true, laidKinds := [.data, .data, .data, .data, .pinned], laidTests := true, laidLooks := .later }
def EnvlBodyCardSaid : Prop := Claim7.holds Tryd.pinned (.plain (OpenSpec.ofChange envlBodySpec)) envlBodyCard

/-- THE TIED CARD OF 'frankinglaw15.EnvlBuilt'. -/
def envlBuiltCard : Claim7 := { stood := { row := envlBuiltRow, standIns := [], harness := (true, "28ca315273669a522ec219d6b7106d974e852e0f9031fabf63450f40391c9d63"), looks := false }, kinds := [], alts := [], laidByText := true, laidKinds := [.data, .data, .data, .data, .pinned], laidTests := true, laidLooks := .later }
def EnvlBuiltCardSaid : Prop := Claim7.holds Tryd.pinned (.plain (OpenSpec.ofChange envlBuiltSpec)) envlBuiltCard

/-- THE SECOND FORM's CARD OF 'frankinglaw15.EnvlKnown'. -/
def envlKnownUptoCard : Claim7 := { stood := { row := envlKnownUptoRow, standIns := [], harness := (true, "28ca315273669a522ec219d6b7106d974e852e0f9031fabf63450f40391c9d63"), looks := false }, kinds := [], alts := [], laidByText := true, laidKinds := [.data, .data, .data, .data, .pinned], laidTests := true, laidLooks := .later }
def EnvlKnownUptoCardSaid : Prop := Claim7.holds Tryd.pinned (.plain (OpenSpec.upto envlKnownSpec)) envlKnownUptoCard

/-- THE SECOND FORM's CARD OF 'frankinglaw15.EnvlBody'. -/
def envlBodyUptoCard : Claim7 := { stood := { row := envlBodyUptoRow, standIns := [], harness := (true, "28ca315273669a522ec219d6b7106d974e852e0f9031fabf63450f40391c9d63"), looks := false }, kinds := [], alts := [], laidByText := true, laidKinds := [.data, .data, .data, .data, .pinned], laidTests := true, laidLooks := .later }
def EnvlBodyUptoCardSaid : Prop := Claim7.holds Tryd.pinned (.plain (OpenSpec.upto envlBodySpec)) envlBodyUptoCard

/-- THE SECOND FORM's CARD OF 'frankinglaw15.EnvlBuilt'. -/
def envlBuiltUptoCard : Claim7 := { stood := { row := envlBuiltUptoRow, standIns := [], harness := (true, "28ca315273669a522ec219d6b7106d974e852e0f9031fabf63450f40391c9d63"), looks := false }, kinds := [], alts := [], laidByText := true, laidKinds := [.data, .data, .data, .data, .pinned], laidTests := true, laidLooks := .later }
def EnvlBuiltUptoCardSaid : Prop := Claim7.holds Tryd.pinned (.plain (OpenSpec.upto envlBuiltSpec)) envlBuiltUptoCard
end Rows
end Go.Proofs.YtocdhndbpgfmiaaDoor
