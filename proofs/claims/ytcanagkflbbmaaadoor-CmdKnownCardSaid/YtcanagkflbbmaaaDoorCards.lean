/-
  DERIVED. GIVEN WITH THE SEED: THE CARDS: each row of YtcanagkflbbmaaaDoorRows.lean that lists a variable, with what it lists TIED to the program's text (the seventh form; the later family's looks); each row that meets fmt, with fmt's text TOLD by the authors' own Lean function (tested against real Go, not proved from fmt's source: count such statements apart). THE CARD IS WHAT COUNTS. Prove the row's statement (the work); the ties are given (YtcanagkflbbmaaaDoorTie.lean); close each card by the builder's one call (the guide's Derived/Test/ToyasCard.lean, 'card_holds'). Laid BY PROGRAM, IN A SANDBOX (cutbox-door.mjs). By AI agents, Wed Nov 11 2026. No macro, syntax, notation, axiom, sorry.
-/
import Derived.Test.YtcanagkflbbmaaaDoorRows
import GoSem.ClaimSeven
namespace Go.Proofs.YtcanagkflbbmaaaDoor
namespace Rows

/-- THE TIED CARD OF 'frankinglaw23.CmdChunks'. -/
def cmdChunksCard : Claim7 := { stood := { row := cmdChunksRow, standIns := [], harness := (true, "e7b997b7e58be20de1991f1be982651de558e8d5666004abe80552d6e70cff66"), looks := false }, kinds := [], alts := [], laidByText := true, laidKinds := [.data, .data, .data, .data, .pinned], laidTests := true, laidLooks := .later }
def CmdChunksCardSaid : Prop := Claim7.holds Tryd.pinned (.plain (OpenSpec.ofChange cmdChunksSpec)) cmdChunksCard

/-- THE TIED CARD OF 'frankinglaw23.CmdBack'. -/
def cmdBackCard : Claim7 := { stood := { row := cmdBackRow, standIns := [], harness := (true, "e7b997b7e58be20de1991f1be982651de558e8d5666004abe80552d6e70cff66"), looks := false }, kinds := [], alts := [], laidByText := true, laidKinds := [.data, .data, .data, .data, .pinned], laidTests := true, laidLooks := .later }
def CmdBackCardSaid : Prop := Claim7.holds Tryd.pinned (.plain (OpenSpec.ofChange cmdBackSpec)) cmdBackCard

/-- THE TIED CARD OF 'frankinglaw23.CmdShows'. -/
def cmdShowsCard : Claim7 := { stood := { row := cmdShowsRow, standIns := [], harness := (true, "e7b997b7e58be20de1991f1be982651de558e8d5666004abe80552d6e70cff66"), looks := false }, kinds := [], alts := [], laidByText := true, laidKinds := [.data, .data, .data, .data, .pinned], laidTests := true, laidLooks := .later }
def CmdShowsCardSaid : Prop := Claim7.holds Tryd.pinned (.plain (OpenSpec.ofChange cmdShowsSpec)) cmdShowsCard

/-- THE TIED CARD OF 'frankinglaw23.CmdNames'. -/
def cmdNamesCard : Claim7 := { stood := { row := cmdNamesRow, standIns := [], harness := (true, "e7b997b7e58be20de1991f1be982651de558e8d5666004abe80552d6e70cff66"), looks := false }, kinds := [], alts := [], laidByText := true, laidKinds := [.data, .data, .data, .data, .pinned], laidTests := true, laidLooks := .later }
def CmdNamesCardSaid : Prop := Claim7.holds Tryd.pinned (.plain (OpenSpec.ofChange cmdNamesSpec)) cmdNamesCard

/-- THE TIED CARD OF 'frankinglaw23.CmdKnown'. -/
def cmdKnownCard : Claim7 := { stood := { row := cmdKnownRow, standIns := [], harness := (true, "e7b997b7e58be20de1991f1be982651de558e8d5666004abe80552d6e70cff66"), looks := false }, kinds := [], alts := [], laidByText := true, laidKinds := [.data, .data, .data, .data, .pinned], laidTests := true, laidLooks := .later }
def CmdKnownCardSaid : Prop := Claim7.holds Tryd.pinned (.plain (OpenSpec.ofChange cmdKnownSpec)) cmdKnownCard

/-- THE TIED CARD OF 'frankinglaw23.CmdLiterals'. -/
def cmdLiteralsCard : Claim7 := { stood := { row := cmdLiteralsRow, standIns := [], harness := (true, "e7b997b7e58be20de1991f1be982651de558e8d5666004abe80552d6e70cff66"), looks := false }, kinds := [], alts := [], laidByText := true, laidKinds := [.data, .data, .data, .data, .pinned], laidTests := true, laidLooks := .later }
def CmdLiteralsCardSaid : Prop := Claim7.holds Tryd.pinned (.plain (OpenSpec.ofChange cmdLiteralsSpec)) cmdLiteralsCard

/-- THE SECOND FORM's CARD OF 'frankinglaw23.CmdChunks'. -/
def cmdChunksUptoCard : Claim7 := { stood := { row := cmdChunksUptoRow, standIns := [], harness := (true, "e7b997b7e58be20de1991f1be982651de558e8d5666004abe80552d6e70cff66"), looks := false }, kinds := [], alts := [], laidByText := true, laidKinds := [.data, .data, .data, .data, .pinned], laidTests := true, laidLooks := .later }
def CmdChunksUptoCardSaid : Prop := Claim7.holds Tryd.pinned (.plain (OpenSpec.upto cmdChunksSpec)) cmdChunksUptoCard

/-- THE SECOND FORM's CARD OF 'frankinglaw23.CmdBack'. -/
def cmdBackUptoCard : Claim7 := { stood := { row := cmdBackUptoRow, standIns := [], harness := (true, "e7b997b7e58be20de1991f1be982651de558e8d5666004abe80552d6e70cff66"), looks := false }, kinds := [], alts := [], laidByText := true, laidKinds := [.data, .data, .data, .data, .pinned], laidTests := true, laidLooks := .later }
def CmdBackUptoCardSaid : Prop := Claim7.holds Tryd.pinned (.plain (OpenSpec.upto cmdBackSpec)) cmdBackUptoCard

/-- THE SECOND FORM's CARD OF 'frankinglaw23.CmdShows'. -/
def cmdShowsUptoCard : Claim7 := { stood := { row := cmdShowsUptoRow, standIns := [], harness := (true, "e7b997b7e58be20de1991f1be982651de558e8d5666004abe80552d6e70cff66"), looks := false }, kinds := [], alts := [], laidByText := true, laidKinds := [.data, .data, .data, .data, .pinned], laidTests := true, laidLooks := .later }
def CmdShowsUptoCardSaid : Prop := Claim7.holds Tryd.pinned (.plain (OpenSpec.upto cmdShowsSpec)) cmdShowsUptoCard

/-- THE SECOND FORM's CARD OF 'frankinglaw23.CmdNames'. -/
def cmdNamesUptoCard : Claim7 := { stood := { row := cmdNamesUptoRow, standIns := [], harness := (true, "e7b997b7e58be20de1991f1be982651de558e8d5666004abe80552d6e70cff66"), looks := false }, kinds := [], alts := [], laidByText := true, laidKinds := [.data, .data, .data, .data, .pinned], laidTests := true, laidLooks := .later }
def CmdNamesUptoCardSaid : Prop := Claim7.holds Tryd.pinned (.plain (OpenSpec.upto cmdNamesSpec)) cmdNamesUptoCard

/-- THE SECOND FORM's CARD OF 'frankinglaw23.CmdKnown'. -/
def cmdKnownUptoCard : Claim7 := { stood := { row := cmdKnownUptoRow, standIns := [], harness := (true, "e7b997b7e58be20de1991f1be982651de558e8d5666004abe80552d6e70cff66"), looks := false }, kinds := [], alts := [], laidByText := true, laidKinds := [.data, .data, .data, .data, .pinned], laidTests := true, laidLooks := .later }
def CmdKnownUptoCardSaid : Prop := Claim7.holds Tryd.pinned (.plain (OpenSpec.upto cmdKnownSpec)) cmdKnownUptoCard

/-- THE SECOND FORM's CARD OF 'frankinglaw23.CmdLiterals'. -/
def cmdLiteralsUptoCard : Claim7 := { stood := { row := cmdLiteralsUptoRow, standIns := [], harness := (true, "e7b997b7e58be20de1991f1be982651de558e8d5666004abe80552d6e70cff66"), looks := false }, kinds := [], alts := [], laidByText := true, laidKinds := [.data, .data, .data, .data, .pinned], laidTests := true, laidLooks := .later }
def CmdLiteralsUptoCardSaid : Prop := Claim7.holds Tryd.pinned (.plain (OpenSpec.upto cmdLiteralsSpec)) cmdLiteralsUptoCard
end Rows
end Go.Proofs.YtcanagkflbbmaaaDoor
