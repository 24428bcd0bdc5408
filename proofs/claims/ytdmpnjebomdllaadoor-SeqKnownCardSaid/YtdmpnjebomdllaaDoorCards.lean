/-
  DERIVED. GIVEN WITH THE SEED: THE CARDS: each row of YtdmpnjebomdllaaDoorRows.lean that lists a variable, with what it lists TIED to the program's text (the seventh form; the later family's looks); each row that meets fmt, with fmt's text TOLD by the authors' own Lean function (tested against real Go, not proved from fmt's source: count such statements apart). THE CARD IS WHAT COUNTS. Prove the row's statement (the work); the ties are given (YtdmpnjebomdllaaDoorTie.lean); close each card by the builder's one call (the guide's Derived/Test/ToyasCard.lean, 'card_holds'). Laid BY PROGRAM, IN A SANDBOX (cutbox-door.mjs). By AI agents, Wed Nov 11 2026. No macro, syntax, notation, axiom, sorry.
-/
import Derived.Test.YtdmpnjebomdllaaDoorRows
import GoSem.ClaimSeven
namespace Go.Proofs.YtdmpnjebomdllaaDoor
namespace Rows

/-- THE TIED CARD OF 'frankinglaw9.SeqBack'. -/
def seqBackCard : Claim7 := { stood := { row := seqBackRow, standIns := [], harness := (true, "e9a37422a28b21f78375b90b5bed9863c17c15d9a9178055dbefc4ee9a833d60"), looks := false }, kinds := [], alts := [], laidByText := true, laidKinds := [.data, .data, .data], laidTests := true, laidLooks := .later }
def SeqBackCardSaid : Prop := Claim7.holds Tryd.pinned (.plain (OpenSpec.ofChange seqBackSpec)) seqBackCard

/-- THE TIED CARD OF 'frankinglaw9.SeqOrder'. -/
def seqOrderCard : Claim7 := { stood := { row := seqOrderRow, standIns := [], harness := (true, "e9a37422a28b21f78375b90b5bed9863c17c15d9a9178055dbefc4ee9a833d60"), looks := false }, kinds := [], alts := [], laidByText := true, laidKinds := [.data, .data, .data], laidTests := true, laidLooks := .later }
def SeqOrderCardSaid : Prop := Claim7.holds Tryd.pinned (.plain (OpenSpec.ofChange seqOrderSpec)) seqOrderCard

/-- THE TIED CARD OF 'frankinglaw9.SeqKnown'. -/
def seqKnownCard : Claim7 := { stood := { row := seqKnownRow, standIns := [], harness := (true, "e9a37422a28b21f78375b90b5bed9863c17c15d9a9178055dbefc4ee9a833d60"), looks := false }, kinds := [], alts := [], laidByText := true, laidKinds := [.data, .data, .data], laidTests := true, laidLooks := .later }
def SeqKnownCardSaid : Prop := Claim7.holds Tryd.pinned (.plain (OpenSpec.ofChange seqKnownSpec)) seqKnownCard

/-- THE TIED CARD OF 'frankinglaw9.SeqSays'. -/
def seqSaysCard : Claim7 := { stood := { row := seqSaysRow, standIns := [], harness := (true, "e9a37422a28b21f78375b90b5bed9863c17c15d9a9178055dbefc4ee9a833d60"), looks := false }, kinds := [], alts := [], laidByText := true, laidKinds := [.data, .data, .data], laidTests := true, laidLooks := .later }
def SeqSaysCardSaid : Prop := Claim7.holds Tryd.pinned (.plain (OpenSpec.ofChange seqSaysSpec)) seqSaysCard

/-- THE TIED CARD OF 'frankinglaw9.SeqAll'. -/
def seqAllCard : Claim7 := { stood := { row := seqAllRow, standIns := [], harness := (true, "e9a37422a28b21f78375b90b5bed9863c17c15d9a9178055dbefc4ee9a833d60"), looks := false }, kinds := [], alts := [], laidByText := true, laidKinds := [.data, .data, .data], laidTests := true, laidLooks := .later }
def SeqAllCardSaid : Prop := Claim7.holds Tryd.pinned (.plain (OpenSpec.ofChange seqAllSpec)) seqAllCard

/-- THE SECOND FORM's CARD OF 'frankinglaw9.SeqBack'. -/
def seqBackUptoCard : Claim7 := { stood := { row := seqBackUptoRow, standIns := [], harness := (true, "e9a37422a28b21f78375b90b5bed9863c17c15d9a9178055dbefc4ee9a833d60"), looks := false }, kinds := [], alts := [], laidByText := true, laidKinds := [.data, .data, .data], laidTests := true, laidLooks := .later }
def SeqBackUptoCardSaid : Prop := Claim7.holds Tryd.pinned (.plain (OpenSpec.upto seqBackSpec)) seqBackUptoCard

/-- THE SECOND FORM's CARD OF 'frankinglaw9.SeqOrder'. -/
def seqOrderUptoCard : Claim7 := { stood := { row := seqOrderUptoRow, standIns := [], harness := (true, "e9a37422a28b21f78375b90b5bed9863c17c15d9a9178055dbefc4ee9a833d60"), looks := false }, kinds := [], alts := [], laidByText := true, laidKinds := [.data, .data, .data], laidTests := true, laidLooks := .later }
def SeqOrderUptoCardSaid : Prop := Claim7.holds Tryd.pinned (.plain (OpenSpec.upto seqOrderSpec)) seqOrderUptoCard

/-- THE SECOND FORM's CARD OF 'frankinglaw9.SeqKnown'. -/
def seqKnownUptoCard : Claim7 := { stood := { row := seqKnownUptoRow, standIns := [], harness := (true, "e9a37422a28b21f78375b90b5bed9863c17c15d9a9178055dbefc4ee9a833d60"), looks := false }, kinds := [], alts := [], laidByText := true, laidKinds := [.data, .data, .data], laidTests := true, laidLooks := .later }
def SeqKnownUptoCardSaid : Prop := Claim7.holds Tryd.pinned (.plain (OpenSpec.upto seqKnownSpec)) seqKnownUptoCard

/-- THE SECOND FORM's CARD OF 'frankinglaw9.SeqSays'. -/
def seqSaysUptoCard : Claim7 := { stood := { row := seqSaysUptoRow, standIns := [], harness := (true, "e9a37422a28b21f78375b90b5bed9863c17c15d9a9178055dbefc4ee9a833d60"), looks := false }, kinds := [], alts := [], laidByText := true, laidKinds := [.data, .data, .data], laidTests := true, laidLooks := .later }
def SeqSaysUptoCardSaid : Prop := Claim7.holds Tryd.pinned (.plain (OpenSpec.upto seqSaysSpec)) seqSaysUptoCard

/-- THE SECOND FORM's CARD OF 'frankinglaw9.SeqAll'. -/
def seqAllUptoCard : Claim7 := { stood := { row := seqAllUptoRow, standIns := [], harness := (true, "e9a37422a28b21f78375b90b5bed9863c17c15d9a9178055dbefc4ee9a833d60"), looks := false }, kinds := [], alts := [], laidByText := true, laidKinds := [.data, .data, .data], laidTests := true, laidLooks := .later }
def SeqAllUptoCardSaid : Prop := Claim7.holds Tryd.pinned (.plain (OpenSpec.upto seqAllSpec)) seqAllUptoCard
end Rows
end Go.Proofs.YtdmpnjebomdllaaDoor
