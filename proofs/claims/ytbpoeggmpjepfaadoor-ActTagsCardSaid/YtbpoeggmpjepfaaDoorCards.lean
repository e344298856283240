/-
  DERIVED. GIVEN WITH THE SEED: THE CARDS: each row of YtbpoeggmpjepfaaDoorRows.lean that lists a variable, with what it lists TIED to the program's text (the seventh form; the later family's looks); each row that meets fmt, with fmt's text TOLD by the authors' own Lean function (tested against real Go, not proved from fmt's source: count such statements apart). THE CARD IS WHAT COUNTS. Prove the row's statement (the work); the ties are given (YtbpoeggmpjepfaaDoorTie.lean); close each card by the builder's one call (the guide's Derived/Test/ToyasCard.lean, 'card_holds'). Laid BY PROGRAM, IN A SANDBOX (cutbox-door.mjs). By AI agents, Wed Nov 11 2026. No macro, syntax, notation, axiom, sorry.
-/
import Derived.Test.YtbpoeggmpjepfaaDoorRows
import GoSem.ClaimSeven
namespace Go.Proofs.YtbpoeggmpjepfaaDoor
namespace Rows

/-- THE TIED CARD OF 'intarsialaw27.ActEvals'. -/
def actEvalsCard : Claim7 := { stood := { row := actEvalsRow, standIns := [], harness := (true, "fa65fadc9d7b6e85c19613053693eadf765be6eb1a5acfc4c87b4581eb27c806"), looks := false }, kinds := [], alts := [], laidByText := true, laidKinds := [.data, .pinned], laidTests := true, laidLooks := .later }
def ActEvalsCardSaid : Prop := Claim7.holds Tryd.pinned (.plain (OpenSpec.ofChange actEvalsSpec)) actEvalsCard

/-- THE TIED CARD OF 'intarsialaw27.ActTags'. -/
def actTagsCard : Claim7 := { stood := { row := actTagsRow, standIns := [], harness := (true, "fa65fadc9d7b6e85c19613053693eadf765be6eb1a5acfc4c87b4581eb27c806"), looks := false }, kinds := [], alts := [], laidByText := true, laidKinds := [.data, .pinned], laidTests := true, laidLooks := .later }
def ActTagsCardSaid : Prop := Claim7.holds Tryd.pinned (.plain (OpenSpec.ofChange actTagsSpec)) actTagsCard

/-- THE TIED CARD OF 'intarsialaw27.ActSums'. -/
def actSumsCard : Claim7 := { stood := { row := actSumsRow, standIns := [], harness := (true, "fa65fadc9d7b6e85c19613053693eadf765be6eb1a5acfc4c87b4581eb27c806"), looks := false }, kinds := [], alts := [], laidByText := true, laidKinds := [.data, .pinned], laidTests := true, laidLooks := .later }
def ActSumsCardSaid : Prop := Claim7.holds Tryd.pinned (.plain (OpenSpec.ofChange actSumsSpec)) actSumsCard

/-- THE SECOND FORM's CARD OF 'intarsialaw27.ActEvals'. -/
def actEvalsUptoCard : Claim7 := { stood := { row := actEvalsUptoRow, standIns := [], harness := (true, "fa65fadc9d7b6e85c19613053693eadf765be6eb1a5acfc4c87b4581eb27c806"), looks := false }, kinds := [], alts := [], laidByText := true, laidKinds := [.data, .pinned], laidTests := true, laidLooks := .later }
def ActEvalsUptoCardSaid : Prop := Claim7.holds Tryd.pinned (.plain (OpenSpec.upto actEvalsSpec)) actEvalsUptoCard

/-- THE SECOND FORM's CARD OF 'intarsialaw27.ActTags'. -/
def actTagsUptoCard : Claim7 := { stood := { row := actTagsUptoRow, standIns := [], harness := (true, "fa65fadc9d7b6e85c19613053693eadf765be6eb1a5acfc4c87b4581eb27c806"), looks := false }, kinds := [], alts := [], laidByText := true, laidKinds := [.data, .pinned], laidTests := true, laidLooks := .later }
def ActTagsUptoCardSaid : Prop := Claim7.holds Tryd.pinned (.plain (OpenSpec.upto actTagsSpec)) actTagsUptoCard

/-- THE SECOND FORM's CARD OF 'intarsialaw27.ActSums'. -/
def actSumsUptoCard : Claim7 := { stood := { row := actSumsUptoRow, standIns := [], harness := (true, "fa65fadc9d7b6e85c19613053693eadf765be6eb1a5acfc4c87b4581eb27c806"), looks := false }, kinds := [], alts := [], laidByText := true, laidKinds := [.data, .pinned], laidTests := true, laidLooks := .later }
def ActSumsUptoCardSaid : Prop := Claim7.holds Tryd.pinned (.plain (OpenSpec.upto actSumsSpec)) actSumsUptoCard
end Rows
end Go.Proofs.YtbpoeggmpjepfaaDoor
