/-
  DERIVED. GIVEN WITH THE SEED: THE CARDS: each row of YtcpokdjppedaoaaDoorRows.lean that lists a variable, with what it lists TIED to the program's text (the seventh form; the later family's looks); each row that meets fmt, with fmt's text TOLD by the authors' own Lean function (tested against real Go, not proved from fmt's source: count such statements apart). THE CARD IS WHAT COUNTS. Prove the row's statement (the work); the ties are given (YtcpokdjppedaoaaDoorTie.lean); close each card by the builder's one call (the guide's Derived/Test/ToyasCard.lean, 'card_holds'). Laid BY PROGRAM, IN A SANDBOX (cutbox-door.mjs). By AI agents, Wed Nov 11 2026. No macro, syntax, notation, axiom, sorry.
-/
import Derived.Test.YtcpokdjppedaoaaDoorRows
import GoSem.ClaimSeven
namespace Go.Proofs.YtcpokdjppedaoaaDoor
namespace Rows

/-- THE TIED CARD OF 'intarsialaw18.ClassMakes'. -/
def classMakesCard : Claim7 := { stood := { row := classMakesRow, standIns := [], harness := (true, "f3c66e90d241c7b6c962bdd2cb62c3cd0e8934fb8591a80874ac7f3cdb821ab8"), looks := false }, kinds := [], alts := [], laidByText := true, laidKinds := [.data, .pinned], laidTests := true, laidLooks := .later }
def ClassMakesCardSaid : Prop := Claim7.holds Tryd.pinned (.plain (OpenSpec.ofChange classMakesSpec)) classMakesCard

/-- THE TIED CARD OF 'intarsialaw18.ClassLooks'. -/
def classLooksCard : Claim7 := { stood := { row := classLooksRow, standIns := [], harness := (true, "f3c66e90d241c7b6c962bdd2cb62c3cd0e8934fb8591a80874ac7f3cdb821ab8"), looks := false }, kinds := [], alts := [], laidByText := true, laidKinds := [.data, .pinned], laidTests := true, laidLooks := .later }
def ClassLooksCardSaid : Prop := Claim7.holds Tryd.pinned (.plain (OpenSpec.ofChange classLooksSpec)) classLooksCard

/-- THE TIED CARD OF 'intarsialaw18.ClassSets'. -/
def classSetsCard : Claim7 := { stood := { row := classSetsRow, standIns := [], harness := (true, "f3c66e90d241c7b6c962bdd2cb62c3cd0e8934fb8591a80874ac7f3cdb821ab8"), looks := false }, kinds := [], alts := [], laidByText := true, laidKinds := [.data, .pinned], laidTests := true, laidLooks := .later }
def ClassSetsCardSaid : Prop := Claim7.holds Tryd.pinned (.plain (OpenSpec.ofChange classSetsSpec)) classSetsCard

/-- THE TIED CARD OF 'intarsialaw18.ClassSame'. -/
def classSameCard : Claim7 := { stood := { row := classSameRow, standIns := [], harness := (true, "f3c66e90d241c7b6c962bdd2cb62c3cd0e8934fb8591a80874ac7f3cdb821ab8"), looks := false }, kinds := [], alts := [], laidByText := true, laidKinds := [.data, .pinned], laidTests := true, laidLooks := .later }
def ClassSameCardSaid : Prop := Claim7.holds Tryd.pinned (.plain (OpenSpec.ofChange classSameSpec)) classSameCard

/-- THE TIED CARD OF 'intarsialaw20.TestMatches'. -/
def testMatchesCard : Claim7 := { stood := { row := testMatchesRow, standIns := [], harness := (true, "f3c66e90d241c7b6c962bdd2cb62c3cd0e8934fb8591a80874ac7f3cdb821ab8"), looks := false }, kinds := [], alts := [], laidByText := true, laidKinds := [.data, .pinned], laidTests := true, laidLooks := .later }
def TestMatchesCardSaid : Prop := Claim7.holds Tryd.pinned (.plain (OpenSpec.ofChange testMatchesSpec)) testMatchesCard

/-- THE TIED CARD OF 'intarsialaw20.TestConsts'. -/
def testConstsCard : Claim7 := { stood := { row := testConstsRow, standIns := [], harness := (true, "f3c66e90d241c7b6c962bdd2cb62c3cd0e8934fb8591a80874ac7f3cdb821ab8"), looks := false }, kinds := [], alts := [], laidByText := true, laidKinds := [.data, .pinned], laidTests := true, laidLooks := .later }
def TestConstsCardSaid : Prop := Claim7.holds Tryd.pinned (.plain (OpenSpec.ofChange testConstsSpec)) testConstsCard

/-- THE SECOND FORM's CARD OF 'intarsialaw18.ClassMakes'. -/
def classMakesUptoCard : Claim7 := { stood := { row := classMakesUptoRow, standIns := [], harness := (true, "f3c66e90d241c7b6c962bdd2cb62c3cd0e8934fb8591a80874ac7f3cdb821ab8"), looks := false }, kinds := [], alts := [], laidByText := true, laidKinds := [.data, .pinned], laidTests := true, laidLooks := .later }
def ClassMakesUptoCardSaid : Prop := Claim7.holds Tryd.pinned (.plain (OpenSpec.upto classMakesSpec)) classMakesUptoCard

/-- THE SECOND FORM's CARD OF 'intarsialaw18.ClassLooks'. -/
def classLooksUptoCard : Claim7 := { stood := { row := classLooksUptoRow, standIns := [], harness := (true, "f3c66e90d241c7b6c962bdd2cb62c3cd0e8934fb8591a80874ac7f3cdb821ab8"), looks := false }, kinds := [], alts := [], laidByText := true, laidKinds := [.data, .pinned], laidTests := true, laidLooks := .later }
def ClassLooksUptoCardSaid : Prop := Claim7.holds Tryd.pinned (.plain (OpenSpec.upto classLooksSpec)) classLooksUptoCard

/-- THE SECOND FORM's CARD OF 'intarsialaw18.ClassSets'. -/
def classSetsUptoCard : Claim7 := { stood := { row := classSetsUptoRow, standIns := [], harness := (true, "f3c66e90d241c7b6c962bdd2cb62c3cd0e8934fb8591a80874ac7f3cdb821ab8"), looks := false }, kinds := [], alts := [], laidByText := true, laidKinds := [.data, .pinned], laidTests := true, laidLooks := .later }
def ClassSetsUptoCardSaid : Prop := Claim7.holds Tryd.pinned (.plain (OpenSpec.upto classSetsSpec)) classSetsUptoCard

/-- THE SECOND FORM's CARD OF 'intarsialaw18.ClassSame'. -/
def classSameUptoCard : Claim7 := { stood := { row := classSameUptoRow, standIns := [], harness := (true, "f3c66e90d241c7b6c962bdd2cb62c3cd0e8934fb8591a80874ac7f3cdb821ab8"), looks := false }, kinds := [], alts := [], laidByText := true, laidKinds := [.data, .pinned], laidTests := true, laidLooks := .later }
def ClassSameUptoCardSaid : Prop := Claim7.holds Tryd.pinned (.plain (OpenSpec.upto classSameSpec)) classSameUptoCard

/-- THE SECOND FORM's CARD OF 'intarsialaw20.TestMatches'. -/
def testMatchesUptoCard : Claim7 := { stood := { row := testMatchesUptoRow, standIns := [], harness := (true, "f3c66e90d241c7b6c962bdd2cb62c3cd0e8934fb8591a80874ac7f3cdb821ab8"), looks := false }, kinds := [], alts := [], laidByText := true, laidKinds := [.data, .pinned], laidTests := true, laidLooks := .later }
def TestMatchesUptoCardSaid : Prop := Claim7.holds Tryd.pinned (.plain (OpenSpec.upto testMatchesSpec)) testMatchesUptoCard

/-- THE SECOND FORM's CARD OF 'intarsialaw20.TestConsts'. -/
def testConstsUptoCard : Claim7 := { stood := { row := testConstsUptoRow, standIns := [], harness := (true, "f3c66e90d241c7b6c962bdd2cb62c3cd0e8934fb8591a80874ac7f3cdb821ab8"), looks := false }, kinds := [], alts := [], laidByText := true, laidKinds := [.data, .pinned], laidTests := true, laidLooks := .later }
def TestConstsUptoCardSaid : Prop := Claim7.holds Tryd.pinned (.plain (OpenSpec.upto testConstsSpec)) testConstsUptoCard
end Rows
end Go.Proofs.YtcpokdjppedaoaaDoor
