/-
  DERIVED. GIVEN WITH THE SEED: THE CARDS: each row of YtddljegbggncdaaDoorRows.lean that lists a variable, with what it lists TIED to the program's text (the seventh form; the later family's looks); each row that meets fmt, with fmt's text TOLD by the authors' own Lean function (tested against real Go, not proved from fmt's source: count such statements apart). THE CARD IS WHAT COUNTS. Prove the row's statement (the work); the ties are given (YtddljegbggncdaaDoorTie.lean); close each card by the builder's one call (the guide's Derived/Test/ToyasCard.lean, 'card_holds'). Laid BY PROGRAM, IN A SANDBOX (cutbox-door.mjs). By AI agents, Wed Nov 11 2026. No macro, syntax, notation, axiom, sorry.
-/
import Derived.Test.YtddljegbggncdaaDoorRows
import GoSem.ClaimSeven
namespace Go.Proofs.YtddljegbggncdaaDoor
namespace Rows

/-- THE TIED CARD OF 'intarsialaw20.TestMatches'. -/
def testMatchesCard : Claim7 := { stood := { row := testMatchesRow, standIns := [], harness := (true, "5f7c6e1a465330b5cde43e4b1f9b6fda7227c34fb51e3add9ecea27507827231"), looks := false }, kinds := [], alts := [], laidByText := true, laidKinds := [.data, .pinned], laidTests := true, laidLooks := .later }
def TestMatchesCardSaid : Prop := Claim7.holds Tryd.pinned (.plain (OpenSpec.ofChange testMatchesSpec)) testMatchesCard

/-- THE TIED CARD OF 'intarsialaw20.TestConsts'. -/
def testConstsCard : Claim7 := { stood := { row := testConstsRow, standIns := [], harness := (true, "5f7c6e1a465330b5cde43e4b1f9b6fda7227c34fb51e3add9ecea27507827231"), looks := false }, kinds := [], alts := [], laidByText := true, laidKinds := [.data, .pinned], laidTests := true, laidLooks := .later }
def TestConstsCardSaid : Prop := Claim7.holds Tryd.pinned (.plain (OpenSpec.ofChange testConstsSpec)) testConstsCard

/-- THE TIED CARD OF 'intarsialaw20.TestPasses'. -/
def testPassesCard : Claim7 := { stood := { row := testPassesRow, standIns := [], harness := (true, "5f7c6e1a465330b5cde43e4b1f9b6fda7227c34fb51e3add9ecea27507827231"), looks := false }, kinds := [], alts := [], laidByText := true, laidKinds := [.data, .pinned], laidTests := true, laidLooks := .later }
def TestPassesCardSaid : Prop := Claim7.holds Tryd.pinned (.plain (OpenSpec.ofChange testPassesSpec)) testPassesCard

/-- THE TIED CARD OF 'intarsialaw20.TestAgain'. -/
def testAgainCard : Claim7 := { stood := { row := testAgainRow, standIns := [], harness := (true, "5f7c6e1a465330b5cde43e4b1f9b6fda7227c34fb51e3add9ecea27507827231"), looks := false }, kinds := [], alts := [], laidByText := true, laidKinds := [.data, .pinned], laidTests := true, laidLooks := .later }
def TestAgainCardSaid : Prop := Claim7.holds Tryd.pinned (.plain (OpenSpec.ofChange testAgainSpec)) testAgainCard

/-- THE TIED CARD OF 'intarsialaw19.FactKeys'. -/
def factKeysCard : Claim7 := { stood := { row := factKeysRow, standIns := [], harness := (true, "5f7c6e1a465330b5cde43e4b1f9b6fda7227c34fb51e3add9ecea27507827231"), looks := false }, kinds := [], alts := [], laidByText := true, laidKinds := [.data, .pinned], laidTests := true, laidLooks := .later }
def FactKeysCardSaid : Prop := Claim7.holds Tryd.pinned (.plain (OpenSpec.ofChange factKeysSpec)) factKeysCard

/-- THE TIED CARD OF 'intarsialaw19.FactPuts'. -/
def factPutsCard : Claim7 := { stood := { row := factPutsRow, standIns := [], harness := (true, "5f7c6e1a465330b5cde43e4b1f9b6fda7227c34fb51e3add9ecea27507827231"), looks := false }, kinds := [], alts := [], laidByText := true, laidKinds := [.data, .pinned], laidTests := true, laidLooks := .later }
def FactPutsCardSaid : Prop := Claim7.holds Tryd.pinned (.plain (OpenSpec.ofChange factPutsSpec)) factPutsCard

/-- THE TIED CARD OF 'intarsialaw19.FactBack'. -/
def factBackCard : Claim7 := { stood := { row := factBackRow, standIns := [], harness := (true, "5f7c6e1a465330b5cde43e4b1f9b6fda7227c34fb51e3add9ecea27507827231"), looks := false }, kinds := [], alts := [], laidByText := true, laidKinds := [.data, .pinned], laidTests := true, laidLooks := .later }
def FactBackCardSaid : Prop := Claim7.holds Tryd.pinned (.plain (OpenSpec.ofChange factBackSpec)) factBackCard

/-- THE TIED CARD OF 'intarsialaw14.LexScans'. -/
def lexScansCard : Claim7 := { stood := { row := lexScansRow, standIns := [], harness := (true, "5f7c6e1a465330b5cde43e4b1f9b6fda7227c34fb51e3add9ecea27507827231"), looks := false }, kinds := [], alts := [], laidByText := true, laidKinds := [.data, .pinned], laidTests := true, laidLooks := .later }
def LexScansCardSaid : Prop := Claim7.holds Tryd.pinned (.plain (OpenSpec.ofChange lexScansSpec)) lexScansCard

/-- THE TIED CARD OF 'intarsialaw14.LexTexts'. -/
def lexTextsCard : Claim7 := { stood := { row := lexTextsRow, standIns := [], harness := (true, "5f7c6e1a465330b5cde43e4b1f9b6fda7227c34fb51e3add9ecea27507827231"), looks := false }, kinds := [], alts := [], laidByText := true, laidKinds := [.data, .pinned], laidTests := true, laidLooks := .later }
def LexTextsCardSaid : Prop := Claim7.holds Tryd.pinned (.plain (OpenSpec.ofChange lexTextsSpec)) lexTextsCard

/-- THE TIED CARD OF 'intarsialaw14.LexBack'. -/
def lexBackCard : Claim7 := { stood := { row := lexBackRow, standIns := [], harness := (true, "5f7c6e1a465330b5cde43e4b1f9b6fda7227c34fb51e3add9ecea27507827231"), looks := false }, kinds := [], alts := [], laidByText := true, laidKinds := [.data, .pinned], laidTests := true, laidLooks := .later }
def LexBackCardSaid : Prop := Claim7.holds Tryd.pinned (.plain (OpenSpec.ofChange lexBackSpec)) lexBackCard

/-- THE TIED CARD OF 'intarsialaw14.LexPlaces'. -/
def lexPlacesCard : Claim7 := { stood := { row := lexPlacesRow, standIns := [], harness := (true, "5f7c6e1a465330b5cde43e4b1f9b6fda7227c34fb51e3add9ecea27507827231"), looks := false }, kinds := [], alts := [], laidByText := true, laidKinds := [.data, .pinned], laidTests := true, laidLooks := .later }
def LexPlacesCardSaid : Prop := Claim7.holds Tryd.pinned (.plain (OpenSpec.ofChange lexPlacesSpec)) lexPlacesCard

/-- THE TIED CARD OF 'intarsialaw14.LexJoins'. -/
def lexJoinsCard : Claim7 := { stood := { row := lexJoinsRow, standIns := [], harness := (true, "5f7c6e1a465330b5cde43e4b1f9b6fda7227c34fb51e3add9ecea27507827231"), looks := false }, kinds := [], alts := [], laidByText := true, laidKinds := [.data, .pinned], laidTests := true, laidLooks := .later }
def LexJoinsCardSaid : Prop := Claim7.holds Tryd.pinned (.plain (OpenSpec.ofChange lexJoinsSpec)) lexJoinsCard

/-- THE SECOND FORM's CARD OF 'intarsialaw20.TestMatches'. -/
def testMatchesUptoCard : Claim7 := { stood := { row := testMatchesUptoRow, standIns := [], harness := (true, "5f7c6e1a465330b5cde43e4b1f9b6fda7227c34fb51e3add9ecea27507827231"), looks := false }, kinds := [], alts := [], laidByText := true, laidKinds := [.data, .pinned], laidTests := true, laidLooks := .later }
def TestMatchesUptoCardSaid : Prop := Claim7.holds Tryd.pinned (.plain (OpenSpec.upto testMatchesSpec)) testMatchesUptoCard

/-- THE SECOND FORM's CARD OF 'intarsialaw20.TestConsts'. -/
def testConstsUptoCard : Claim7 := { stood := { row := testConstsUptoRow, standIns := [], harness := (true, "5f7c6e1a465330b5cde43e4b1f9b6fda7227c34fb51e3add9ecea27507827231"), looks := false }, kinds := [], alts := [], laidByText := true, laidKinds := [.data, .pinned], laidTests := true, laidLooks := .later }
def TestConstsUptoCardSaid : Prop := Claim7.holds Tryd.pinned (.plain (OpenSpec.upto testConstsSpec)) testConstsUptoCard

/-- THE SECOND FORM's CARD OF 'intarsialaw20.TestPasses'. -/
def testPassesUptoCard : Claim7 := { stood := { row := testPassesUptoRow, standIns := [], harness := (true, "5f7c6e1a465330b5cde43e4b1f9b6fda7227c34fb51e3add9ecea27507827231"), looks := false }, kinds := [], alts := [], laidByText := true, laidKinds := [.data, .pinned], laidTests := true, laidLooks := .later }
def TestPassesUptoCardSaid : Prop := Claim7.holds Tryd.pinned (.plain (OpenSpec.upto testPassesSpec)) testPassesUptoCard

/-- THE SECOND FORM's CARD OF 'intarsialaw20.TestAgain'. -/
def testAgainUptoCard : Claim7 := { stood := { row := testAgainUptoRow, standIns := [], harness := (true, "5f7c6e1a465330b5cde43e4b1f9b6fda7227c34fb51e3add9ecea27507827231"), looks := false }, kinds := [], alts := [], laidByText := true, laidKinds := [.data, .pinned], laidTests := true, laidLooks := .later }
def TestAgainUptoCardSaid : Prop := Claim7.holds Tryd.pinned (.plain (OpenSpec.upto testAgainSpec)) testAgainUptoCard

/-- THE SECOND FORM's CARD OF 'intarsialaw19.FactKeys'. -/
def factKeysUptoCard : Claim7 := { stood := { row := factKeysUptoRow, standIns := [], harness := (true, "5f7c6e1a465330b5cde43e4b1f9b6fda7227c34fb51e3add9ecea27507827231"), looks := false }, kinds := [], alts := [], laidByText := true, laidKinds := [.data, .pinned], laidTests := true, laidLooks := .later }
def FactKeysUptoCardSaid : Prop := Claim7.holds Tryd.pinned (.plain (OpenSpec.upto factKeysSpec)) factKeysUptoCard

/-- THE SECOND FORM's CARD OF 'intarsialaw19.FactPuts'. -/
def factPutsUptoCard : Claim7 := { stood := { row := factPutsUptoRow, standIns := [], harness := (true, "5f7c6e1a465330b5cde43e4b1f9b6fda7227c34fb51e3add9ecea27507827231"), looks := false }, kinds := [], alts := [], laidByText := true, laidKinds := [.data, .pinned], laidTests := true, laidLooks := .later }
def FactPutsUptoCardSaid : Prop := Claim7.holds Tryd.pinned (.plain (OpenSpec.upto factPutsSpec)) factPutsUptoCard

/-- THE SECOND FORM's CARD OF 'intarsialaw19.FactBack'. -/
def factBackUptoCard : Claim7 := { stood := { row := factBackUptoRow, standIns := [], harness := (true, "5f7c6e1a465330b5cde43e4b1f9b6fda7227c34fb51e3add9ecea27507827231"), looks := false }, kinds := [], alts := [], laidByText := true, laidKinds := [.data, .pinned], laidTests := true, laidLooks := .later }
def FactBackUptoCardSaid : Prop := Claim7.holds Tryd.pinned (.plain (OpenSpec.upto factBackSpec)) factBackUptoCard

/-- THE SECOND FORM's CARD OF 'intarsialaw14.LexScans'. -/
def lexScansUptoCard : Claim7 := { stood := { row := lexScansUptoRow, standIns := [], harness := (true, "5f7c6e1a465330b5cde43e4b1f9b6fda7227c34fb51e3add9ecea27507827231"), looks := false }, kinds := [], alts := [], laidByText := true, laidKinds := [.data, .pinned], laidTests := true, laidLooks := .later }
def LexScansUptoCardSaid : Prop := Claim7.holds Tryd.pinned (.plain (OpenSpec.upto lexScansSpec)) lexScansUptoCard

/-- THE SECOND FORM's CARD OF 'intarsialaw14.LexTexts'. -/
def lexTextsUptoCard : Claim7 := { stood := { row := lexTextsUptoRow, standIns := [], harness := (true, "5f7c6e1a465330b5cde43e4b1f9b6fda7227c34fb51e3add9ecea27507827231"), looks := false }, kinds := [], alts := [], laidByText := true, laidKinds := [.data, .pinned], laidTests := true, laidLooks := .later }
def LexTextsUptoCardSaid : Prop := Claim7.holds Tryd.pinned (.plain (OpenSpec.upto lexTextsSpec)) lexTextsUptoCard

/-- THE SECOND FORM's CARD OF 'intarsialaw14.LexBack'. -/
def lexBackUptoCard : Claim7 := { stood := { row := lexBackUptoRow, standIns := [], harness := (true, "5f7c6e1a465330b5cde43e4b1f9b6fda7227c34fb51e3add9ecea27507827231"), looks := false }, kinds := [], alts := [], laidByText := true, laidKinds := [.data, .pinned], laidTests := true, laidLooks := .later }
def LexBackUptoCardSaid : Prop := Claim7.holds Tryd.pinned (.plain (OpenSpec.upto lexBackSpec)) lexBackUptoCard

/-- THE SECOND FORM's CARD OF 'intarsialaw14.LexPlaces'. -/
def lexPlacesUptoCard : Claim7 := { stood := { row := lexPlacesUptoRow, standIns := [], harness := (true, "5f7c6e1a465330b5cde43e4b1f9b6fda7227c34fb51e3add9ecea27507827231"), looks := false }, kinds := [], alts := [], laidByText := true, laidKinds := [.data, .pinned], laidTests := true, laidLooks := .later }
def LexPlacesUptoCardSaid : Prop := Claim7.holds Tryd.pinned (.plain (OpenSpec.upto lexPlacesSpec)) lexPlacesUptoCard

/-- THE SECOND FORM's CARD OF 'intarsialaw14.LexJoins'. -/
def lexJoinsUptoCard : Claim7 := { stood := { row := lexJoinsUptoRow, standIns := [], harness := (true, "5f7c6e1a465330b5cde43e4b1f9b6fda7227c34fb51e3add9ecea27507827231"), looks := false }, kinds := [], alts := [], laidByText := true, laidKinds := [.data, .pinned], laidTests := true, laidLooks := .later }
def LexJoinsUptoCardSaid : Prop := Claim7.holds Tryd.pinned (.plain (OpenSpec.upto lexJoinsSpec)) lexJoinsUptoCard
end Rows
end Go.Proofs.YtddljegbggncdaaDoor
