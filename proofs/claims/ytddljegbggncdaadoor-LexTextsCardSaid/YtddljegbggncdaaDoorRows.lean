/-
  NARROWER THAN 'FOR EVERY INPUT', by the rows' own cells (each row's printed sentence says how): TestMatches: laid · TestConsts: laid · TestPasses: laid · TestAgain: laid · FactKeys: laid · FactPuts: laid · FactBack: laid · LexScans: laid · LexTexts: laid · LexBack: laid · LexPlaces: laid · LexJoins: laid.
  DERIVED. THE GIVEN ROWS OF THIS SEAT. 12 by the template 'for every input the law returns true; each argument reads behind the call as it read before'; 0 by the template 'total and deterministic' (their statements: YtddljegbggncdaaDoorTotals.lean).
  GIVEN WITH THE SEED: the statements are not yours to turn. If you find one false, say at which input.
  Laid BY PROGRAM, IN A SANDBOX (cutbox-rows.mjs): the forced cells as the released guide's own fill.sh prints them over the translation 43f26d6f1a060a3a… (all of the seat's roots in one cut). By AI agents, Wed Nov 11 2026. No macro, syntax, notation, axiom, sorry.
-/
import Derived.Test.YtddljegbggncdaaDoorChecked
import GoSem.PinnedTables
import GoSem.Claim
import GoSem.ClaimJoined
import GoSem.ClaimMapViews
import Derived.JoinedTies
import Derived.KernelRfl
namespace Go.Proofs.YtddljegbggncdaaDoor
/- THE CELL 'sum', in the pinned program and in every row, IS THE sha256 OF THE DUMP (.gsa) THAT YtddljegbggncdaaDoorProg.lean LOADS. Nothing in Lean hashes anything: it is a label: what it is worth is what the hold of that sum in a sandbox is worth. -/
noncomputable def Tryd.pinned : Pinned := { name := "ytddljegbggncdaadoor", sum := "43f26d6f1a060a3a8667dbdfea63c00f320d3492f8914c718f3e4454cb1e77b0", checked := Tryd.checked }
namespace Rows
def none {H : Type} : Left H := { results := [], args := [] }

/- WHAT THE LISTED PACKAGE-LEVEL VARIABLES READ AS WHEN THE CALL BEGINS. Each datum BY PROGRAM (the guide's laid-datum.mjs) off the statement by which the dump's own 'gosem.cut.vars' lays the variable. In a bare row this is a premise. The card (YtddljegbggncdaaDoorCards.lean) ties it to the program's text. -/
def laid_unicode_utf8_acceptRanges {H : Type} : DataW H := .agg [.agg [.lit (.int .u8 128), .lit (.int .u8 191)], .agg [.lit (.int .u8 160), .lit (.int .u8 191)], .agg [.lit (.int .u8 128), .lit (.int .u8 159)], .agg [.lit (.int .u8 144), .lit (.int .u8 191)], .agg [.lit (.int .u8 128), .lit (.int .u8 143)], .agg [.lit (.int .u8 0), .lit (.int .u8 0)], .agg [.lit (.int .u8 0), .lit (.int .u8 0)], .agg [.lit (.int .u8 0), .lit (.int .u8 0)], .agg [.lit (.int .u8 0), .lit (.int .u8 0)], .agg [.lit (.int .u8 0), .lit (.int .u8 0)], .agg [.lit (.int .u8 0), .lit (.int .u8 0)], .agg [.lit (.int .u8 0), .lit (.int .u8 0)], .agg [.lit (.int .u8 0), .lit (.int .u8 0)], .agg [.lit (.int .u8 0), .lit (.int .u8 0)], .agg [.lit (.int .u8 0), .lit (.int .u8 0)], .agg [.lit (.int .u8 0), .lit (.int .u8 0)]]
/-- One of Go's own tables, pinned by name: the form's constant. -/
def laid_unicode_utf8_first : DataW Unit := Go.Pinned.utf8First

/-- 'intarsialaw20.TestMatches': WHATEVER THE INPUT: true; the input reads as it did. -/
def testMatchesSpec : ChangeSpec := { name := "testMatches", fn := fun _ => fun
  | [d1, d2, d3] => { results := [.lit (.bool true)], args := [d1, d2, d3] }
  | _ => none }
def testMatchesRow : OpenClaim := { program := "ytddljegbggncdaadoor", sum := "43f26d6f1a060a3a8667dbdfea63c00f320d3492f8914c718f3e4454cb1e77b0", func := "intarsia/intarsialaw20.TestMatches", spec := "testMatches", unfollowed := true, recurses := true, named := ["unicode/utf8.first", "unicode/utf8.acceptRanges"], apart := false, laid := [("unicode/utf8.acceptRanges", laid_unicode_utf8_acceptRanges), ("unicode/utf8.first", laid_unicode_utf8_first)] }
def TestMatchesSaid : Prop := testMatchesRow.holds Tryd.pinned (OpenSpec.ofChange testMatchesSpec)

/-- ITS FALSE NEIGHBOUR: 'it returns false'. Refute it at one input. -/
def testMatchesWrong : ChangeSpec := { name := "testMatches", fn := fun _ => fun
  | [d1, d2, d3] => { results := [.lit (.bool false)], args := [d1, d2, d3] }
  | _ => none }
def TestMatchesWrongFalsely : Prop := testMatchesRow.holds Tryd.pinned (OpenSpec.ofChange testMatchesWrong)

/-- 'intarsialaw20.TestConsts': WHATEVER THE INPUT: true; the input reads as it did. -/
def testConstsSpec : ChangeSpec := { name := "testConsts", fn := fun _ => fun
  | [d1, d2] => { results := [.lit (.bool true)], args := [d1, d2] }
  | _ => none }
def testConstsRow : OpenClaim := { program := "ytddljegbggncdaadoor", sum := "43f26d6f1a060a3a8667dbdfea63c00f320d3492f8914c718f3e4454cb1e77b0", func := "intarsia/intarsialaw20.TestConsts", spec := "testConsts", unfollowed := true, recurses := true, named := ["unicode/utf8.first", "unicode/utf8.acceptRanges"], apart := false, laid := [("unicode/utf8.acceptRanges", laid_unicode_utf8_acceptRanges), ("unicode/utf8.first", laid_unicode_utf8_first)] }
def TestConstsSaid : Prop := testConstsRow.holds Tryd.pinned (OpenSpec.ofChange testConstsSpec)

/-- ITS FALSE NEIGHBOUR: 'it returns false'. Refute it at one input. -/
def testConstsWrong : ChangeSpec := { name := "testConsts", fn := fun _ => fun
  | [d1, d2] => { results := [.lit (.bool false)], args := [d1, d2] }
  | _ => none }
def TestConstsWrongFalsely : Prop := testConstsRow.holds Tryd.pinned (OpenSpec.ofChange testConstsWrong)

/-- 'intarsialaw20.TestPasses': WHATEVER THE INPUT: true; the input reads as it did. -/
def testPassesSpec : ChangeSpec := { name := "testPasses", fn := fun _ => fun
  | [d1, d2] => { results := [.lit (.bool true)], args := [d1, d2] }
  | _ => none }
def testPassesRow : OpenClaim := { program := "ytddljegbggncdaadoor", sum := "43f26d6f1a060a3a8667dbdfea63c00f320d3492f8914c718f3e4454cb1e77b0", func := "intarsia/intarsialaw20.TestPasses", spec := "testPasses", unfollowed := true, recurses := true, named := ["unicode/utf8.first", "unicode/utf8.acceptRanges"], apart := false, laid := [("unicode/utf8.acceptRanges", laid_unicode_utf8_acceptRanges), ("unicode/utf8.first", laid_unicode_utf8_first)] }
def TestPassesSaid : Prop := testPassesRow.holds Tryd.pinned (OpenSpec.ofChange testPassesSpec)

/-- ITS FALSE NEIGHBOUR: 'it returns false'. Refute it at one input. -/
def testPassesWrong : ChangeSpec := { name := "testPasses", fn := fun _ => fun
  | [d1, d2] => { results := [.lit (.bool false)], args := [d1, d2] }
  | _ => none }
def TestPassesWrongFalsely : Prop := testPassesRow.holds Tryd.pinned (OpenSpec.ofChange testPassesWrong)

/-- 'intarsialaw20.TestAgain': WHATEVER THE INPUT: true; the input reads as it did. -/
def testAgainSpec : ChangeSpec := { name := "testAgain", fn := fun _ => fun
  | [d1, d2] => { results := [.lit (.bool true)], args := [d1, d2] }
  | _ => none }
def testAgainRow : OpenClaim := { program := "ytddljegbggncdaadoor", sum := "43f26d6f1a060a3a8667dbdfea63c00f320d3492f8914c718f3e4454cb1e77b0", func := "intarsia/intarsialaw20.TestAgain", spec := "testAgain", unfollowed := true, recurses := true, named := ["unicode/utf8.first", "unicode/utf8.acceptRanges"], apart := false, laid := [("unicode/utf8.acceptRanges", laid_unicode_utf8_acceptRanges), ("unicode/utf8.first", laid_unicode_utf8_first)] }
def TestAgainSaid : Prop := testAgainRow.holds Tryd.pinned (OpenSpec.ofChange testAgainSpec)

/-- ITS FALSE NEIGHBOUR: 'it returns false'. Refute it at one input. -/
def testAgainWrong : ChangeSpec := { name := "testAgain", fn := fun _ => fun
  | [d1, d2] => { results := [.lit (.bool false)], args := [d1, d2] }
  | _ => none }
def TestAgainWrongFalsely : Prop := testAgainRow.holds Tryd.pinned (OpenSpec.ofChange testAgainWrong)

/-- 'intarsialaw19.FactKeys': WHATEVER THE INPUT: true; the input reads as it did. -/
def factKeysSpec : ChangeSpec := { name := "factKeys", fn := fun _ => fun
  | [d1, d2] => { results := [.lit (.bool true)], args := [d1, d2] }
  | _ => none }
def factKeysRow : OpenClaim := { program := "ytddljegbggncdaadoor", sum := "43f26d6f1a060a3a8667dbdfea63c00f320d3492f8914c718f3e4454cb1e77b0", func := "intarsia/intarsialaw19.FactKeys", spec := "factKeys", unfollowed := true, recurses := true, named := ["unicode/utf8.first", "unicode/utf8.acceptRanges"], apart := false, laid := [("unicode/utf8.acceptRanges", laid_unicode_utf8_acceptRanges), ("unicode/utf8.first", laid_unicode_utf8_first)] }
def FactKeysSaid : Prop := factKeysRow.holds Tryd.pinned (OpenSpec.ofChange factKeysSpec)

/-- ITS FALSE NEIGHBOUR: 'it returns false'. Refute it at one input. -/
def factKeysWrong : ChangeSpec := { name := "factKeys", fn := fun _ => fun
  | [d1, d2] => { results := [.lit (.bool false)], args := [d1, d2] }
  | _ => none }
def FactKeysWrongFalsely : Prop := factKeysRow.holds Tryd.pinned (OpenSpec.ofChange factKeysWrong)

/-- 'intarsialaw19.FactPuts': WHATEVER THE INPUT: true; the input reads as it did. -/
def factPutsSpec : ChangeSpec := { name := "factPuts", fn := fun _ => fun
  | [d1, d2, d3] => { results := [.lit (.bool true)], args := [d1, d2, d3] }
  | _ => none }
def factPutsRow : OpenClaim := { program := "ytddljegbggncdaadoor", sum := "43f26d6f1a060a3a8667dbdfea63c00f320d3492f8914c718f3e4454cb1e77b0", func := "intarsia/intarsialaw19.FactPuts", spec := "factPuts", unfollowed := true, recurses := true, named := ["unicode/utf8.first", "unicode/utf8.acceptRanges"], apart := false, laid := [("unicode/utf8.acceptRanges", laid_unicode_utf8_acceptRanges), ("unicode/utf8.first", laid_unicode_utf8_first)] }
def FactPutsSaid : Prop := factPutsRow.holds Tryd.pinned (OpenSpec.ofChange factPutsSpec)

/-- ITS FALSE NEIGHBOUR: 'it returns false'. Refute it at one input. -/
def factPutsWrong : ChangeSpec := { name := "factPuts", fn := fun _ => fun
  | [d1, d2, d3] => { results := [.lit (.bool false)], args := [d1, d2, d3] }
  | _ => none }
def FactPutsWrongFalsely : Prop := factPutsRow.holds Tryd.pinned (OpenSpec.ofChange factPutsWrong)

/-- 'intarsialaw19.FactBack': WHATEVER THE INPUT: true; the input reads as it did. -/
def factBackSpec : ChangeSpec := { name := "factBack", fn := fun _ => fun
  | [d1, d2] => { results := [.lit (.bool true)], args := [d1, d2] }
  | _ => none }
def factBackRow : OpenClaim := { program := "ytddljegbggncdaadoor", sum := "43f26d6f1a060a3a8667dbdfea63c00f320d3492f8914c718f3e4454cb1e77b0", func := "intarsia/intarsialaw19.FactBack", spec := "factBack", unfollowed := true, recurses := true, named := ["unicode/utf8.first", "unicode/utf8.acceptRanges"], apart := false, laid := [("unicode/utf8.acceptRanges", laid_unicode_utf8_acceptRanges), ("unicode/utf8.first", laid_unicode_utf8_first)] }
def FactBackSaid : Prop := factBackRow.holds Tryd.pinned (OpenSpec.ofChange factBackSpec)

/-- ITS FALSE NEIGHBOUR: 'it returns false'. Refute it at one input. -/
def factBackWrong : ChangeSpec := { name := "factBack", fn := fun _ => fun
  | [d1, d2] => { results := [.lit (.bool false)], args := [d1, d2] }
  | _ => none }
def FactBackWrongFalsely : Prop := factBackRow.holds Tryd.pinned (OpenSpec.ofChange factBackWrong)

/-- 'intarsialaw14.LexScans': WHATEVER THE INPUT: true; the input reads as it did. -/
def lexScansSpec : ChangeSpec := { name := "lexScans", fn := fun _ => fun
  | [d] => { results := [.lit (.bool true)], args := [d] }
  | _ => none }
def lexScansRow : OpenClaim := { program := "ytddljegbggncdaadoor", sum := "43f26d6f1a060a3a8667dbdfea63c00f320d3492f8914c718f3e4454cb1e77b0", func := "intarsia/intarsialaw14.LexScans", spec := "lexScans", inPlace := ["internal/bytealg.IndexByteString"], recurses := true, named := ["unicode/utf8.first", "unicode/utf8.acceptRanges"], apart := false, laid := [("unicode/utf8.acceptRanges", laid_unicode_utf8_acceptRanges), ("unicode/utf8.first", laid_unicode_utf8_first)] }
def LexScansSaid : Prop := lexScansRow.holds Tryd.pinned (OpenSpec.ofChange lexScansSpec)

/-- ITS FALSE NEIGHBOUR: 'it returns false'. Refute it at one input. -/
def lexScansWrong : ChangeSpec := { name := "lexScans", fn := fun _ => fun
  | [d] => { results := [.lit (.bool false)], args := [d] }
  | _ => none }
def LexScansWrongFalsely : Prop := lexScansRow.holds Tryd.pinned (OpenSpec.ofChange lexScansWrong)

/-- 'intarsialaw14.LexTexts': WHATEVER THE INPUT: true; the input reads as it did. -/
def lexTextsSpec : ChangeSpec := { name := "lexTexts", fn := fun _ => fun
  | [d] => { results := [.lit (.bool true)], args := [d] }
  | _ => none }
def lexTextsRow : OpenClaim := { program := "ytddljegbggncdaadoor", sum := "43f26d6f1a060a3a8667dbdfea63c00f320d3492f8914c718f3e4454cb1e77b0", func := "intarsia/intarsialaw14.LexTexts", spec := "lexTexts", inPlace := ["internal/bytealg.IndexByteString"], recurses := true, named := ["unicode/utf8.first", "unicode/utf8.acceptRanges"], apart := false, laid := [("unicode/utf8.acceptRanges", laid_unicode_utf8_acceptRanges), ("unicode/utf8.first", laid_unicode_utf8_first)] }
def LexTextsSaid : Prop := lexTextsRow.holds Tryd.pinned (OpenSpec.ofChange lexTextsSpec)

/-- ITS FALSE NEIGHBOUR: 'it returns false'. Refute it at one input. -/
def lexTextsWrong : ChangeSpec := { name := "lexTexts", fn := fun _ => fun
  | [d] => { results := [.lit (.bool false)], args := [d] }
  | _ => none }
def LexTextsWrongFalsely : Prop := lexTextsRow.holds Tryd.pinned (OpenSpec.ofChange lexTextsWrong)

/-- 'intarsialaw14.LexBack': WHATEVER THE INPUT: true; the input reads as it did. -/
def lexBackSpec : ChangeSpec := { name := "lexBack", fn := fun _ => fun
  | [d] => { results := [.lit (.bool true)], args := [d] }
  | _ => none }
def lexBackRow : OpenClaim := { program := "ytddljegbggncdaadoor", sum := "43f26d6f1a060a3a8667dbdfea63c00f320d3492f8914c718f3e4454cb1e77b0", func := "intarsia/intarsialaw14.LexBack", spec := "lexBack", inPlace := ["internal/bytealg.IndexByteString"], named := ["unicode/utf8.first", "unicode/utf8.acceptRanges"], apart := false, laid := [("unicode/utf8.acceptRanges", laid_unicode_utf8_acceptRanges), ("unicode/utf8.first", laid_unicode_utf8_first)] }
def LexBackSaid : Prop := lexBackRow.holds Tryd.pinned (OpenSpec.ofChange lexBackSpec)

/-- ITS FALSE NEIGHBOUR: 'it returns false'. Refute it at one input. -/
def lexBackWrong : ChangeSpec := { name := "lexBack", fn := fun _ => fun
  | [d] => { results := [.lit (.bool false)], args := [d] }
  | _ => none }
def LexBackWrongFalsely : Prop := lexBackRow.holds Tryd.pinned (OpenSpec.ofChange lexBackWrong)

/-- 'intarsialaw14.LexPlaces': WHATEVER THE INPUT: true; the input reads as it did. -/
def lexPlacesSpec : ChangeSpec := { name := "lexPlaces", fn := fun _ => fun
  | [d] => { results := [.lit (.bool true)], args := [d] }
  | _ => none }
def lexPlacesRow : OpenClaim := { program := "ytddljegbggncdaadoor", sum := "43f26d6f1a060a3a8667dbdfea63c00f320d3492f8914c718f3e4454cb1e77b0", func := "intarsia/intarsialaw14.LexPlaces", spec := "lexPlaces", inPlace := ["internal/bytealg.IndexByteString"], named := ["unicode/utf8.first", "unicode/utf8.acceptRanges"], apart := false, laid := [("unicode/utf8.acceptRanges", laid_unicode_utf8_acceptRanges), ("unicode/utf8.first", laid_unicode_utf8_first)] }
def LexPlacesSaid : Prop := lexPlacesRow.holds Tryd.pinned (OpenSpec.ofChange lexPlacesSpec)

/-- ITS FALSE NEIGHBOUR: 'it returns false'. Refute it at one input. -/
def lexPlacesWrong : ChangeSpec := { name := "lexPlaces", fn := fun _ => fun
  | [d] => { results := [.lit (.bool false)], args := [d] }
  | _ => none }
def LexPlacesWrongFalsely : Prop := lexPlacesRow.holds Tryd.pinned (OpenSpec.ofChange lexPlacesWrong)

/-- 'intarsialaw14.LexJoins': WHATEVER THE INPUT: true; the input reads as it did. -/
def lexJoinsSpec : ChangeSpec := { name := "lexJoins", fn := fun _ => fun
  | [d1, d2] => { results := [.lit (.bool true)], args := [d1, d2] }
  | _ => none }
def lexJoinsRow : OpenClaim := { program := "ytddljegbggncdaadoor", sum := "43f26d6f1a060a3a8667dbdfea63c00f320d3492f8914c718f3e4454cb1e77b0", func := "intarsia/intarsialaw14.LexJoins", spec := "lexJoins", inPlace := ["internal/bytealg.IndexByteString"], named := ["unicode/utf8.first", "unicode/utf8.acceptRanges"], apart := false, laid := [("unicode/utf8.acceptRanges", laid_unicode_utf8_acceptRanges), ("unicode/utf8.first", laid_unicode_utf8_first)] }
def LexJoinsSaid : Prop := lexJoinsRow.holds Tryd.pinned (OpenSpec.ofChange lexJoinsSpec)

/-- ITS FALSE NEIGHBOUR: 'it returns false'. Refute it at one input. -/
def lexJoinsWrong : ChangeSpec := { name := "lexJoins", fn := fun _ => fun
  | [d1, d2] => { results := [.lit (.bool false)], args := [d1, d2] }
  | _ => none }
def LexJoinsWrongFalsely : Prop := lexJoinsRow.holds Tryd.pinned (OpenSpec.ofChange lexJoinsWrong)

/- THE SECOND FORM. 'bulk': how many values and letters a reading holds, each counted each time it is reached (what is shared counts as often as it is met; a slice's spare places count too). A statement '..UptoSaid' is the law's where the arguments, and the package variables that the reading takes, are together of bulk at most 1048576: NARROWER than '..Said'. Prove '..Said' where nothing that the law and all that it calls make is longer than what came in: it says more and counts as full. Else prove '..UptoSaid'. A law counts once. -/
mutual
def uptoBulk {H : Type} : DataW H → Nat
  | .lit (.string bytes) => bytes.length + 1
  | .lit _ => 1
  | .nil => 1
  | .ptr d => uptoBulk d + 1
  | .slice elems spare => uptoBulkAll elems + uptoBulkAll spare + 1
  | .agg parts => uptoBulkAll parts + 1
  | .iface _ d => uptoBulk d + 1
  | .map entries => uptoBulkEntries entries + 1
  | .held _ => 1
def uptoBulkAll {H : Type} : List (DataW H) → Nat
  | [] => 0
  | d :: r => uptoBulk d + uptoBulkAll r
def uptoBulkEntries {H : Type} : List (Lit × DataW H) → Nat
  | [] => 0
  | x :: r => uptoBulkEntry x + uptoBulkEntries r
def uptoBulkEntry {H : Type} : Lit × DataW H → Nat
  | (.string bytes, d) => bytes.length + uptoBulk d + 1
  | (_, d) => uptoBulk d + 1
 end
def uptoSmall : (H : Type) → List (DataW H) → Bool := fun _ ds => decide (uptoBulkAll ds ≤ 1048576)
def OpenSpec.upto (s : _root_.Go.ChangeSpec) : _root_.Go.OpenSpec := { _root_.Go.OpenSpec.ofChange s with cond := some uptoSmall }

/-- 'intarsialaw20.TestMatches', WHERE WHAT IT READS IS OF BULK AT MOST 1048576: true; the input reads as it did. -/
def testMatchesUptoRow : OpenClaim := { program := "ytddljegbggncdaadoor", sum := "43f26d6f1a060a3a8667dbdfea63c00f320d3492f8914c718f3e4454cb1e77b0", func := "intarsia/intarsialaw20.TestMatches", spec := "testMatches", unfollowed := true, recurses := true, named := ["unicode/utf8.first", "unicode/utf8.acceptRanges"], apart := false, laid := [("unicode/utf8.acceptRanges", laid_unicode_utf8_acceptRanges), ("unicode/utf8.first", laid_unicode_utf8_first)], narrowed := true }
def TestMatchesUptoSaid : Prop := testMatchesUptoRow.holds Tryd.pinned (OpenSpec.upto testMatchesSpec)

/-- 'intarsialaw20.TestConsts', WHERE WHAT IT READS IS OF BULK AT MOST 1048576: true; the input reads as it did. -/
def testConstsUptoRow : OpenClaim := { program := "ytddljegbggncdaadoor", sum := "43f26d6f1a060a3a8667dbdfea63c00f320d3492f8914c718f3e4454cb1e77b0", func := "intarsia/intarsialaw20.TestConsts", spec := "testConsts", unfollowed := true, recurses := true, named := ["unicode/utf8.first", "unicode/utf8.acceptRanges"], apart := false, laid := [("unicode/utf8.acceptRanges", laid_unicode_utf8_acceptRanges), ("unicode/utf8.first", laid_unicode_utf8_first)], narrowed := true }
def TestConstsUptoSaid : Prop := testConstsUptoRow.holds Tryd.pinned (OpenSpec.upto testConstsSpec)

/-- 'intarsialaw20.TestPasses', WHERE WHAT IT READS IS OF BULK AT MOST 1048576: true; the input reads as it did. -/
def testPassesUptoRow : OpenClaim := { program := "ytddljegbggncdaadoor", sum := "43f26d6f1a060a3a8667dbdfea63c00f320d3492f8914c718f3e4454cb1e77b0", func := "intarsia/intarsialaw20.TestPasses", spec := "testPasses", unfollowed := true, recurses := true, named := ["unicode/utf8.first", "unicode/utf8.acceptRanges"], apart := false, laid := [("unicode/utf8.acceptRanges", laid_unicode_utf8_acceptRanges), ("unicode/utf8.first", laid_unicode_utf8_first)], narrowed := true }
def TestPassesUptoSaid : Prop := testPassesUptoRow.holds Tryd.pinned (OpenSpec.upto testPassesSpec)

/-- 'intarsialaw20.TestAgain', WHERE WHAT IT READS IS OF BULK AT MOST 1048576: true; the input reads as it did. -/
def testAgainUptoRow : OpenClaim := { program := "ytddljegbggncdaadoor", sum := "43f26d6f1a060a3a8667dbdfea63c00f320d3492f8914c718f3e4454cb1e77b0", func := "intarsia/intarsialaw20.TestAgain", spec := "testAgain", unfollowed := true, recurses := true, named := ["unicode/utf8.first", "unicode/utf8.acceptRanges"], apart := false, laid := [("unicode/utf8.acceptRanges", laid_unicode_utf8_acceptRanges), ("unicode/utf8.first", laid_unicode_utf8_first)], narrowed := true }
def TestAgainUptoSaid : Prop := testAgainUptoRow.holds Tryd.pinned (OpenSpec.upto testAgainSpec)

/-- 'intarsialaw19.FactKeys', WHERE WHAT IT READS IS OF BULK AT MOST 1048576: true; the input reads as it did. -/
def factKeysUptoRow : OpenClaim := { program := "ytddljegbggncdaadoor", sum := "43f26d6f1a060a3a8667dbdfea63c00f320d3492f8914c718f3e4454cb1e77b0", func := "intarsia/intarsialaw19.FactKeys", spec := "factKeys", unfollowed := true, recurses := true, named := ["unicode/utf8.first", "unicode/utf8.acceptRanges"], apart := false, laid := [("unicode/utf8.acceptRanges", laid_unicode_utf8_acceptRanges), ("unicode/utf8.first", laid_unicode_utf8_first)], narrowed := true }
def FactKeysUptoSaid : Prop := factKeysUptoRow.holds Tryd.pinned (OpenSpec.upto factKeysSpec)

/-- 'intarsialaw19.FactPuts', WHERE WHAT IT READS IS OF BULK AT MOST 1048576: true; the input reads as it did. -/
def factPutsUptoRow : OpenClaim := { program := "ytddljegbggncdaadoor", sum := "43f26d6f1a060a3a8667dbdfea63c00f320d3492f8914c718f3e4454cb1e77b0", func := "intarsia/intarsialaw19.FactPuts", spec := "factPuts", unfollowed := true, recurses := true, named := ["unicode/utf8.first", "unicode/utf8.acceptRanges"], apart := false, laid := [("unicode/utf8.acceptRanges", laid_unicode_utf8_acceptRanges), ("unicode/utf8.first", laid_unicode_utf8_first)], narrowed := true }
def FactPutsUptoSaid : Prop := factPutsUptoRow.holds Tryd.pinned (OpenSpec.upto factPutsSpec)

/-- 'intarsialaw19.FactBack', WHERE WHAT IT READS IS OF BULK AT MOST 1048576: true; the input reads as it did. -/
def factBackUptoRow : OpenClaim := { program := "ytddljegbggncdaadoor", sum := "43f26d6f1a060a3a8667dbdfea63c00f320d3492f8914c718f3e4454cb1e77b0", func := "intarsia/intarsialaw19.FactBack", spec := "factBack", unfollowed := true, recurses := true, named := ["unicode/utf8.first", "unicode/utf8.acceptRanges"], apart := false, laid := [("unicode/utf8.acceptRanges", laid_unicode_utf8_acceptRanges), ("unicode/utf8.first", laid_unicode_utf8_first)], narrowed := true }
def FactBackUptoSaid : Prop := factBackUptoRow.holds Tryd.pinned (OpenSpec.upto factBackSpec)

/-- 'intarsialaw14.LexScans', WHERE WHAT IT READS IS OF BULK AT MOST 1048576: true; the input reads as it did. -/
def lexScansUptoRow : OpenClaim := { program := "ytddljegbggncdaadoor", sum := "43f26d6f1a060a3a8667dbdfea63c00f320d3492f8914c718f3e4454cb1e77b0", func := "intarsia/intarsialaw14.LexScans", spec := "lexScans", inPlace := ["internal/bytealg.IndexByteString"], recurses := true, named := ["unicode/utf8.first", "unicode/utf8.acceptRanges"], apart := false, laid := [("unicode/utf8.acceptRanges", laid_unicode_utf8_acceptRanges), ("unicode/utf8.first", laid_unicode_utf8_first)], narrowed := true }
def LexScansUptoSaid : Prop := lexScansUptoRow.holds Tryd.pinned (OpenSpec.upto lexScansSpec)

/-- 'intarsialaw14.LexTexts', WHERE WHAT IT READS IS OF BULK AT MOST 1048576: true; the input reads as it did. -/
def lexTextsUptoRow : OpenClaim := { program := "ytddljegbggncdaadoor", sum := "43f26d6f1a060a3a8667dbdfea63c00f320d3492f8914c718f3e4454cb1e77b0", func := "intarsia/intarsialaw14.LexTexts", spec := "lexTexts", inPlace := ["internal/bytealg.IndexByteString"], recurses := true, named := ["unicode/utf8.first", "unicode/utf8.acceptRanges"], apart := false, laid := [("unicode/utf8.acceptRanges", laid_unicode_utf8_acceptRanges), ("unicode/utf8.first", laid_unicode_utf8_first)], narrowed := true }
def LexTextsUptoSaid : Prop := lexTextsUptoRow.holds Tryd.pinned (OpenSpec.upto lexTextsSpec)

/-- 'intarsialaw14.LexBack', WHERE WHAT IT READS IS OF BULK AT MOST 1048576: true; the input reads as it did. -/
def lexBackUptoRow : OpenClaim := { program := "ytddljegbggncdaadoor", sum := "43f26d6f1a060a3a8667dbdfea63c00f320d3492f8914c718f3e4454cb1e77b0", func := "intarsia/intarsialaw14.LexBack", spec := "lexBack", inPlace := ["internal/bytealg.IndexByteString"], named := ["unicode/utf8.first", "unicode/utf8.acceptRanges"], apart := false, laid := [("unicode/utf8.acceptRanges", laid_unicode_utf8_acceptRanges), ("unicode/utf8.first", laid_unicode_utf8_first)], narrowed := true }
def LexBackUptoSaid : Prop := lexBackUptoRow.holds Tryd.pinned (OpenSpec.upto lexBackSpec)

/-- 'intarsialaw14.LexPlaces', WHERE WHAT IT READS IS OF BULK AT MOST 1048576: true; the input reads as it did. -/
def lexPlacesUptoRow : OpenClaim := { program := "ytddljegbggncdaadoor", sum := "43f26d6f1a060a3a8667dbdfea63c00f320d3492f8914c718f3e4454cb1e77b0", func := "intarsia/intarsialaw14.LexPlaces", spec := "lexPlaces", inPlace := ["internal/bytealg.IndexByteString"], named := ["unicode/utf8.first", "unicode/utf8.acceptRanges"], apart := false, laid := [("unicode/utf8.acceptRanges", laid_unicode_utf8_acceptRanges), ("unicode/utf8.first", laid_unicode_utf8_first)], narrowed := true }
def LexPlacesUptoSaid : Prop := lexPlacesUptoRow.holds Tryd.pinned (OpenSpec.upto lexPlacesSpec)

/-- 'intarsialaw14.LexJoins', WHERE WHAT IT READS IS OF BULK AT MOST 1048576: true; the input reads as it did. -/
def lexJoinsUptoRow : OpenClaim := { program := "ytddljegbggncdaadoor", sum := "43f26d6f1a060a3a8667dbdfea63c00f320d3492f8914c718f3e4454cb1e77b0", func := "intarsia/intarsialaw14.LexJoins", spec := "lexJoins", inPlace := ["internal/bytealg.IndexByteString"], named := ["unicode/utf8.first", "unicode/utf8.acceptRanges"], apart := false, laid := [("unicode/utf8.acceptRanges", laid_unicode_utf8_acceptRanges), ("unicode/utf8.first", laid_unicode_utf8_first)], narrowed := true }
def LexJoinsUptoSaid : Prop := lexJoinsUptoRow.holds Tryd.pinned (OpenSpec.upto lexJoinsSpec)

end Rows
end Go.Proofs.YtddljegbggncdaaDoor
