/-
  NARROWER THAN 'FOR EVERY INPUT', by the rows' own cells (each row's printed sentence says how): ClassMakes: laid · ClassLooks: laid · ClassSets: laid · ClassSame: laid · TestMatches: laid · TestConsts: laid.
  DERIVED. THE GIVEN ROWS OF THIS SEAT. 6 by the template 'for every input the law returns true; each argument reads behind the call as it read before'; 0 by the template 'total and deterministic' (their statements: YtcpokdjppedaoaaDoorTotals.lean).
  GIVEN WITH THE SEED: the statements are not yours to turn. If you find one false, say at which input.
  Laid BY PROGRAM, IN A SANDBOX (cutbox-rows.mjs): the forced cells as the released guide's own fill.sh prints them over the translation c3e209671e6ed2be… (all of the seat's roots in one cut). By AI agents, Wed Nov 11 2026. No macro, syntax, notation, axiom, sorry.
-/
import Derived.Test.YtcpokdjppedaoaaDoorChecked
import GoSem.PinnedTables
import GoSem.Claim
import GoSem.ClaimJoined
import GoSem.ClaimMapViews
import Derived.JoinedTies
import Derived.KernelRfl
namespace Go.Proofs.YtcpokdjppedaoaaDoor
/- THE CELL 'sum', in the pinned program and in every row, IS THE sha256 OF THE DUMP (.gsa) THAT YtcpokdjppedaoaaDoorProg.lean LOADS. Nothing in Lean hashes anything: it is a label: what it is worth is what the hold of that sum in a sandbox is worth. -/
noncomputable def Tryd.pinned : Pinned := { name := "ytcpokdjppedaoaadoor", sum := "c3e209671e6ed2be0b8092a1c124cda8e4b12eeaeb5dd7e720f8362a636766ee", checked := Tryd.checked }
namespace Rows
def none {H : Type} : Left H := { results := [], args := [] }

/- WHAT THE LISTED PACKAGE-LEVEL VARIABLES READ AS WHEN THE CALL BEGINS. Each datum BY PROGRAM (the guide's laid-datum.mjs) off the statement by which the dump's own 'gosem.cut.vars' lays the variable. In a bare row this is a premise. The card (YtcpokdjppedaoaaDoorCards.lean) ties it to the program's text. -/
def laid_unicode_utf8_acceptRanges {H : Type} : DataW H := .agg [.agg [.lit (.int .u8 128), .lit (.int .u8 191)], .agg [.lit (.int .u8 160), .lit (.int .u8 191)], .agg [.lit (.int .u8 128), .lit (.int .u8 159)], .agg [.lit (.int .u8 144), .lit (.int .u8 191)], .agg [.lit (.int .u8 128), .lit (.int .u8 143)], .agg [.lit (.int .u8 0), .lit (.int .u8 0)], .agg [.lit (.int .u8 0), .lit (.int .u8 0)], .agg [.lit (.int .u8 0), .lit (.int .u8 0)], .agg [.lit (.int .u8 0), .lit (.int .u8 0)], .agg [.lit (.int .u8 0), .lit (.int .u8 0)], .agg [.lit (.int .u8 0), .lit (.int .u8 0)], .agg [.lit (.int .u8 0), .lit (.int .u8 0)], .agg [.lit (.int .u8 0), .lit (.int .u8 0)], .agg [.lit (.int .u8 0), .lit (.int .u8 0)], .agg [.lit (.int .u8 0), .lit (.int .u8 0)], .agg [.lit (.int .u8 0), .lit (.int .u8 0)]]
/-- One of Go's own tables, pinned by name: the form's constant. -/
def laid_unicode_utf8_first : DataW Unit := Go.Pinned.utf8First

/-- 'intarsialaw18.ClassMakes': WHATEVER THE INPUT: true; the input reads as it did. -/
def classMakesSpec : ChangeSpec := { name := "classMakes", fn := fun _ => fun
  | [d1, d2, d3] => { results := [.lit (.bool true)], args := [d1, d2, d3] }
  | _ => none }
def classMakesRow : OpenClaim := { program := "ytcpokdjppedaoaadoor", sum := "c3e209671e6ed2be0b8092a1c124cda8e4b12eeaeb5dd7e720f8362a636766ee", func := "intarsia/intarsialaw18.ClassMakes", spec := "classMakes", inPlace := ["internal/abi.NoEscape"], unfollowed := true, recurses := true, named := ["unicode/utf8.first", "unicode/utf8.acceptRanges"], apart := false, laid := [("unicode/utf8.acceptRanges", laid_unicode_utf8_acceptRanges), ("unicode/utf8.first", laid_unicode_utf8_first)] }
def ClassMakesSaid : Prop := classMakesRow.holds Tryd.pinned (OpenSpec.ofChange classMakesSpec)

/-- ITS FALSE NEIGHBOUR: 'it returns false'. Refute it at one input. -/
def classMakesWrong : ChangeSpec := { name := "classMakes", fn := fun _ => fun
  | [d1, d2, d3] => { results := [.lit (.bool false)], args := [d1, d2, d3] }
  | _ => none }
def ClassMakesWrongFalsely : Prop := classMakesRow.holds Tryd.pinned (OpenSpec.ofChange classMakesWrong)

/-- 'intarsialaw18.ClassLooks': WHATEVER THE INPUT: true; the input reads as it did. -/
def classLooksSpec : ChangeSpec := { name := "classLooks", fn := fun _ => fun
  | [d1, d2, d3] => { results := [.lit (.bool true)], args := [d1, d2, d3] }
  | _ => none }
def classLooksRow : OpenClaim := { program := "ytcpokdjppedaoaadoor", sum := "c3e209671e6ed2be0b8092a1c124cda8e4b12eeaeb5dd7e720f8362a636766ee", func := "intarsia/intarsialaw18.ClassLooks", spec := "classLooks", inPlace := ["internal/abi.NoEscape"], unfollowed := true, recurses := true, named := ["unicode/utf8.first", "unicode/utf8.acceptRanges"], apart := false, laid := [("unicode/utf8.acceptRanges", laid_unicode_utf8_acceptRanges), ("unicode/utf8.first", laid_unicode_utf8_first)] }
def ClassLooksSaid : Prop := classLooksRow.holds Tryd.pinned (OpenSpec.ofChange classLooksSpec)

/-- ITS FALSE NEIGHBOUR: 'it returns false'. Refute it at one input. -/
def classLooksWrong : ChangeSpec := { name := "classLooks", fn := fun _ => fun
  | [d1, d2, d3] => { results := [.lit (.bool false)], args := [d1, d2, d3] }
  | _ => none }
def ClassLooksWrongFalsely : Prop := classLooksRow.holds Tryd.pinned (OpenSpec.ofChange classLooksWrong)

/-- 'intarsialaw18.ClassSets': WHATEVER THE INPUT: true; the input reads as it did. -/
def classSetsSpec : ChangeSpec := { name := "classSets", fn := fun _ => fun
  | [d1, d2, d3] => { results := [.lit (.bool true)], args := [d1, d2, d3] }
  | _ => none }
def classSetsRow : OpenClaim := { program := "ytcpokdjppedaoaadoor", sum := "c3e209671e6ed2be0b8092a1c124cda8e4b12eeaeb5dd7e720f8362a636766ee", func := "intarsia/intarsialaw18.ClassSets", spec := "classSets", inPlace := ["internal/abi.NoEscape"], unfollowed := true, recurses := true, named := ["unicode/utf8.first", "unicode/utf8.acceptRanges"], apart := false, laid := [("unicode/utf8.acceptRanges", laid_unicode_utf8_acceptRanges), ("unicode/utf8.first", laid_unicode_utf8_first)] }
def ClassSetsSaid : Prop := classSetsRow.holds Tryd.pinned (OpenSpec.ofChange classSetsSpec)

/-- ITS FALSE NEIGHBOUR: 'it returns false'. Refute it at one input. -/
def classSetsWrong : ChangeSpec := { name := "classSets", fn := fun _ => fun
  | [d1, d2, d3] => { results := [.lit (.bool false)], args := [d1, d2, d3] }
  | _ => none }
def ClassSetsWrongFalsely : Prop := classSetsRow.holds Tryd.pinned (OpenSpec.ofChange classSetsWrong)

/-- 'intarsialaw18.ClassSame': WHATEVER THE INPUT: true; the input reads as it did. -/
def classSameSpec : ChangeSpec := { name := "classSame", fn := fun _ => fun
  | [d1, d2] => { results := [.lit (.bool true)], args := [d1, d2] }
  | _ => none }
def classSameRow : OpenClaim := { program := "ytcpokdjppedaoaadoor", sum := "c3e209671e6ed2be0b8092a1c124cda8e4b12eeaeb5dd7e720f8362a636766ee", func := "intarsia/intarsialaw18.ClassSame", spec := "classSame", inPlace := ["internal/abi.NoEscape"], unfollowed := true, recurses := true, named := ["unicode/utf8.first", "unicode/utf8.acceptRanges"], apart := false, laid := [("unicode/utf8.acceptRanges", laid_unicode_utf8_acceptRanges), ("unicode/utf8.first", laid_unicode_utf8_first)] }
def ClassSameSaid : Prop := classSameRow.holds Tryd.pinned (OpenSpec.ofChange classSameSpec)

/-- ITS FALSE NEIGHBOUR: 'it returns false'. Refute it at one input. -/
def classSameWrong : ChangeSpec := { name := "classSame", fn := fun _ => fun
  | [d1, d2] => { results := [.lit (.bool false)], args := [d1, d2] }
  | _ => none }
def ClassSameWrongFalsely : Prop := classSameRow.holds Tryd.pinned (OpenSpec.ofChange classSameWrong)

/-- 'intarsialaw20.TestMatches': WHATEVER THE INPUT: true; the input reads as it did. -/
def testMatchesSpec : ChangeSpec := { name := "testMatches", fn := fun _ => fun
  | [d1, d2, d3] => { results := [.lit (.bool true)], args := [d1, d2, d3] }
  | _ => none }
def testMatchesRow : OpenClaim := { program := "ytcpokdjppedaoaadoor", sum := "c3e209671e6ed2be0b8092a1c124cda8e4b12eeaeb5dd7e720f8362a636766ee", func := "intarsia/intarsialaw20.TestMatches", spec := "testMatches", unfollowed := true, recurses := true, named := ["unicode/utf8.first", "unicode/utf8.acceptRanges"], apart := false, laid := [("unicode/utf8.acceptRanges", laid_unicode_utf8_acceptRanges), ("unicode/utf8.first", laid_unicode_utf8_first)] }
def TestMatchesSaid : Prop := testMatchesRow.holds Tryd.pinned (OpenSpec.ofChange testMatchesSpec)

/-- ITS FALSE NEIGHBOUR: 'it returns false'. Refute it at one input. -/
def testMatchesWrong : ChangeSpec := { name := "testMatches", fn := fun _ => fun
  | [d1, d2, d3] => { results := [.lit (.bool false)], args := [d1, d2, d3] }
  | _ => none }
def TestMatchesWrongFalsely : Prop := testMatchesRow.holds Tryd.pinned (OpenSpec.ofChange testMatchesWrong)

/-- 'intarsialaw20.TestConsts': WHATEVER THE INPUT: true; the input reads as it did. -/
def testConstsSpec : ChangeSpec := { name := "testConsts", fn := fun _ => fun
  | [d1, d2] => { results := [.lit (.bool true)], args := [d1, d2] }
  | _ => none }
def testConstsRow : OpenClaim := { program := "ytcpokdjppedaoaadoor", sum := "c3e209671e6ed2be0b8092a1c124cda8e4b12eeaeb5dd7e720f8362a636766ee", func := "intarsia/intarsialaw20.TestConsts", spec := "testConsts", unfollowed := true, recurses := true, named := ["unicode/utf8.first", "unicode/utf8.acceptRanges"], apart := false, laid := [("unicode/utf8.acceptRanges", laid_unicode_utf8_acceptRanges), ("unicode/utf8.first", laid_unicode_utf8_first)] }
def TestConstsSaid : Prop := testConstsRow.holds Tryd.pinned (OpenSpec.ofChange testConstsSpec)

/-- ITS FALSE NEIGHBOUR: 'it returns false'. Refute it at one input. -/
def testConstsWrong : ChangeSpec := { name := "testConsts", fn := fun _ => fun
  | [d1, d2] => { results := [.lit (.bool false)], args := [d1, d2] }
  | _ => none }
def TestConstsWrongFalsely : Prop := testConstsRow.holds Tryd.pinned (OpenSpec.ofChange testConstsWrong)

/- THE SECOND FORM. 'bulk': how many values and letters a reading holds, each counted each time it is reached (what is shared counts as often as it is met; a slice's spare places count too). A statement '..UptoSaid' is the law's where the arguments, and the package variables that the reading takes, are together of bulk at most 1048576: NARROWER than '..Said'. Prove '..Said' where nothing that the law and all that it calls make is longer than what came in: it says more and counts as full. Else prove '..UptoSaid'. A law counts once. -/
mutual
def uptoBulk {H : Type} : DataW H → Nat
  | .lit (.string bytes) => bytes.length + 1
  | .lit _ => 1
  | .nil => 1
  | .ptr d => uptoBulk d + 1
  | .slice elems spare => uptoBulkAll elems + uptoBulkAll spare + 1
  | .agg parts => uptoBulkAll parts + 1
  | .iface _ d => uptoBulk d + 1
  | .map entries => uptoBulkEntries entries + 1
  | .held _ => 1
def uptoBulkAll {H : Type} : List (DataW H) → Nat
  | [] => 0
  | d :: r => uptoBulk d + uptoBulkAll r
def uptoBulkEntries {H : Type} : List (Lit × DataW H) → Nat
  | [] => 0
  | x :: r => uptoBulkEntry x + uptoBulkEntries r
def uptoBulkEntry {H : Type} : Lit × DataW H → Nat
  | (.string bytes, d) => bytes.length + uptoBulk d + 1
  | (_, d) => uptoBulk d + 1
 end
def uptoSmall : (H : Type) → List (DataW H) → Bool := fun _ ds => decide (uptoBulkAll ds ≤ 1048576)
def OpenSpec.upto (s : _root_.Go.ChangeSpec) : _root_.Go.OpenSpec := { _root_.Go.OpenSpec.ofChange s with cond := some uptoSmall }

/-- 'intarsialaw18.ClassMakes', WHERE WHAT IT READS IS OF BULK AT MOST 1048576: true; the input reads as it did. -/
def classMakesUptoRow : OpenClaim := { program := "ytcpokdjppedaoaadoor", sum := "c3e209671e6ed2be0b8092a1c124cda8e4b12eeaeb5dd7e720f8362a636766ee", func := "intarsia/intarsialaw18.ClassMakes", spec := "classMakes", inPlace := ["internal/abi.NoEscape"], unfollowed := true, recurses := true, named := ["unicode/utf8.first", "unicode/utf8.acceptRanges"], apart := false, laid := [("unicode/utf8.acceptRanges", laid_unicode_utf8_acceptRanges), ("unicode/utf8.first", laid_unicode_utf8_first)], narrowed := true }
def ClassMakesUptoSaid : Prop := classMakesUptoRow.holds Tryd.pinned (OpenSpec.upto classMakesSpec)

/-- 'intarsialaw18.ClassLooks', WHERE WHAT IT READS IS OF BULK AT MOST 1048576: true; the input reads as it did. -/
def classLooksUptoRow : OpenClaim := { program := "ytcpokdjppedaoaadoor", sum := "c3e209671e6ed2be0b8092a1c124cda8e4b12eeaeb5dd7e720f8362a636766ee", func := "intarsia/intarsialaw18.ClassLooks", spec := "classLooks", inPlace := ["internal/abi.NoEscape"], unfollowed := true, recurses := true, named := ["unicode/utf8.first", "unicode/utf8.acceptRanges"], apart := false, laid := [("unicode/utf8.acceptRanges", laid_unicode_utf8_acceptRanges), ("unicode/utf8.first", laid_unicode_utf8_first)], narrowed := true }
def ClassLooksUptoSaid : Prop := classLooksUptoRow.holds Tryd.pinned (OpenSpec.upto classLooksSpec)

/-- 'intarsialaw18.ClassSets', WHERE WHAT IT READS IS OF BULK AT MOST 1048576: true; the input reads as it did. -/
def classSetsUptoRow : OpenClaim := { program := "ytcpokdjppedaoaadoor", sum := "c3e209671e6ed2be0b8092a1c124cda8e4b12eeaeb5dd7e720f8362a636766ee", func := "intarsia/intarsialaw18.ClassSets", spec := "classSets", inPlace := ["internal/abi.NoEscape"], unfollowed := true, recurses := true, named := ["unicode/utf8.first", "unicode/utf8.acceptRanges"], apart := false, laid := [("unicode/utf8.acceptRanges", laid_unicode_utf8_acceptRanges), ("unicode/utf8.first", laid_unicode_utf8_first)], narrowed := true }
def ClassSetsUptoSaid : Prop := classSetsUptoRow.holds Tryd.pinned (OpenSpec.upto classSetsSpec)

/-- 'intarsialaw18.ClassSame', WHERE WHAT IT READS IS OF BULK AT MOST 1048576: true; the input reads as it did. -/
def classSameUptoRow : OpenClaim := { program := "ytcpokdjppedaoaadoor", sum := "c3e209671e6ed2be0b8092a1c124cda8e4b12eeaeb5dd7e720f8362a636766ee", func := "intarsia/intarsialaw18.ClassSame", spec := "classSame", inPlace := ["internal/abi.NoEscape"], unfollowed := true, recurses := true, named := ["unicode/utf8.first", "unicode/utf8.acceptRanges"], apart := false, laid := [("unicode/utf8.acceptRanges", laid_unicode_utf8_acceptRanges), ("unicode/utf8.first", laid_unicode_utf8_first)], narrowed := true }
def ClassSameUptoSaid : Prop := classSameUptoRow.holds Tryd.pinned (OpenSpec.upto classSameSpec)

/-- 'intarsialaw20.TestMatches', WHERE WHAT IT READS IS OF BULK AT MOST 1048576: true; the input reads as it did. -/
def testMatchesUptoRow : OpenClaim := { program := "ytcpokdjppedaoaadoor", sum := "c3e209671e6ed2be0b8092a1c124cda8e4b12eeaeb5dd7e720f8362a636766ee", func := "intarsia/intarsialaw20.TestMatches", spec := "testMatches", unfollowed := true, recurses := true, named := ["unicode/utf8.first", "unicode/utf8.acceptRanges"], apart := false, laid := [("unicode/utf8.acceptRanges", laid_unicode_utf8_acceptRanges), ("unicode/utf8.first", laid_unicode_utf8_first)], narrowed := true }
def TestMatchesUptoSaid : Prop := testMatchesUptoRow.holds Tryd.pinned (OpenSpec.upto testMatchesSpec)

/-- 'intarsialaw20.TestConsts', WHERE WHAT IT READS IS OF BULK AT MOST 1048576: true; the input reads as it did. -/
def testConstsUptoRow : OpenClaim := { program := "ytcpokdjppedaoaadoor", sum := "c3e209671e6ed2be0b8092a1c124cda8e4b12eeaeb5dd7e720f8362a636766ee", func := "intarsia/intarsialaw20.TestConsts", spec := "testConsts", unfollowed := true, recurses := true, named := ["unicode/utf8.first", "unicode/utf8.acceptRanges"], apart := false, laid := [("unicode/utf8.acceptRanges", laid_unicode_utf8_acceptRanges), ("unicode/utf8.first", laid_unicode_utf8_first)], narrowed := true }
def TestConstsUptoSaid : Prop := testConstsUptoRow.holds Tryd.pinned (OpenSpec.upto testConstsSpec)

end Rows
end Go.Proofs.YtcpokdjppedaoaaDoor
