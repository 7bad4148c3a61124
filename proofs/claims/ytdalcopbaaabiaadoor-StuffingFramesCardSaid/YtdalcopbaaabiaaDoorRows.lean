/-
  NARROWER THAN 'FOR EVERY INPUT', by the rows' own cells (each row's printed sentence says how): StuffingLengths: laid · StuffingBegins: laid · StuffingWords: laid · StuffingInverse: laid · StuffingFrames: laid · StuffingBack: laid · StuffingValid: laid · StuffingStretches: laid.
  DERIVED. THE GIVEN ROWS OF THIS SEAT. 8 by the template 'for every input the law returns true; each argument reads behind the call as it read before'; 0 by the template 'total and deterministic' (their statements: YtdalcopbaaabiaaDoorTotals.lean).
  GIVEN WITH THE SEED: the statements are not yours to turn. If you find one false, say at which input.
  Laid BY PROGRAM, IN A SANDBOX (cutbox-rows.mjs): the forced cells as the released guide's own fill.sh prints them over the translation 019ebbb08c312af3… (all of the seat's roots in one cut). By AI agents, Wed Nov 11 2026. No macro, syntax, notation, axiom, sorry.
-/
import Derived.Test.YtdalcopbaaabiaaDoorChecked
import GoSem.PinnedTables
import GoSem.Claim
import GoSem.ClaimJoined
import GoSem.ClaimMapViews
import Derived.JoinedTies
import Derived.KernelRfl
namespace Go.Proofs.YtdalcopbaaabiaaDoor
/- THE CELL 'sum', in the pinned program and in every row, IS THE sha256 OF THE DUMP (.gsa) THAT YtdalcopbaaabiaaDoorProg.lean LOADS. Nothing in Lean hashes anything: it is a label: what it is worth is what the hold of that sum in a sandbox is worth. -/
noncomputable def Tryd.pinned : Pinned := { name := "ytdalcopbaaabiaadoor", sum := "019ebbb08c312af31a2c8e47a0c113d4ab4e984ab57bb5862202bc2c2864d175", checked := Tryd.checked }
namespace Rows
def none {H : Type} : Left H := { results := [], args := [] }

/- WHAT THE LISTED PACKAGE-LEVEL VARIABLES READ AS WHEN THE CALL BEGINS. Each datum BY PROGRAM (the guide's laid-datum.mjs) off the statement by which the dump's own 'gosem.cut.vars' lays the variable. In a bare row this is a premise. The card (YtdalcopbaaabiaaDoorCards.lean) ties it to the program's text. -/
def laid_unicode_utf8_acceptRanges {H : Type} : DataW H := .agg [.agg [.lit (.int .u8 128), .lit (.int .u8 191)], .agg [.lit (.int .u8 160), .lit (.int .u8 191)], .agg [.lit (.int .u8 128), .lit (.int .u8 159)], .agg [.lit (.int .u8 144), .lit (.int .u8 191)], .agg [.lit (.int .u8 128), .lit (.int .u8 143)], .agg [.lit (.int .u8 0), .lit (.int .u8 0)], .agg [.lit (.int .u8 0), .lit (.int .u8 0)], .agg [.lit (.int .u8 0), .lit (.int .u8 0)], .agg [.lit (.int .u8 0), .lit (.int .u8 0)], .agg [.lit (.int .u8 0), .lit (.int .u8 0)], .agg [.lit (.int .u8 0), .lit (.int .u8 0)], .agg [.lit (.int .u8 0), .lit (.int .u8 0)], .agg [.lit (.int .u8 0), .lit (.int .u8 0)], .agg [.lit (.int .u8 0), .lit (.int .u8 0)], .agg [.lit (.int .u8 0), .lit (.int .u8 0)], .agg [.lit (.int .u8 0), .lit (.int .u8 0)]]
/-- One of Go's own tables, pinned by name: the form's constant. -/
def laid_unicode_utf8_first : DataW Unit := Go.Pinned.utf8First

/-- 'groovelaw30.StuffingLengths': WHATEVER THE INPUT: true; the input reads as it did. -/
def stuffingLengthsSpec : ChangeSpec := { name := "stuffingLengths", fn := fun _ => fun
  | [d1, d2, d3] => { results := [.lit (.bool true)], args := [d1, d2, d3] }
  | _ => none }
def stuffingLengthsRow : OpenClaim := { program := "ytdalcopbaaabiaadoor", sum := "019ebbb08c312af31a2c8e47a0c113d4ab4e984ab57bb5862202bc2c2864d175", func := "groove/groovelaw30.StuffingLengths", spec := "stuffingLengths", inPlace := ["internal/bytealg.IndexByteString", "internal/abi.NoEscape", "internal/bytealg.CountString", "internal/bytealg.IndexString", "internal/bytealg.MakeNoZero"], unfollowed := true, recurses := true, named := ["internal/bytealg.MaxLen", "unicode/utf8.first", "unicode/utf8.acceptRanges"], apart := false, laid := [("unicode/utf8.acceptRanges", laid_unicode_utf8_acceptRanges), ("unicode/utf8.first", laid_unicode_utf8_first)] }
def StuffingLengthsSaid : Prop := stuffingLengthsRow.holds Tryd.pinned (OpenSpec.ofChange stuffingLengthsSpec)

/-- ITS FALSE NEIGHBOUR: 'it returns false'. Refute it at one input. -/
def stuffingLengthsWrong : ChangeSpec := { name := "stuffingLengths", fn := fun _ => fun
  | [d1, d2, d3] => { results := [.lit (.bool false)], args := [d1, d2, d3] }
  | _ => none }
def StuffingLengthsWrongFalsely : Prop := stuffingLengthsRow.holds Tryd.pinned (OpenSpec.ofChange stuffingLengthsWrong)

/-- 'groovelaw30.StuffingBegins': WHATEVER THE INPUT: true; the input reads as it did. -/
def stuffingBeginsSpec : ChangeSpec := { name := "stuffingBegins", fn := fun _ => fun
  | [d1, d2, d3, d4] => { results := [.lit (.bool true)], args := [d1, d2, d3, d4] }
  | _ => none }
def stuffingBeginsRow : OpenClaim := { program := "ytdalcopbaaabiaadoor", sum := "019ebbb08c312af31a2c8e47a0c113d4ab4e984ab57bb5862202bc2c2864d175", func := "groove/groovelaw30.StuffingBegins", spec := "stuffingBegins", inPlace := ["internal/bytealg.IndexByteString", "internal/abi.NoEscape", "internal/bytealg.CountString", "internal/bytealg.IndexString", "internal/bytealg.MakeNoZero"], unfollowed := true, recurses := true, named := ["internal/bytealg.MaxLen", "unicode/utf8.first", "unicode/utf8.acceptRanges"], apart := false, laid := [("unicode/utf8.acceptRanges", laid_unicode_utf8_acceptRanges), ("unicode/utf8.first", laid_unicode_utf8_first)] }
def StuffingBeginsSaid : Prop := stuffingBeginsRow.holds Tryd.pinned (OpenSpec.ofChange stuffingBeginsSpec)

/-- ITS FALSE NEIGHBOUR: 'it returns false'. Refute it at one input. -/
def stuffingBeginsWrong : ChangeSpec := { name := "stuffingBegins", fn := fun _ => fun
  | [d1, d2, d3, d4] => { results := [.lit (.bool false)], args := [d1, d2, d3, d4] }
  | _ => none }
def StuffingBeginsWrongFalsely : Prop := stuffingBeginsRow.holds Tryd.pinned (OpenSpec.ofChange stuffingBeginsWrong)

/-- 'groovelaw30.StuffingWords': WHATEVER THE INPUT: true; the input reads as it did. -/
def stuffingWordsSpec : ChangeSpec := { name := "stuffingWords", fn := fun _ => fun
  | [d1, d2, d3] => { results := [.lit (.bool true)], args := [d1, d2, d3] }
  | _ => none }
def stuffingWordsRow : OpenClaim := { program := "ytdalcopbaaabiaadoor", sum := "019ebbb08c312af31a2c8e47a0c113d4ab4e984ab57bb5862202bc2c2864d175", func := "groove/groovelaw30.StuffingWords", spec := "stuffingWords", inPlace := ["internal/bytealg.IndexByteString", "internal/abi.NoEscape", "internal/bytealg.CountString", "internal/bytealg.IndexString", "internal/bytealg.MakeNoZero"], unfollowed := true, recurses := true, named := ["internal/bytealg.MaxLen", "unicode/utf8.first", "unicode/utf8.acceptRanges"], apart := false, laid := [("unicode/utf8.acceptRanges", laid_unicode_utf8_acceptRanges), ("unicode/utf8.first", laid_unicode_utf8_first)] }
def StuffingWordsSaid : Prop := stuffingWordsRow.holds Tryd.pinned (OpenSpec.ofChange stuffingWordsSpec)

/-- ITS FALSE NEIGHBOUR: 'it returns false'. Refute it at one input. -/
def stuffingWordsWrong : ChangeSpec := { name := "stuffingWords", fn := fun _ => fun
  | [d1, d2, d3] => { results := [.lit (.bool false)], args := [d1, d2, d3] }
  | _ => none }
def StuffingWordsWrongFalsely : Prop := stuffingWordsRow.holds Tryd.pinned (OpenSpec.ofChange stuffingWordsWrong)

/-- 'groovelaw30.StuffingInverse': WHATEVER THE INPUT: true; the input reads as it did. -/
def stuffingInverseSpec : ChangeSpec := { name := "stuffingInverse", fn := fun _ => fun
  | [d1, d2, d3] => { results := [.lit (.bool true)], args := [d1, d2, d3] }
  | _ => none }
def stuffingInverseRow : OpenClaim := { program := "ytdalcopbaaabiaadoor", sum := "019ebbb08c312af31a2c8e47a0c113d4ab4e984ab57bb5862202bc2c2864d175", func := "groove/groovelaw30.StuffingInverse", spec := "stuffingInverse", inPlace := ["internal/bytealg.IndexByteString", "internal/abi.NoEscape", "internal/bytealg.CountString", "internal/bytealg.IndexString", "internal/bytealg.MakeNoZero"], unfollowed := true, recurses := true, named := ["internal/bytealg.MaxLen", "unicode/utf8.first", "unicode/utf8.acceptRanges"], apart := false, laid := [("unicode/utf8.acceptRanges", laid_unicode_utf8_acceptRanges), ("unicode/utf8.first", laid_unicode_utf8_first)] }
def StuffingInverseSaid : Prop := stuffingInverseRow.holds Tryd.pinned (OpenSpec.ofChange stuffingInverseSpec)

/-- ITS FALSE NEIGHBOUR: 'it returns false'. Refute it at one input. -/
def stuffingInverseWrong : ChangeSpec := { name := "stuffingInverse", fn := fun _ => fun
  | [d1, d2, d3] => { results := [.lit (.bool false)], args := [d1, d2, d3] }
  | _ => none }
def StuffingInverseWrongFalsely : Prop := stuffingInverseRow.holds Tryd.pinned (OpenSpec.ofChange stuffingInverseWrong)

/-- 'groovelaw30.StuffingFrames': WHATEVER THE INPUT: true; the input reads as it did. -/
def stuffingFramesSpec : ChangeSpec := { name := "stuffingFrames", fn := fun _ => fun
  | [d1, d2] => { results := [.lit (.bool true)], args := [d1, d2] }
  | _ => none }
def stuffingFramesRow : OpenClaim := { program := "ytdalcopbaaabiaadoor", sum := "019ebbb08c312af31a2c8e47a0c113d4ab4e984ab57bb5862202bc2c2864d175", func := "groove/groovelaw30.StuffingFrames", spec := "stuffingFrames", inPlace := ["internal/bytealg.IndexByteString", "internal/abi.NoEscape", "internal/bytealg.CountString", "internal/bytealg.IndexString", "internal/bytealg.MakeNoZero"], unfollowed := true, recurses := true, named := ["internal/bytealg.MaxLen", "unicode/utf8.first", "unicode/utf8.acceptRanges"], apart := false, laid := [("unicode/utf8.acceptRanges", laid_unicode_utf8_acceptRanges), ("unicode/utf8.first", laid_unicode_utf8_first)] }
def StuffingFramesSaid : Prop := stuffingFramesRow.holds Tryd.pinned (OpenSpec.ofChange stuffingFramesSpec)

/-- ITS FALSE NEIGHBOUR: 'it returns false'. Refute it at one input. -/
def stuffingFramesWrong : ChangeSpec := { name := "stuffingFrames", fn := fun _ => fun
  | [d1, d2] => { results := [.lit (.bool false)], args := [d1, d2] }
  | _ => none }
def StuffingFramesWrongFalsely : Prop := stuffingFramesRow.holds Tryd.pinned (OpenSpec.ofChange stuffingFramesWrong)

/-- 'groovelaw30.StuffingBack': WHATEVER THE INPUT: true; the input reads as it did. -/
def stuffingBackSpec : ChangeSpec := { name := "stuffingBack", fn := fun _ => fun
  | [d1, d2, d3] => { results := [.lit (.bool true)], args := [d1, d2, d3] }
  | _ => none }
def stuffingBackRow : OpenClaim := { program := "ytdalcopbaaabiaadoor", sum := "019ebbb08c312af31a2c8e47a0c113d4ab4e984ab57bb5862202bc2c2864d175", func := "groove/groovelaw30.StuffingBack", spec := "stuffingBack", inPlace := ["internal/bytealg.IndexByteString", "internal/abi.NoEscape", "internal/bytealg.CountString", "internal/bytealg.IndexString", "internal/bytealg.MakeNoZero"], unfollowed := true, recurses := true, named := ["internal/bytealg.MaxLen", "unicode/utf8.first", "unicode/utf8.acceptRanges"], apart := false, laid := [("unicode/utf8.acceptRanges", laid_unicode_utf8_acceptRanges), ("unicode/utf8.first", laid_unicode_utf8_first)] }
def StuffingBackSaid : Prop := stuffingBackRow.holds Tryd.pinned (OpenSpec.ofChange stuffingBackSpec)

/-- ITS FALSE NEIGHBOUR: 'it returns false'. Refute it at one input. -/
def stuffingBackWrong : ChangeSpec := { name := "stuffingBack", fn := fun _ => fun
  | [d1, d2, d3] => { results := [.lit (.bool false)], args := [d1, d2, d3] }
  | _ => none }
def StuffingBackWrongFalsely : Prop := stuffingBackRow.holds Tryd.pinned (OpenSpec.ofChange stuffingBackWrong)

/-- 'groovelaw30.StuffingValid': WHATEVER THE INPUT: true; the input reads as it did. -/
def stuffingValidSpec : ChangeSpec := { name := "stuffingValid", fn := fun _ => fun
  | [d1, d2, d3] => { results := [.lit (.bool true)], args := [d1, d2, d3] }
  | _ => none }
def stuffingValidRow : OpenClaim := { program := "ytdalcopbaaabiaadoor", sum := "019ebbb08c312af31a2c8e47a0c113d4ab4e984ab57bb5862202bc2c2864d175", func := "groove/groovelaw30.StuffingValid", spec := "stuffingValid", inPlace := ["internal/bytealg.IndexByteString", "internal/abi.NoEscape", "internal/bytealg.CountString", "internal/bytealg.IndexString", "internal/bytealg.MakeNoZero"], unfollowed := true, recurses := true, named := ["internal/bytealg.MaxLen", "unicode/utf8.first", "unicode/utf8.acceptRanges"], apart := false, laid := [("unicode/utf8.acceptRanges", laid_unicode_utf8_acceptRanges), ("unicode/utf8.first", laid_unicode_utf8_first)] }
def StuffingValidSaid : Prop := stuffingValidRow.holds Tryd.pinned (OpenSpec.ofChange stuffingValidSpec)

/-- ITS FALSE NEIGHBOUR: 'it returns false'. Refute it at one input. -/
def stuffingValidWrong : ChangeSpec := { name := "stuffingValid", fn := fun _ => fun
  | [d1, d2, d3] => { results := [.lit (.bool false)], args := [d1, d2, d3] }
  | _ => none }
def StuffingValidWrongFalsely : Prop := stuffingValidRow.holds Tryd.pinned (OpenSpec.ofChange stuffingValidWrong)

/-- 'groovelaw30.StuffingStretches': WHATEVER THE INPUT: true; the input reads as it did. -/
def stuffingStretchesSpec : ChangeSpec := { name := "stuffingStretches", fn := fun _ => fun
  | [d] => { results := [.lit (.bool true)], args := [d] }
  | _ => none }
def stuffingStretchesRow : OpenClaim := { program := "ytdalcopbaaabiaadoor", sum := "019ebbb08c312af31a2c8e47a0c113d4ab4e984ab57bb5862202bc2c2864d175", func := "groove/groovelaw30.StuffingStretches", spec := "stuffingStretches", inPlace := ["internal/bytealg.IndexByteString", "internal/abi.NoEscape", "internal/bytealg.CountString", "internal/bytealg.IndexString", "internal/bytealg.MakeNoZero"], unfollowed := true, recurses := true, named := ["internal/bytealg.MaxLen", "unicode/utf8.first", "unicode/utf8.acceptRanges"], apart := false, laid := [("unicode/utf8.acceptRanges", laid_unicode_utf8_acceptRanges), ("unicode/utf8.first", laid_unicode_utf8_first)] }
def StuffingStretchesSaid : Prop := stuffingStretchesRow.holds Tryd.pinned (OpenSpec.ofChange stuffingStretchesSpec)

/-- ITS FALSE NEIGHBOUR: 'it returns false'. Refute it at one input. -/
def stuffingStretchesWrong : ChangeSpec := { name := "stuffingStretches", fn := fun _ => fun
  | [d] => { results := [.lit (.bool false)], args := [d] }
  | _ => none }
def StuffingStretchesWrongFalsely : Prop := stuffingStretchesRow.holds Tryd.pinned (OpenSpec.ofChange stuffingStretchesWrong)

/- THE SECOND FORM. 'bulk': how many values and letters a reading holds, each counted each time it is reached (what is shared counts as often as it is met; a slice's spare places count too). A statement '..UptoSaid' is the law's where the arguments, and the package variables that the reading takes, are together of bulk at most 1048576: NARROWER than '..Said'. Prove '..Said' where nothing that the law and all that it calls make is longer than what came in: it says more and counts as full. Else prove '..UptoSaid'. A law counts once. -/
mutual
def uptoBulk {H : Type} : DataW H → Nat
  | .lit (.string bytes) => bytes.length + 1
  | .lit _ => 1
  | .nil => 1
  | .ptr d => uptoBulk d + 1
  | .slice elems spare => uptoBulkAll elems + uptoBulkAll spare + 1
  | .agg parts => uptoBulkAll parts + 1
  | .iface _ d => uptoBulk d + 1
  | .map entries => uptoBulkEntries entries + 1
  | .held _ => 1
def uptoBulkAll {H : Type} : List (DataW H) → Nat
  | [] => 0
  | d :: r => uptoBulk d + uptoBulkAll r
def uptoBulkEntries {H : Type} : List (Lit × DataW H) → Nat
  | [] => 0
  | x :: r => uptoBulkEntry x + uptoBulkEntries r
def uptoBulkEntry {H : Type} : Lit × DataW H → Nat
  | (.string bytes, d) => bytes.length + uptoBulk d + 1
  | (_, d) => uptoBulk d + 1
 end
def uptoSmall : (H : Type) → List (DataW H) → Bool := fun _ ds => decide (uptoBulkAll ds ≤ 1048576)
def OpenSpec.upto (s : _root_.Go.ChangeSpec) : _root_.Go.OpenSpec := { _root_.Go.OpenSpec.ofChange s with cond := some uptoSmall }

/-- 'groovelaw30.StuffingLengths', WHERE WHAT IT READS IS OF BULK AT MOST 1048576: true; the input reads as it did. -/
def stuffingLengthsUptoRow : OpenClaim := { program := "ytdalcopbaaabiaadoor", sum := "019ebbb08c312af31a2c8e47a0c113d4ab4e984ab57bb5862202bc2c2864d175", func := "groove/groovelaw30.StuffingLengths", spec := "stuffingLengths", inPlace := ["internal/bytealg.IndexByteString", "internal/abi.NoEscape", "internal/bytealg.CountString", "internal/bytealg.IndexString", "internal/bytealg.MakeNoZero"], unfollowed := true, recurses := true, named := ["internal/bytealg.MaxLen", "unicode/utf8.first", "unicode/utf8.acceptRanges"], apart := false, laid := [("unicode/utf8.acceptRanges", laid_unicode_utf8_acceptRanges), ("unicode/utf8.first", laid_unicode_utf8_first)], narrowed := true }
def StuffingLengthsUptoSaid : Prop := stuffingLengthsUptoRow.holds Tryd.pinned (OpenSpec.upto stuffingLengthsSpec)

/-- 'groovelaw30.StuffingBegins', WHERE WHAT IT READS IS OF BULK AT MOST 1048576: true; the input reads as it did. -/
def stuffingBeginsUptoRow : OpenClaim := { program := "ytdalcopbaaabiaadoor", sum := "019ebbb08c312af31a2c8e47a0c113d4ab4e984ab57bb5862202bc2c2864d175", func := "groove/groovelaw30.StuffingBegins", spec := "stuffingBegins", inPlace := ["internal/bytealg.IndexByteString", "internal/abi.NoEscape", "internal/bytealg.CountString", "internal/bytealg.IndexString", "internal/bytealg.MakeNoZero"], unfollowed := true, recurses := true, named := ["internal/bytealg.MaxLen", "unicode/utf8.first", "unicode/utf8.acceptRanges"], apart := false, laid := [("unicode/utf8.acceptRanges", laid_unicode_utf8_acceptRanges), ("unicode/utf8.first", laid_unicode_utf8_first)], narrowed := true }
def StuffingBeginsUptoSaid : Prop := stuffingBeginsUptoRow.holds Tryd.pinned (OpenSpec.upto stuffingBeginsSpec)

/-- 'groovelaw30.StuffingWords', WHERE WHAT IT READS IS OF BULK AT MOST 1048576: true; the input reads as it did. -/
def stuffingWordsUptoRow : OpenClaim := { program := "ytdalcopbaaabiaadoor", sum := "019ebbb08c312af31a2c8e47a0c113d4ab4e984ab57bb5862202bc2c2864d175", func := "groove/groovelaw30.StuffingWords", spec := "stuffingWords", inPlace := ["internal/bytealg.IndexByteString", "internal/abi.NoEscape", "internal/bytealg.CountString", "internal/bytealg.IndexString", "internal/bytealg.MakeNoZero"], unfollowed := true, recurses := true, named := ["internal/bytealg.MaxLen", "unicode/utf8.first", "unicode/utf8.acceptRanges"], apart := false, laid := [("unicode/utf8.acceptRanges", laid_unicode_utf8_acceptRanges), ("unicode/utf8.first", laid_unicode_utf8_first)], narrowed := true }
def StuffingWordsUptoSaid : Prop := stuffingWordsUptoRow.holds Tryd.pinned (OpenSpec.upto stuffingWordsSpec)

/-- 'groovelaw30.StuffingInverse', WHERE WHAT IT READS IS OF BULK AT MOST 1048576: true; the input reads as it did. -/
def stuffingInverseUptoRow : OpenClaim := { program := "ytdalcopbaaabiaadoor", sum := "019ebbb08c312af31a2c8e47a0c113d4ab4e984ab57bb5862202bc2c2864d175", func := "groove/groovelaw30.StuffingInverse", spec := "stuffingInverse", inPlace := ["internal/bytealg.IndexByteString", "internal/abi.NoEscape", "internal/bytealg.CountString", "internal/bytealg.IndexString", "internal/bytealg.MakeNoZero"], unfollowed := true, recurses := true, named := ["internal/bytealg.MaxLen", "unicode/utf8.first", "unicode/utf8.acceptRanges"], apart := false, laid := [("unicode/utf8.acceptRanges", laid_unicode_utf8_acceptRanges), ("unicode/utf8.first", laid_unicode_utf8_first)], narrowed := true }
def StuffingInverseUptoSaid : Prop := stuffingInverseUptoRow.holds Tryd.pinned (OpenSpec.upto stuffingInverseSpec)

/-- 'groovelaw30.StuffingFrames', WHERE WHAT IT READS IS OF BULK AT MOST 1048576: true; the input reads as it did. -/
def stuffingFramesUptoRow : OpenClaim := { program := "ytdalcopbaaabiaadoor", sum := "019ebbb08c312af31a2c8e47a0c113d4ab4e984ab57bb5862202bc2c2864d175", func := "groove/groovelaw30.StuffingFrames", spec := "stuffingFrames", inPlace := ["internal/bytealg.IndexByteString", "internal/abi.NoEscape", "internal/bytealg.CountString", "internal/bytealg.IndexString", "internal/bytealg.MakeNoZero"], unfollowed := true, recurses := true, named := ["internal/bytealg.MaxLen", "unicode/utf8.first", "unicode/utf8.acceptRanges"], apart := false, laid := [("unicode/utf8.acceptRanges", laid_unicode_utf8_acceptRanges), ("unicode/utf8.first", laid_unicode_utf8_first)], narrowed := true }
def StuffingFramesUptoSaid : Prop := stuffingFramesUptoRow.holds Tryd.pinned (OpenSpec.upto stuffingFramesSpec)

/-- 'groovelaw30.StuffingBack', WHERE WHAT IT READS IS OF BULK AT MOST 1048576: true; the input reads as it did. -/
def stuffingBackUptoRow : OpenClaim := { program := "ytdalcopbaaabiaadoor", sum := "019ebbb08c312af31a2c8e47a0c113d4ab4e984ab57bb5862202bc2c2864d175", func := "groove/groovelaw30.StuffingBack", spec := "stuffingBack", inPlace := ["internal/bytealg.IndexByteString", "internal/abi.NoEscape", "internal/bytealg.CountString", "internal/bytealg.IndexString", "internal/bytealg.MakeNoZero"], unfollowed := true, recurses := true, named := ["internal/bytealg.MaxLen", "unicode/utf8.first", "unicode/utf8.acceptRanges"], apart := false, laid := [("unicode/utf8.acceptRanges", laid_unicode_utf8_acceptRanges), ("unicode/utf8.first", laid_unicode_utf8_first)], narrowed := true }
def StuffingBackUptoSaid : Prop := stuffingBackUptoRow.holds Tryd.pinned (OpenSpec.upto stuffingBackSpec)

/-- 'groovelaw30.StuffingValid', WHERE WHAT IT READS IS OF BULK AT MOST 1048576: true; the input reads as it did. -/
def stuffingValidUptoRow : OpenClaim := { program := "ytdalcopbaaabiaadoor", sum := "019ebbb08c312af31a2c8e47a0c113d4ab4e984ab57bb5862202bc2c2864d175", func := "groove/groovelaw30.StuffingValid", spec := "stuffingValid", inPlace := ["internal/bytealg.IndexByteString", "internal/abi.NoEscape", "internal/bytealg.CountString", "internal/bytealg.IndexString", "internal/bytealg.MakeNoZero"], unfollowed := true, recurses := true, named := ["internal/bytealg.MaxLen", "unicode/utf8.first", "unicode/utf8.acceptRanges"], apart := false, laid := [("unicode/utf8.acceptRanges", laid_unicode_utf8_acceptRanges), ("unicode/utf8.first", laid_unicode_utf8_first)], narrowed := true }
def StuffingValidUptoSaid : Prop := stuffingValidUptoRow.holds Tryd.pinned (OpenSpec.upto stuffingValidSpec)

/-- 'groovelaw30.StuffingStretches', WHERE WHAT IT READS IS OF BULK AT MOST 1048576: true; the input reads as it did. -/
def stuffingStretchesUptoRow : OpenClaim := { program := "ytdalcopbaaabiaadoor", sum := "019ebbb08c312af31a2c8e47a0c113d4ab4e984ab57bb5862202bc2c2864d175", func := "groove/groovelaw30.StuffingStretches", spec := "stuffingStretches", inPlace := ["internal/bytealg.IndexByteString", "internal/abi.NoEscape", "internal/bytealg.CountString", "internal/bytealg.IndexString", "internal/bytealg.MakeNoZero"], unfollowed := true, recurses := true, named := ["internal/bytealg.MaxLen", "unicode/utf8.first", "unicode/utf8.acceptRanges"], apart := false, laid := [("unicode/utf8.acceptRanges", laid_unicode_utf8_acceptRanges), ("unicode/utf8.first", laid_unicode_utf8_first)], narrowed := true }
def StuffingStretchesUptoSaid : Prop := stuffingStretchesUptoRow.holds Tryd.pinned (OpenSpec.upto stuffingStretchesSpec)

end Rows
end Go.Proofs.YtdalcopbaaabiaaDoor
