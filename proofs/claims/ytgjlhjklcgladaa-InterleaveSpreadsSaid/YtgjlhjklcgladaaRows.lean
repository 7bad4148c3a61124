/-
  No cell of these rows narrows 'for every input' (looked for: loops, veiled, ifaces, maps, wideKeys, modest, calm, conditions, laid).
  DERIVED. THE GIVEN ROWS OF THIS SEAT. 7 by the template 'for every input the law returns true; each argument reads behind the call as it read before'; 0 by the template 'total and deterministic' (their statements: YtgjlhjklcgladaaTotals.lean).
  GIVEN WITH THE SEED: the statements are not yours to turn. If you find one false, say at which input.
  Laid BY PROGRAM, IN A SANDBOX (cutbox-rows.mjs): the forced cells as the released guide's own fill.sh prints them over the translation 492883194fdf2efb… (all of the seat's roots in one cut). By AI agents, Wed Nov 11 2026. No macro, syntax, notation, axiom, sorry.
-/
import Derived.Test.YtgjlhjklcgladaaChecked
import GoSem.Claim
import GoSem.ClaimJoined
import GoSem.ClaimMapViews
import Derived.JoinedTies
import Derived.KernelRfl
namespace Go.Proofs.Ytgjlhjklcgladaa
/- THE CELL 'sum', in the pinned program and in every row, IS THE sha256 OF THE DUMP (.gsa) THAT YtgjlhjklcgladaaProg.lean LOADS. Nothing in Lean hashes anything: it is a label: what it is worth is what the hold of that sum in a sandbox is worth. -/
noncomputable def Try.pinned : Pinned := { name := "ytgjlhjklcgladaa", sum := "492883194fdf2efb5b2fe8057329dc463d32eab7476fb0940421b2922f1aa5d8", checked := Try.checked }
namespace Rows
def none {H : Type} : Left H := { results := [], args := [] }

/-- 'groovelaw52.InterleaveInverse': WHATEVER THE INPUT: true; the input reads as it did. -/
def interleaveInverseSpec : ChangeSpec := { name := "interleaveInverse", fn := fun _ => fun
  | [d1, d2] => { results := [.lit (.bool true)], args := [d1, d2] }
  | _ => none }
def interleaveInverseRow : OpenClaim := { program := "ytgjlhjklcgladaa", sum := "492883194fdf2efb5b2fe8057329dc463d32eab7476fb0940421b2922f1aa5d8", func := "groove/groovelaw52.InterleaveInverse", spec := "interleaveInverse", inPlace := ["internal/bytealg.IndexByteString"], unfollowed := true, recurses := true, apart := false }
def InterleaveInverseSaid : Prop := interleaveInverseRow.holds Try.pinned (OpenSpec.ofChange interleaveInverseSpec)

/-- ITS FALSE NEIGHBOUR: 'it returns false'. Refute it at one input. -/
def interleaveInverseWrong : ChangeSpec := { name := "interleaveInverse", fn := fun _ => fun
  | [d1, d2] => { results := [.lit (.bool false)], args := [d1, d2] }
  | _ => none }
def InterleaveInverseWrongFalsely : Prop := interleaveInverseRow.holds Try.pinned (OpenSpec.ofChange interleaveInverseWrong)

/-- 'groovelaw52.InterleavePositions': WHATEVER THE INPUT: true; the input reads as it did. -/
def interleavePositionsSpec : ChangeSpec := { name := "interleavePositions", fn := fun _ => fun
  | [d1, d2] => { results := [.lit (.bool true)], args := [d1, d2] }
  | _ => none }
def interleavePositionsRow : OpenClaim := { program := "ytgjlhjklcgladaa", sum := "492883194fdf2efb5b2fe8057329dc463d32eab7476fb0940421b2922f1aa5d8", func := "groove/groovelaw52.InterleavePositions", spec := "interleavePositions", inPlace := ["internal/bytealg.IndexByteString"], unfollowed := true, recurses := true, apart := false }
def InterleavePositionsSaid : Prop := interleavePositionsRow.holds Try.pinned (OpenSpec.ofChange interleavePositionsSpec)

/-- ITS FALSE NEIGHBOUR: 'it returns false'. Refute it at one input. -/
def interleavePositionsWrong : ChangeSpec := { name := "interleavePositions", fn := fun _ => fun
  | [d1, d2] => { results := [.lit (.bool false)], args := [d1, d2] }
  | _ => none }
def InterleavePositionsWrongFalsely : Prop := interleavePositionsRow.holds Try.pinned (OpenSpec.ofChange interleavePositionsWrong)

/-- 'groovelaw52.InterleaveOrder': WHATEVER THE INPUT: true; the input reads as it did. -/
def interleaveOrderSpec : ChangeSpec := { name := "interleaveOrder", fn := fun _ => fun
  | [d1, d2] => { results := [.lit (.bool true)], args := [d1, d2] }
  | _ => none }
def interleaveOrderRow : OpenClaim := { program := "ytgjlhjklcgladaa", sum := "492883194fdf2efb5b2fe8057329dc463d32eab7476fb0940421b2922f1aa5d8", func := "groove/groovelaw52.InterleaveOrder", spec := "interleaveOrder", inPlace := ["internal/bytealg.IndexByteString"], unfollowed := true, recurses := true, apart := false }
def InterleaveOrderSaid : Prop := interleaveOrderRow.holds Try.pinned (OpenSpec.ofChange interleaveOrderSpec)

/-- ITS FALSE NEIGHBOUR: 'it returns false'. Refute it at one input. -/
def interleaveOrderWrong : ChangeSpec := { name := "interleaveOrder", fn := fun _ => fun
  | [d1, d2] => { results := [.lit (.bool false)], args := [d1, d2] }
  | _ => none }
def InterleaveOrderWrongFalsely : Prop := interleaveOrderRow.holds Try.pinned (OpenSpec.ofChange interleaveOrderWrong)

/-- 'groovelaw52.InterleaveWords': WHATEVER THE INPUT: true; the input reads as it did. -/
def interleaveWordsSpec : ChangeSpec := { name := "interleaveWords", fn := fun _ => fun
  | [d1, d2] => { results := [.lit (.bool true)], args := [d1, d2] }
  | _ => none }
def interleaveWordsRow : OpenClaim := { program := "ytgjlhjklcgladaa", sum := "492883194fdf2efb5b2fe8057329dc463d32eab7476fb0940421b2922f1aa5d8", func := "groove/groovelaw52.InterleaveWords", spec := "interleaveWords", inPlace := ["internal/bytealg.IndexByteString"], unfollowed := true, recurses := true, apart := false }
def InterleaveWordsSaid : Prop := interleaveWordsRow.holds Try.pinned (OpenSpec.ofChange interleaveWordsSpec)

/-- ITS FALSE NEIGHBOUR: 'it returns false'. Refute it at one input. -/
def interleaveWordsWrong : ChangeSpec := { name := "interleaveWords", fn := fun _ => fun
  | [d1, d2] => { results := [.lit (.bool false)], args := [d1, d2] }
  | _ => none }
def InterleaveWordsWrongFalsely : Prop := interleaveWordsRow.holds Try.pinned (OpenSpec.ofChange interleaveWordsWrong)

/-- 'groovelaw52.InterleaveDelays': WHATEVER THE INPUT: true; the input reads as it did. -/
def interleaveDelaysSpec : ChangeSpec := { name := "interleaveDelays", fn := fun _ => fun
  | [d1, d2, d3, d4] => { results := [.lit (.bool true)], args := [d1, d2, d3, d4] }
  | _ => none }
def interleaveDelaysRow : OpenClaim := { program := "ytgjlhjklcgladaa", sum := "492883194fdf2efb5b2fe8057329dc463d32eab7476fb0940421b2922f1aa5d8", func := "groove/groovelaw52.InterleaveDelays", spec := "interleaveDelays", inPlace := ["internal/bytealg.IndexByteString"], unfollowed := true, recurses := true, apart := false }
def InterleaveDelaysSaid : Prop := interleaveDelaysRow.holds Try.pinned (OpenSpec.ofChange interleaveDelaysSpec)

/-- ITS FALSE NEIGHBOUR: 'it returns false'. Refute it at one input. -/
def interleaveDelaysWrong : ChangeSpec := { name := "interleaveDelays", fn := fun _ => fun
  | [d1, d2, d3, d4] => { results := [.lit (.bool false)], args := [d1, d2, d3, d4] }
  | _ => none }
def InterleaveDelaysWrongFalsely : Prop := interleaveDelaysRow.holds Try.pinned (OpenSpec.ofChange interleaveDelaysWrong)

/-- 'groovelaw52.InterleaveNumbers': WHATEVER THE INPUT: true; the input reads as it did. -/
def interleaveNumbersSpec : ChangeSpec := { name := "interleaveNumbers", fn := fun _ => fun
  | [d1, d2, d3, d4] => { results := [.lit (.bool true)], args := [d1, d2, d3, d4] }
  | _ => none }
def interleaveNumbersRow : OpenClaim := { program := "ytgjlhjklcgladaa", sum := "492883194fdf2efb5b2fe8057329dc463d32eab7476fb0940421b2922f1aa5d8", func := "groove/groovelaw52.InterleaveNumbers", spec := "interleaveNumbers", inPlace := ["internal/bytealg.IndexByteString"], unfollowed := true, recurses := true, apart := false }
def InterleaveNumbersSaid : Prop := interleaveNumbersRow.holds Try.pinned (OpenSpec.ofChange interleaveNumbersSpec)

/-- ITS FALSE NEIGHBOUR: 'it returns false'. Refute it at one input. -/
def interleaveNumbersWrong : ChangeSpec := { name := "interleaveNumbers", fn := fun _ => fun
  | [d1, d2, d3, d4] => { results := [.lit (.bool false)], args := [d1, d2, d3, d4] }
  | _ => none }
def InterleaveNumbersWrongFalsely : Prop := interleaveNumbersRow.holds Try.pinned (OpenSpec.ofChange interleaveNumbersWrong)

/-- 'groovelaw52.InterleaveSpreads': WHATEVER THE INPUT: true; the input reads as it did. -/
def interleaveSpreadsSpec : ChangeSpec := { name := "interleaveSpreads", fn := fun _ => fun
  | [d1, d2, d3] => { results := [.lit (.bool true)], args := [d1, d2, d3] }
  | _ => none }
def interleaveSpreadsRow : OpenClaim := { program := "ytgjlhjklcgladaa", sum := "492883194fdf2efb5b2fe8057329dc463d32eab7476fb0940421b2922f1aa5d8", func := "groove/groovelaw52.InterleaveSpreads", spec := "interleaveSpreads", inPlace := ["internal/bytealg.IndexByteString"], unfollowed := true, recurses := true, apart := false }
def InterleaveSpreadsSaid : Prop := interleaveSpreadsRow.holds Try.pinned (OpenSpec.ofChange interleaveSpreadsSpec)

/-- ITS FALSE NEIGHBOUR: 'it returns false'. Refute it at one input. -/
def interleaveSpreadsWrong : ChangeSpec := { name := "interleaveSpreads", fn := fun _ => fun
  | [d1, d2, d3] => { results := [.lit (.bool false)], args := [d1, d2, d3] }
  | _ => none }
def InterleaveSpreadsWrongFalsely : Prop := interleaveSpreadsRow.holds Try.pinned (OpenSpec.ofChange interleaveSpreadsWrong)

/- THE SECOND FORM. 'bulk': how many values and letters a reading holds, each counted each time it is reached (what is shared counts as often as it is met; a slice's spare places count too). A statement '..UptoSaid' is the law's where the arguments, and the package variables that the reading takes, are together of bulk at most 1048576: NARROWER than '..Said'. Prove '..Said' where nothing that the law and all that it calls make is longer than what came in: it says more and counts as full. Else prove '..UptoSaid'. A law counts once. -/
mutual
def uptoBulk {H : Type} : DataW H → Nat
  | .lit (.string bytes) => bytes.length + 1
  | .lit _ => 1
  | .nil => 1
  | .ptr d => uptoBulk d + 1
  | .slice elems spare => uptoBulkAll elems + uptoBulkAll spare + 1
  | .agg parts => uptoBulkAll parts + 1
  | .iface _ d => uptoBulk d + 1
  | .map entries => uptoBulkEntries entries + 1
  | .held _ => 1
def uptoBulkAll {H : Type} : List (DataW H) → Nat
  | [] => 0
  | d :: r => uptoBulk d + uptoBulkAll r
def uptoBulkEntries {H : Type} : List (Lit × DataW H) → Nat
  | [] => 0
  | x :: r => uptoBulkEntry x + uptoBulkEntries r
def uptoBulkEntry {H : Type} : Lit × DataW H → Nat
  | (.string bytes, d) => bytes.length + uptoBulk d + 1
  | (_, d) => uptoBulk d + 1
 end
def uptoSmall : (H : Type) → List (DataW H) → Bool := fun _ ds => decide (uptoBulkAll ds ≤ 1048576)
def OpenSpec.upto (s : _root_.Go.ChangeSpec) : _root_.Go.OpenSpec := { _root_.Go.OpenSpec.ofChange s with cond := some uptoSmall }

/-- 'groovelaw52.InterleaveInverse', WHERE WHAT IT READS IS OF BULK AT MOST 1048576: true; the input reads as it did. -/
def interleaveInverseUptoRow : OpenClaim := { program := "ytgjlhjklcgladaa", sum := "492883194fdf2efb5b2fe8057329dc463d32eab7476fb0940421b2922f1aa5d8", func := "groove/groovelaw52.InterleaveInverse", spec := "interleaveInverse", inPlace := ["internal/bytealg.IndexByteString"], unfollowed := true, recurses := true, apart := false, narrowed := true }
def InterleaveInverseUptoSaid : Prop := interleaveInverseUptoRow.holds Try.pinned (OpenSpec.upto interleaveInverseSpec)

/-- 'groovelaw52.InterleavePositions', WHERE WHAT IT READS IS OF BULK AT MOST 1048576: true; the input reads as it did. -/
def interleavePositionsUptoRow : OpenClaim := { program := "ytgjlhjklcgladaa", sum := "492883194fdf2efb5b2fe8057329dc463d32eab7476fb0940421b2922f1aa5d8", func := "groove/groovelaw52.InterleavePositions", spec := "interleavePositions", inPlace := ["internal/bytealg.IndexByteString"], unfollowed := true, recurses := true, apart := false, narrowed := true }
def InterleavePositionsUptoSaid : Prop := interleavePositionsUptoRow.holds Try.pinned (OpenSpec.upto interleavePositionsSpec)

/-- 'groovelaw52.InterleaveOrder', WHERE WHAT IT READS IS OF BULK AT MOST 1048576: true; the input reads as it did. -/
def interleaveOrderUptoRow : OpenClaim := { program := "ytgjlhjklcgladaa", sum := "492883194fdf2efb5b2fe8057329dc463d32eab7476fb0940421b2922f1aa5d8", func := "groove/groovelaw52.InterleaveOrder", spec := "interleaveOrder", inPlace := ["internal/bytealg.IndexByteString"], unfollowed := true, recurses := true, apart := false, narrowed := true }
def InterleaveOrderUptoSaid : Prop := interleaveOrderUptoRow.holds Try.pinned (OpenSpec.upto interleaveOrderSpec)

/-- 'groovelaw52.InterleaveWords', WHERE WHAT IT READS IS OF BULK AT MOST 1048576: true; the input reads as it did. -/
def interleaveWordsUptoRow : OpenClaim := { program := "ytgjlhjklcgladaa", sum := "492883194fdf2efb5b2fe8057329dc463d32eab7476fb0940421b2922f1aa5d8", func := "groove/groovelaw52.InterleaveWords", spec := "interleaveWords", inPlace := ["internal/bytealg.IndexByteString"], unfollowed := true, recurses := true, apart := false, narrowed := true }
def InterleaveWordsUptoSaid : Prop := interleaveWordsUptoRow.holds Try.pinned (OpenSpec.upto interleaveWordsSpec)

/-- 'groovelaw52.InterleaveDelays', WHERE WHAT IT READS IS OF BULK AT MOST 1048576: true; the input reads as it did. -/
def interleaveDelaysUptoRow : OpenClaim := { program := "ytgjlhjklcgladaa", sum := "492883194fdf2efb5b2fe8057329dc463d32eab7476fb0940421b2922f1aa5d8", func := "groove/groovelaw52.InterleaveDelays", spec := "interleaveDelays", inPlace := ["internal/bytealg.IndexByteString"], unfollowed := true, recurses := true, apart := false, narrowed := true }
def InterleaveDelaysUptoSaid : Prop := interleaveDelaysUptoRow.holds Try.pinned (OpenSpec.upto interleaveDelaysSpec)

/-- 'groovelaw52.InterleaveNumbers', WHERE WHAT IT READS IS OF BULK AT MOST 1048576: true; the input reads as it did. -/
def interleaveNumbersUptoRow : OpenClaim := { program := "ytgjlhjklcgladaa", sum := "492883194fdf2efb5b2fe8057329dc463d32eab7476fb0940421b2922f1aa5d8", func := "groove/groovelaw52.InterleaveNumbers", spec := "interleaveNumbers", inPlace := ["internal/bytealg.IndexByteString"], unfollowed := true, recurses := true, apart := false, narrowed := true }
def InterleaveNumbersUptoSaid : Prop := interleaveNumbersUptoRow.holds Try.pinned (OpenSpec.upto interleaveNumbersSpec)

/-- 'groovelaw52.InterleaveSpreads', WHERE WHAT IT READS IS OF BULK AT MOST 1048576: true; the input reads as it did. -/
def interleaveSpreadsUptoRow : OpenClaim := { program := "ytgjlhjklcgladaa", sum := "492883194fdf2efb5b2fe8057329dc463d32eab7476fb0940421b2922f1aa5d8", func := "groove/groovelaw52.InterleaveSpreads", spec := "interleaveSpreads", inPlace := ["internal/bytealg.IndexByteString"], unfollowed := true, recurses := true, apart := false, narrowed := true }
def InterleaveSpreadsUptoSaid : Prop := interleaveSpreadsUptoRow.holds Try.pinned (OpenSpec.upto interleaveSpreadsSpec)

end Rows
end Go.Proofs.Ytgjlhjklcgladaa
