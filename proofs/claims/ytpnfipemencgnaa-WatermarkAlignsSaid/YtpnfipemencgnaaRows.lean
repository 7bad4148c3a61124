/-
  No cell of these rows narrows 'for every input' (looked for: loops, veiled, ifaces, maps, wideKeys, modest, calm, conditions, laid).
  DERIVED. THE GIVEN ROWS OF THIS SEAT. 9 by the template 'for every input the law returns true; each argument reads behind the call as it read before'; 0 by the template 'total and deterministic' (their statements: YtpnfipemencgnaaTotals.lean).
  GIVEN WITH THE SEED: the statements are not yours to turn. If you find one false, say at which input.
  Laid BY PROGRAM, IN A SANDBOX (cutbox-rows.mjs): the forced cells as the released guide's own fill.sh prints them over the translation 19fbb6de16e20320… (all of the seat's roots in one cut). By AI agents, Wed Nov 11 2026. No macro, syntax, notation, axiom, sorry.
-/
import Derived.Test.YtpnfipemencgnaaChecked
import GoSem.Claim
import GoSem.ClaimJoined
import GoSem.ClaimMapViews
import Derived.JoinedTies
import Derived.KernelRfl
namespace Go.Proofs.Ytpnfipemencgnaa
/- THE CELL 'sum', in the pinned program and in every row, IS THE sha256 OF THE DUMP (.gsa) THAT YtpnfipemencgnaaProg.lean LOADS. Nothing in Lean hashes anything: it is a label: what it is worth is what the hold of that sum in a sandbox is worth. -/
noncomputable def Try.pinned : Pinned := { name := "ytpnfipemencgnaa", sum := "19fbb6de16e20320fe416da08847513698d3bb6c6e4fb626da4a6efefa89fee9", checked := Try.checked }
namespace Rows
def none {H : Type} : Left H := { results := [], args := [] }

/-- 'groovelaw50.WatermarkDistance': WHATEVER THE INPUT: true; the input reads as it did. -/
def watermarkDistanceSpec : ChangeSpec := { name := "watermarkDistance", fn := fun _ => fun
  | [d1, d2, d3] => { results := [.lit (.bool true)], args := [d1, d2, d3] }
  | _ => none }
def watermarkDistanceRow : OpenClaim := { program := "ytpnfipemencgnaa", sum := "19fbb6de16e20320fe416da08847513698d3bb6c6e4fb626da4a6efefa89fee9", func := "groove/groovelaw50.WatermarkDistance", spec := "watermarkDistance", inPlace := ["internal/bytealg.IndexByteString", "internal/abi.NoEscape"], unfollowed := true, recurses := true, plainKeys := false, apart := false }
def WatermarkDistanceSaid : Prop := watermarkDistanceRow.holds Try.pinned (OpenSpec.ofChange watermarkDistanceSpec)

/-- ITS FALSE NEIGHBOUR: 'it returns false'. Refute it at one input. -/
def watermarkDistanceWrong : ChangeSpec := { name := "watermarkDistance", fn := fun _ => fun
  | [d1, d2, d3] => { results := [.lit (.bool false)], args := [d1, d2, d3] }
  | _ => none }
def WatermarkDistanceWrongFalsely : Prop := watermarkDistanceRow.holds Try.pinned (OpenSpec.ofChange watermarkDistanceWrong)

/-- 'groovelaw50.WatermarkCosts': WHATEVER THE INPUT: true; the input reads as it did. -/
def watermarkCostsSpec : ChangeSpec := { name := "watermarkCosts", fn := fun _ => fun
  | [d1, d2, d3] => { results := [.lit (.bool true)], args := [d1, d2, d3] }
  | _ => none }
def watermarkCostsRow : OpenClaim := { program := "ytpnfipemencgnaa", sum := "19fbb6de16e20320fe416da08847513698d3bb6c6e4fb626da4a6efefa89fee9", func := "groove/groovelaw50.WatermarkCosts", spec := "watermarkCosts", inPlace := ["internal/bytealg.IndexByteString", "internal/abi.NoEscape"], unfollowed := true, recurses := true, plainKeys := false, apart := false }
def WatermarkCostsSaid : Prop := watermarkCostsRow.holds Try.pinned (OpenSpec.ofChange watermarkCostsSpec)

/-- ITS FALSE NEIGHBOUR: 'it returns false'. Refute it at one input. -/
def watermarkCostsWrong : ChangeSpec := { name := "watermarkCosts", fn := fun _ => fun
  | [d1, d2, d3] => { results := [.lit (.bool false)], args := [d1, d2, d3] }
  | _ => none }
def WatermarkCostsWrongFalsely : Prop := watermarkCostsRow.holds Try.pinned (OpenSpec.ofChange watermarkCostsWrong)

/-- 'groovelaw50.WatermarkSlips': WHATEVER THE INPUT: true; the input reads as it did. -/
def watermarkSlipsSpec : ChangeSpec := { name := "watermarkSlips", fn := fun _ => fun
  | [d1, d2, d3, d4] => { results := [.lit (.bool true)], args := [d1, d2, d3, d4] }
  | _ => none }
def watermarkSlipsRow : OpenClaim := { program := "ytpnfipemencgnaa", sum := "19fbb6de16e20320fe416da08847513698d3bb6c6e4fb626da4a6efefa89fee9", func := "groove/groovelaw50.WatermarkSlips", spec := "watermarkSlips", inPlace := ["internal/bytealg.IndexByteString", "internal/abi.NoEscape"], unfollowed := true, recurses := true, plainKeys := false, apart := false }
def WatermarkSlipsSaid : Prop := watermarkSlipsRow.holds Try.pinned (OpenSpec.ofChange watermarkSlipsSpec)

/-- ITS FALSE NEIGHBOUR: 'it returns false'. Refute it at one input. -/
def watermarkSlipsWrong : ChangeSpec := { name := "watermarkSlips", fn := fun _ => fun
  | [d1, d2, d3, d4] => { results := [.lit (.bool false)], args := [d1, d2, d3, d4] }
  | _ => none }
def WatermarkSlipsWrongFalsely : Prop := watermarkSlipsRow.holds Try.pinned (OpenSpec.ofChange watermarkSlipsWrong)

/-- 'groovelaw50.WatermarkReads': WHATEVER THE INPUT: true; the input reads as it did. -/
def watermarkReadsSpec : ChangeSpec := { name := "watermarkReads", fn := fun _ => fun
  | [d1, d2] => { results := [.lit (.bool true)], args := [d1, d2] }
  | _ => none }
def watermarkReadsRow : OpenClaim := { program := "ytpnfipemencgnaa", sum := "19fbb6de16e20320fe416da08847513698d3bb6c6e4fb626da4a6efefa89fee9", func := "groove/groovelaw50.WatermarkReads", spec := "watermarkReads", inPlace := ["internal/bytealg.IndexByteString", "internal/abi.NoEscape"], unfollowed := true, recurses := true, plainKeys := false, apart := false }
def WatermarkReadsSaid : Prop := watermarkReadsRow.holds Try.pinned (OpenSpec.ofChange watermarkReadsSpec)

/-- ITS FALSE NEIGHBOUR: 'it returns false'. Refute it at one input. -/
def watermarkReadsWrong : ChangeSpec := { name := "watermarkReads", fn := fun _ => fun
  | [d1, d2] => { results := [.lit (.bool false)], args := [d1, d2] }
  | _ => none }
def WatermarkReadsWrongFalsely : Prop := watermarkReadsRow.holds Try.pinned (OpenSpec.ofChange watermarkReadsWrong)

/-- 'groovelaw50.WatermarkAligns': WHATEVER THE INPUT: true; the input reads as it did. -/
def watermarkAlignsSpec : ChangeSpec := { name := "watermarkAligns", fn := fun _ => fun
  | [d1, d2] => { results := [.lit (.bool true)], args := [d1, d2] }
  | _ => none }
def watermarkAlignsRow : OpenClaim := { program := "ytpnfipemencgnaa", sum := "19fbb6de16e20320fe416da08847513698d3bb6c6e4fb626da4a6efefa89fee9", func := "groove/groovelaw50.WatermarkAligns", spec := "watermarkAligns", inPlace := ["internal/bytealg.IndexByteString", "internal/abi.NoEscape"], unfollowed := true, recurses := true, plainKeys := false, apart := false }
def WatermarkAlignsSaid : Prop := watermarkAlignsRow.holds Try.pinned (OpenSpec.ofChange watermarkAlignsSpec)

/-- ITS FALSE NEIGHBOUR: 'it returns false'. Refute it at one input. -/
def watermarkAlignsWrong : ChangeSpec := { name := "watermarkAligns", fn := fun _ => fun
  | [d1, d2] => { results := [.lit (.bool false)], args := [d1, d2] }
  | _ => none }
def WatermarkAlignsWrongFalsely : Prop := watermarkAlignsRow.holds Try.pinned (OpenSpec.ofChange watermarkAlignsWrong)

/-- 'groovelaw50.WatermarkAdds': WHATEVER THE INPUT: true; the input reads as it did. -/
def watermarkAddsSpec : ChangeSpec := { name := "watermarkAdds", fn := fun _ => fun
  | [d1, d2] => { results := [.lit (.bool true)], args := [d1, d2] }
  | _ => none }
def watermarkAddsRow : OpenClaim := { program := "ytpnfipemencgnaa", sum := "19fbb6de16e20320fe416da08847513698d3bb6c6e4fb626da4a6efefa89fee9", func := "groove/groovelaw50.WatermarkAdds", spec := "watermarkAdds", inPlace := ["internal/bytealg.IndexByteString", "internal/abi.NoEscape", "internal/bytealg.MakeNoZero"], unfollowed := true, recurses := true, plainKeys := false, apart := false }
def WatermarkAddsSaid : Prop := watermarkAddsRow.holds Try.pinned (OpenSpec.ofChange watermarkAddsSpec)

/-- ITS FALSE NEIGHBOUR: 'it returns false'. Refute it at one input. -/
def watermarkAddsWrong : ChangeSpec := { name := "watermarkAdds", fn := fun _ => fun
  | [d1, d2] => { results := [.lit (.bool false)], args := [d1, d2] }
  | _ => none }
def WatermarkAddsWrongFalsely : Prop := watermarkAddsRow.holds Try.pinned (OpenSpec.ofChange watermarkAddsWrong)

/-- 'groovelaw50.WatermarkWords': WHATEVER THE INPUT: true; the input reads as it did. -/
def watermarkWordsSpec : ChangeSpec := { name := "watermarkWords", fn := fun _ => fun
  | [d1, d2, d3, d4, d5] => { results := [.lit (.bool true)], args := [d1, d2, d3, d4, d5] }
  | _ => none }
def watermarkWordsRow : OpenClaim := { program := "ytpnfipemencgnaa", sum := "19fbb6de16e20320fe416da08847513698d3bb6c6e4fb626da4a6efefa89fee9", func := "groove/groovelaw50.WatermarkWords", spec := "watermarkWords", inPlace := ["internal/bytealg.IndexByteString", "internal/abi.NoEscape", "internal/bytealg.MakeNoZero"], unfollowed := true, recurses := true, plainKeys := false, apart := false }
def WatermarkWordsSaid : Prop := watermarkWordsRow.holds Try.pinned (OpenSpec.ofChange watermarkWordsSpec)

/-- ITS FALSE NEIGHBOUR: 'it returns false'. Refute it at one input. -/
def watermarkWordsWrong : ChangeSpec := { name := "watermarkWords", fn := fun _ => fun
  | [d1, d2, d3, d4, d5] => { results := [.lit (.bool false)], args := [d1, d2, d3, d4, d5] }
  | _ => none }
def WatermarkWordsWrongFalsely : Prop := watermarkWordsRow.holds Try.pinned (OpenSpec.ofChange watermarkWordsWrong)

/-- 'groovelaw50.WatermarkPlain': WHATEVER THE INPUT: true; the input reads as it did. -/
def watermarkPlainSpec : ChangeSpec := { name := "watermarkPlain", fn := fun _ => fun
  | [d] => { results := [.lit (.bool true)], args := [d] }
  | _ => none }
def watermarkPlainRow : OpenClaim := { program := "ytpnfipemencgnaa", sum := "19fbb6de16e20320fe416da08847513698d3bb6c6e4fb626da4a6efefa89fee9", func := "groove/groovelaw50.WatermarkPlain", spec := "watermarkPlain", inPlace := ["internal/bytealg.IndexByteString", "internal/abi.NoEscape", "internal/bytealg.MakeNoZero"], unfollowed := true, recurses := true, plainKeys := false, apart := false }
def WatermarkPlainSaid : Prop := watermarkPlainRow.holds Try.pinned (OpenSpec.ofChange watermarkPlainSpec)

/-- ITS FALSE NEIGHBOUR: 'it returns false'. Refute it at one input. -/
def watermarkPlainWrong : ChangeSpec := { name := "watermarkPlain", fn := fun _ => fun
  | [d] => { results := [.lit (.bool false)], args := [d] }
  | _ => none }
def WatermarkPlainWrongFalsely : Prop := watermarkPlainRow.holds Try.pinned (OpenSpec.ofChange watermarkPlainWrong)

/-- 'groovelaw50.WatermarkMarks': WHATEVER THE INPUT: true; the input reads as it did. -/
def watermarkMarksSpec : ChangeSpec := { name := "watermarkMarks", fn := fun _ => fun
  | [d1, d2, d3, d4] => { results := [.lit (.bool true)], args := [d1, d2, d3, d4] }
  | _ => none }
def watermarkMarksRow : OpenClaim := { program := "ytpnfipemencgnaa", sum := "19fbb6de16e20320fe416da08847513698d3bb6c6e4fb626da4a6efefa89fee9", func := "groove/groovelaw50.WatermarkMarks", spec := "watermarkMarks", inPlace := ["internal/abi.NoEscape", "internal/bytealg.IndexByteString", "internal/bytealg.MakeNoZero", "internal/bytealg.CountString", "internal/bytealg.IndexString"], unfollowed := true, recurses := true, named := ["internal/bytealg.MaxLen"], plainKeys := false, apart := false }
def WatermarkMarksSaid : Prop := watermarkMarksRow.holds Try.pinned (OpenSpec.ofChange watermarkMarksSpec)

/-- ITS FALSE NEIGHBOUR: 'it returns false'. Refute it at one input. -/
def watermarkMarksWrong : ChangeSpec := { name := "watermarkMarks", fn := fun _ => fun
  | [d1, d2, d3, d4] => { results := [.lit (.bool false)], args := [d1, d2, d3, d4] }
  | _ => none }
def WatermarkMarksWrongFalsely : Prop := watermarkMarksRow.holds Try.pinned (OpenSpec.ofChange watermarkMarksWrong)

/- THE SECOND FORM. 'bulk': how many values and letters a reading holds, each counted each time it is reached (what is shared counts as often as it is met; a slice's spare places count too). A statement '..UptoSaid' is the law's where the arguments, and the package variables that the reading takes, are together of bulk at most 1048576: NARROWER than '..Said'. Prove '..Said' where nothing that the law and all that it calls make is longer than what came in: it says more and counts as full. Else prove '..UptoSaid'. A law counts once. -/
mutual
def uptoBulk {H : Type} : DataW H → Nat
  | .lit (.string bytes) => bytes.length + 1
  | .lit _ => 1
  | .nil => 1
  | .ptr d => uptoBulk d + 1
  | .slice elems spare => uptoBulkAll elems + uptoBulkAll spare + 1
  | .agg parts => uptoBulkAll parts + 1
  | .iface _ d => uptoBulk d + 1
  | .map entries => uptoBulkEntries entries + 1
  | .held _ => 1
def uptoBulkAll {H : Type} : List (DataW H) → Nat
  | [] => 0
  | d :: r => uptoBulk d + uptoBulkAll r
def uptoBulkEntries {H : Type} : List (Lit × DataW H) → Nat
  | [] => 0
  | x :: r => uptoBulkEntry x + uptoBulkEntries r
def uptoBulkEntry {H : Type} : Lit × DataW H → Nat
  | (.string bytes, d) => bytes.length + uptoBulk d + 1
  | (_, d) => uptoBulk d + 1
 end
def uptoSmall : (H : Type) → List (DataW H) → Bool := fun _ ds => decide (uptoBulkAll ds ≤ 1048576)
def OpenSpec.upto (s : _root_.Go.ChangeSpec) : _root_.Go.OpenSpec := { _root_.Go.OpenSpec.ofChange s with cond := some uptoSmall }

/-- 'groovelaw50.WatermarkDistance', WHERE WHAT IT READS IS OF BULK AT MOST 1048576: true; the input reads as it did. -/
def watermarkDistanceUptoRow : OpenClaim := { program := "ytpnfipemencgnaa", sum := "19fbb6de16e20320fe416da08847513698d3bb6c6e4fb626da4a6efefa89fee9", func := "groove/groovelaw50.WatermarkDistance", spec := "watermarkDistance", inPlace := ["internal/bytealg.IndexByteString", "internal/abi.NoEscape"], unfollowed := true, recurses := true, plainKeys := false, apart := false, narrowed := true }
def WatermarkDistanceUptoSaid : Prop := watermarkDistanceUptoRow.holds Try.pinned (OpenSpec.upto watermarkDistanceSpec)

/-- 'groovelaw50.WatermarkCosts', WHERE WHAT IT READS IS OF BULK AT MOST 1048576: true; the input reads as it did. -/
def watermarkCostsUptoRow : OpenClaim := { program := "ytpnfipemencgnaa", sum := "19fbb6de16e20320fe416da08847513698d3bb6c6e4fb626da4a6efefa89fee9", func := "groove/groovelaw50.WatermarkCosts", spec := "watermarkCosts", inPlace := ["internal/bytealg.IndexByteString", "internal/abi.NoEscape"], unfollowed := true, recurses := true, plainKeys := false, apart := false, narrowed := true }
def WatermarkCostsUptoSaid : Prop := watermarkCostsUptoRow.holds Try.pinned (OpenSpec.upto watermarkCostsSpec)

/-- 'groovelaw50.WatermarkSlips', WHERE WHAT IT READS IS OF BULK AT MOST 1048576: true; the input reads as it did. -/
def watermarkSlipsUptoRow : OpenClaim := { program := "ytpnfipemencgnaa", sum := "19fbb6de16e20320fe416da08847513698d3bb6c6e4fb626da4a6efefa89fee9", func := "groove/groovelaw50.WatermarkSlips", spec := "watermarkSlips", inPlace := ["internal/bytealg.IndexByteString", "internal/abi.NoEscape"], unfollowed := true, recurses := true, plainKeys := false, apart := false, narrowed := true }
def WatermarkSlipsUptoSaid : Prop := watermarkSlipsUptoRow.holds Try.pinned (OpenSpec.upto watermarkSlipsSpec)

/-- 'groovelaw50.WatermarkReads', WHERE WHAT IT READS IS OF BULK AT MOST 1048576: true; the input reads as it did. -/
def watermarkReadsUptoRow : OpenClaim := { program := "ytpnfipemencgnaa", sum := "19fbb6de16e20320fe416da08847513698d3bb6c6e4fb626da4a6efefa89fee9", func := "groove/groovelaw50.WatermarkReads", spec := "watermarkReads", inPlace := ["internal/bytealg.IndexByteString", "internal/abi.NoEscape"], unfollowed := true, recurses := true, plainKeys := false, apart := false, narrowed := true }
def WatermarkReadsUptoSaid : Prop := watermarkReadsUptoRow.holds Try.pinned (OpenSpec.upto watermarkReadsSpec)

/-- 'groovelaw50.WatermarkAligns', WHERE WHAT IT READS IS OF BULK AT MOST 1048576: true; the input reads as it did. -/
def watermarkAlignsUptoRow : OpenClaim := { program := "ytpnfipemencgnaa", sum := "19fbb6de16e20320fe416da08847513698d3bb6c6e4fb626da4a6efefa89fee9", func := "groove/groovelaw50.WatermarkAligns", spec := "watermarkAligns", inPlace := ["internal/bytealg.IndexByteString", "internal/abi.NoEscape"], unfollowed := true, recurses := true, plainKeys := false, apart := false, narrowed := true }
def WatermarkAlignsUptoSaid : Prop := watermarkAlignsUptoRow.holds Try.pinned (OpenSpec.upto watermarkAlignsSpec)

/-- 'groovelaw50.WatermarkAdds', WHERE WHAT IT READS IS OF BULK AT MOST 1048576: true; the input reads as it did. -/
def watermarkAddsUptoRow : OpenClaim := { program := "ytpnfipemencgnaa", sum := "19fbb6de16e20320fe416da08847513698d3bb6c6e4fb626da4a6efefa89fee9", func := "groove/groovelaw50.WatermarkAdds", spec := "watermarkAdds", inPlace := ["internal/bytealg.IndexByteString", "internal/abi.NoEscape", "internal/bytealg.MakeNoZero"], unfollowed := true, recurses := true, plainKeys := false, apart := false, narrowed := true }
def WatermarkAddsUptoSaid : Prop := watermarkAddsUptoRow.holds Try.pinned (OpenSpec.upto watermarkAddsSpec)

/-- 'groovelaw50.WatermarkWords', WHERE WHAT IT READS IS OF BULK AT MOST 1048576: true; the input reads as it did. -/
def watermarkWordsUptoRow : OpenClaim := { program := "ytpnfipemencgnaa", sum := "19fbb6de16e20320fe416da08847513698d3bb6c6e4fb626da4a6efefa89fee9", func := "groove/groovelaw50.WatermarkWords", spec := "watermarkWords", inPlace := ["internal/bytealg.IndexByteString", "internal/abi.NoEscape", "internal/bytealg.MakeNoZero"], unfollowed := true, recurses := true, plainKeys := false, apart := false, narrowed := true }
def WatermarkWordsUptoSaid : Prop := watermarkWordsUptoRow.holds Try.pinned (OpenSpec.upto watermarkWordsSpec)

/-- 'groovelaw50.WatermarkPlain', WHERE WHAT IT READS IS OF BULK AT MOST 1048576: true; the input reads as it did. -/
def watermarkPlainUptoRow : OpenClaim := { program := "ytpnfipemencgnaa", sum := "19fbb6de16e20320fe416da08847513698d3bb6c6e4fb626da4a6efefa89fee9", func := "groove/groovelaw50.WatermarkPlain", spec := "watermarkPlain", inPlace := ["internal/bytealg.IndexByteString", "internal/abi.NoEscape", "internal/bytealg.MakeNoZero"], unfollowed := true, recurses := true, plainKeys := false, apart := false, narrowed := true }
def WatermarkPlainUptoSaid : Prop := watermarkPlainUptoRow.holds Try.pinned (OpenSpec.upto watermarkPlainSpec)

/-- 'groovelaw50.WatermarkMarks', WHERE WHAT IT READS IS OF BULK AT MOST 1048576: true; the input reads as it did. -/
def watermarkMarksUptoRow : OpenClaim := { program := "ytpnfipemencgnaa", sum := "19fbb6de16e20320fe416da08847513698d3bb6c6e4fb626da4a6efefa89fee9", func := "groove/groovelaw50.WatermarkMarks", spec := "watermarkMarks", inPlace := ["internal/abi.NoEscape", "internal/bytealg.IndexByteString", "internal/bytealg.MakeNoZero", "internal/bytealg.CountString", "internal/bytealg.IndexString"], unfollowed := true, recurses := true, named := ["internal/bytealg.MaxLen"], plainKeys := false, apart := false, narrowed := true }
def WatermarkMarksUptoSaid : Prop := watermarkMarksUptoRow.holds Try.pinned (OpenSpec.upto watermarkMarksSpec)

end Rows
end Go.Proofs.Ytpnfipemencgnaa
