/-
  No cell of these rows narrows 'for every input' (looked for: loops, veiled, ifaces, maps, wideKeys, modest, calm, conditions, laid).
  DERIVED. THE GIVEN ROWS OF THIS SEAT. 8 by the template 'for every input the law returns true; each argument reads behind the call as it read before'; 0 by the template 'total and deterministic' (their statements: YtagelndnhpijfaaTotals.lean).
  GIVEN WITH THE SEED: the statements are not yours to turn. If you find one false, say at which input.
  Laid BY PROGRAM, IN A SANDBOX (cutbox-rows.mjs): the forced cells as the released guide's own fill.sh prints them over the translation 28befcf7f366262a… (all of the seat's roots in one cut). By AI agents, Wed Nov 11 2026. No macro, syntax, notation, axiom, sorry.
-/
import Derived.Test.YtagelndnhpijfaaChecked
import GoSem.Claim
import GoSem.ClaimJoined
import GoSem.ClaimMapViews
import Derived.JoinedTies
import Derived.KernelRfl
namespace Go.Proofs.Ytagelndnhpijfaa
/- THE CELL 'sum', in the pinned program and in every row, IS THE sha256 OF THE DUMP (.gsa) THAT YtagelndnhpijfaaProg.lean LOADS. Nothing in Lean hashes anything: it is a label: what it is worth is what the hold of that sum in a sandbox is worth. -/
noncomputable def Try.pinned : Pinned := { name := "ytagelndnhpijfaa", sum := "28befcf7f366262a8ee764464bf09e7a8a2cd03285a7a82ad118a0d6038b377a", checked := Try.checked }
namespace Rows
def none {H : Type} : Left H := { results := [], args := [] }

/-- 'groovelaw08.RunsCharges': WHATEVER THE INPUT: true; the input reads as it did. -/
def runsChargesSpec : ChangeSpec := { name := "runsCharges", fn := fun _ => fun
  | [d] => { results := [.lit (.bool true)], args := [d] }
  | _ => none }
def runsChargesRow : OpenClaim := { program := "ytagelndnhpijfaa", sum := "28befcf7f366262a8ee764464bf09e7a8a2cd03285a7a82ad118a0d6038b377a", func := "groove/groovelaw08.RunsCharges", spec := "runsCharges", inPlace := ["internal/bytealg.IndexByteString", "internal/bytealg.CountString", "internal/bytealg.IndexString"], unfollowed := true, recurses := true, named := ["internal/bytealg.MaxLen"], apart := false }
def RunsChargesSaid : Prop := runsChargesRow.holds Try.pinned (OpenSpec.ofChange runsChargesSpec)

/-- ITS FALSE NEIGHBOUR: 'it returns false'. Refute it at one input. -/
def runsChargesWrong : ChangeSpec := { name := "runsCharges", fn := fun _ => fun
  | [d] => { results := [.lit (.bool false)], args := [d] }
  | _ => none }
def RunsChargesWrongFalsely : Prop := runsChargesRow.holds Try.pinned (OpenSpec.ofChange runsChargesWrong)

/-- 'groovelaw08.RunsChanges': WHATEVER THE INPUT: true; the input reads as it did. -/
def runsChangesSpec : ChangeSpec := { name := "runsChanges", fn := fun _ => fun
  | [d1, d2] => { results := [.lit (.bool true)], args := [d1, d2] }
  | _ => none }
def runsChangesRow : OpenClaim := { program := "ytagelndnhpijfaa", sum := "28befcf7f366262a8ee764464bf09e7a8a2cd03285a7a82ad118a0d6038b377a", func := "groove/groovelaw08.RunsChanges", spec := "runsChanges", inPlace := ["internal/bytealg.IndexByteString", "internal/bytealg.CountString", "internal/bytealg.IndexString"], unfollowed := true, recurses := true, named := ["internal/bytealg.MaxLen"], apart := false }
def RunsChangesSaid : Prop := runsChangesRow.holds Try.pinned (OpenSpec.ofChange runsChangesSpec)

/-- ITS FALSE NEIGHBOUR: 'it returns false'. Refute it at one input. -/
def runsChangesWrong : ChangeSpec := { name := "runsChanges", fn := fun _ => fun
  | [d1, d2] => { results := [.lit (.bool false)], args := [d1, d2] }
  | _ => none }
def RunsChangesWrongFalsely : Prop := runsChangesRow.holds Try.pinned (OpenSpec.ofChange runsChangesWrong)

/-- 'groovelaw08.RunsAdded': WHATEVER THE INPUT: true; the input reads as it did. -/
def runsAddedSpec : ChangeSpec := { name := "runsAdded", fn := fun _ => fun
  | [d1, d2] => { results := [.lit (.bool true)], args := [d1, d2] }
  | _ => none }
def runsAddedRow : OpenClaim := { program := "ytagelndnhpijfaa", sum := "28befcf7f366262a8ee764464bf09e7a8a2cd03285a7a82ad118a0d6038b377a", func := "groove/groovelaw08.RunsAdded", spec := "runsAdded", inPlace := ["internal/bytealg.IndexByteString", "internal/bytealg.CountString", "internal/bytealg.IndexString"], unfollowed := true, recurses := true, named := ["internal/bytealg.MaxLen"], apart := false }
def RunsAddedSaid : Prop := runsAddedRow.holds Try.pinned (OpenSpec.ofChange runsAddedSpec)

/-- ITS FALSE NEIGHBOUR: 'it returns false'. Refute it at one input. -/
def runsAddedWrong : ChangeSpec := { name := "runsAdded", fn := fun _ => fun
  | [d1, d2] => { results := [.lit (.bool false)], args := [d1, d2] }
  | _ => none }
def RunsAddedWrongFalsely : Prop := runsAddedRow.holds Try.pinned (OpenSpec.ofChange runsAddedWrong)

/-- 'groovelaw08.RunsLevels': WHATEVER THE INPUT: true; the input reads as it did. -/
def runsLevelsSpec : ChangeSpec := { name := "runsLevels", fn := fun _ => fun
  | [d1, d2] => { results := [.lit (.bool true)], args := [d1, d2] }
  | _ => none }
def runsLevelsRow : OpenClaim := { program := "ytagelndnhpijfaa", sum := "28befcf7f366262a8ee764464bf09e7a8a2cd03285a7a82ad118a0d6038b377a", func := "groove/groovelaw08.RunsLevels", spec := "runsLevels", inPlace := ["internal/bytealg.IndexByteString", "internal/bytealg.CountString", "internal/bytealg.IndexString"], unfollowed := true, recurses := true, named := ["internal/bytealg.MaxLen"], apart := false }
def RunsLevelsSaid : Prop := runsLevelsRow.holds Try.pinned (OpenSpec.ofChange runsLevelsSpec)

/-- ITS FALSE NEIGHBOUR: 'it returns false'. Refute it at one input. -/
def runsLevelsWrong : ChangeSpec := { name := "runsLevels", fn := fun _ => fun
  | [d1, d2] => { results := [.lit (.bool false)], args := [d1, d2] }
  | _ => none }
def RunsLevelsWrongFalsely : Prop := runsLevelsRow.holds Try.pinned (OpenSpec.ofChange runsLevelsWrong)

/-- 'groovelaw08.RunsReversed': WHATEVER THE INPUT: true; the input reads as it did. -/
def runsReversedSpec : ChangeSpec := { name := "runsReversed", fn := fun _ => fun
  | [d] => { results := [.lit (.bool true)], args := [d] }
  | _ => none }
def runsReversedRow : OpenClaim := { program := "ytagelndnhpijfaa", sum := "28befcf7f366262a8ee764464bf09e7a8a2cd03285a7a82ad118a0d6038b377a", func := "groove/groovelaw08.RunsReversed", spec := "runsReversed", inPlace := ["internal/bytealg.IndexByteString", "internal/bytealg.CountString", "internal/bytealg.IndexString"], unfollowed := true, recurses := true, named := ["internal/bytealg.MaxLen"], apart := false }
def RunsReversedSaid : Prop := runsReversedRow.holds Try.pinned (OpenSpec.ofChange runsReversedSpec)

/-- ITS FALSE NEIGHBOUR: 'it returns false'. Refute it at one input. -/
def runsReversedWrong : ChangeSpec := { name := "runsReversed", fn := fun _ => fun
  | [d] => { results := [.lit (.bool false)], args := [d] }
  | _ => none }
def RunsReversedWrongFalsely : Prop := runsReversedRow.holds Try.pinned (OpenSpec.ofChange runsReversedWrong)

/-- 'groovelaw08.RunsSplits': WHATEVER THE INPUT: true; the input reads as it did. -/
def runsSplitsSpec : ChangeSpec := { name := "runsSplits", fn := fun _ => fun
  | [d1, d2, d3] => { results := [.lit (.bool true)], args := [d1, d2, d3] }
  | _ => none }
def runsSplitsRow : OpenClaim := { program := "ytagelndnhpijfaa", sum := "28befcf7f366262a8ee764464bf09e7a8a2cd03285a7a82ad118a0d6038b377a", func := "groove/groovelaw08.RunsSplits", spec := "runsSplits", inPlace := ["internal/bytealg.IndexByteString", "internal/bytealg.CountString", "internal/bytealg.IndexString", "internal/abi.NoEscape", "internal/bytealg.MakeNoZero"], unfollowed := true, recurses := true, named := ["internal/bytealg.MaxLen"], apart := false }
def RunsSplitsSaid : Prop := runsSplitsRow.holds Try.pinned (OpenSpec.ofChange runsSplitsSpec)

/-- ITS FALSE NEIGHBOUR: 'it returns false'. Refute it at one input. -/
def runsSplitsWrong : ChangeSpec := { name := "runsSplits", fn := fun _ => fun
  | [d1, d2, d3] => { results := [.lit (.bool false)], args := [d1, d2, d3] }
  | _ => none }
def RunsSplitsWrongFalsely : Prop := runsSplitsRow.holds Try.pinned (OpenSpec.ofChange runsSplitsWrong)

/-- 'groovelaw08.RunsJoined': WHATEVER THE INPUT: true; the input reads as it did. -/
def runsJoinedSpec : ChangeSpec := { name := "runsJoined", fn := fun _ => fun
  | [d1, d2, d3] => { results := [.lit (.bool true)], args := [d1, d2, d3] }
  | _ => none }
def runsJoinedRow : OpenClaim := { program := "ytagelndnhpijfaa", sum := "28befcf7f366262a8ee764464bf09e7a8a2cd03285a7a82ad118a0d6038b377a", func := "groove/groovelaw08.RunsJoined", spec := "runsJoined", inPlace := ["internal/bytealg.IndexByteString", "internal/bytealg.CountString", "internal/bytealg.IndexString", "internal/abi.NoEscape", "internal/bytealg.MakeNoZero"], unfollowed := true, recurses := true, named := ["internal/bytealg.MaxLen"], apart := false }
def RunsJoinedSaid : Prop := runsJoinedRow.holds Try.pinned (OpenSpec.ofChange runsJoinedSpec)

/-- ITS FALSE NEIGHBOUR: 'it returns false'. Refute it at one input. -/
def runsJoinedWrong : ChangeSpec := { name := "runsJoined", fn := fun _ => fun
  | [d1, d2, d3] => { results := [.lit (.bool false)], args := [d1, d2, d3] }
  | _ => none }
def RunsJoinedWrongFalsely : Prop := runsJoinedRow.holds Try.pinned (OpenSpec.ofChange runsJoinedWrong)

/-- 'groovelaw08.RunsInverse': WHATEVER THE INPUT: true; the input reads as it did. -/
def runsInverseSpec : ChangeSpec := { name := "runsInverse", fn := fun _ => fun
  | [d1, d2] => { results := [.lit (.bool true)], args := [d1, d2] }
  | _ => none }
def runsInverseRow : OpenClaim := { program := "ytagelndnhpijfaa", sum := "28befcf7f366262a8ee764464bf09e7a8a2cd03285a7a82ad118a0d6038b377a", func := "groove/groovelaw08.RunsInverse", spec := "runsInverse", inPlace := ["internal/bytealg.IndexByteString", "internal/bytealg.CountString", "internal/bytealg.IndexString", "sync/atomic.LoadUint32", "(*internal/sync.Mutex).Lock", "internal/race.Disable", "sync/atomic.CompareAndSwapInt32", "internal/race.Enable", "internal/race.Acquire", "(*internal/sync.Mutex).lockSlow", "internal/sync.runtime_canSpin", "internal/sync.runtime_doSpin", "internal/sync.throw", "internal/sync.runtime_nanotime", "internal/sync.runtime_SemacquireMutex", "sync/atomic.AddInt32", "(*internal/sync.Mutex).Unlock", "internal/race.ReleaseMerge", "(*internal/sync.Mutex).unlockSlow", "internal/sync.fatal", "internal/sync.runtime_Semrelease", "sync/atomic.StoreUint32"], unfollowed := true, recurses := true, named := ["internal/bytealg.MaxLen"], apart := false }
def RunsInverseSaid : Prop := runsInverseRow.holds Try.pinned (OpenSpec.ofChange runsInverseSpec)

/-- ITS FALSE NEIGHBOUR: 'it returns false'. Refute it at one input. -/
def runsInverseWrong : ChangeSpec := { name := "runsInverse", fn := fun _ => fun
  | [d1, d2] => { results := [.lit (.bool false)], args := [d1, d2] }
  | _ => none }
def RunsInverseWrongFalsely : Prop := runsInverseRow.holds Try.pinned (OpenSpec.ofChange runsInverseWrong)

/- THE SECOND FORM. 'bulk': how many values and letters a reading holds, each counted each time it is reached (what is shared counts as often as it is met; a slice's spare places count too). A statement '..UptoSaid' is the law's where the arguments, and the package variables that the reading takes, are together of bulk at most 1048576: NARROWER than '..Said'. Prove '..Said' where nothing that the law and all that it calls make is longer than what came in: it says more and counts as full. Else prove '..UptoSaid'. A law counts once. -/
mutual
def uptoBulk {H : Type} : DataW H → Nat
  | .lit (.string bytes) => bytes.length + 1
  | .lit _ => 1
  | .nil => 1
  | .ptr d => uptoBulk d + 1
  | .slice elems spare => uptoBulkAll elems + uptoBulkAll spare + 1
  | .agg parts => uptoBulkAll parts + 1
  | .iface _ d => uptoBulk d + 1
  | .map entries => uptoBulkEntries entries + 1
  | .held _ => 1
def uptoBulkAll {H : Type} : List (DataW H) → Nat
  | [] => 0
  | d :: r => uptoBulk d + uptoBulkAll r
def uptoBulkEntries {H : Type} : List (Lit × DataW H) → Nat
  | [] => 0
  | x :: r => uptoBulkEntry x + uptoBulkEntries r
def uptoBulkEntry {H : Type} : Lit × DataW H → Nat
  | (.string bytes, d) => bytes.length + uptoBulk d + 1
  | (_, d) => uptoBulk d + 1
 end
def uptoSmall : (H : Type) → List (DataW H) → Bool := fun _ ds => decide (uptoBulkAll ds ≤ 1048576)
def OpenSpec.upto (s : _root_.Go.ChangeSpec) : _root_.Go.OpenSpec := { _root_.Go.OpenSpec.ofChange s with cond := some uptoSmall }

/-- 'groovelaw08.RunsCharges', WHERE WHAT IT READS IS OF BULK AT MOST 1048576: true; the input reads as it did. -/
def runsChargesUptoRow : OpenClaim := { program := "ytagelndnhpijfaa", sum := "28befcf7f366262a8ee764464bf09e7a8a2cd03285a7a82ad118a0d6038b377a", func := "groove/groovelaw08.RunsCharges", spec := "runsCharges", inPlace := ["internal/bytealg.IndexByteString", "internal/bytealg.CountString", "internal/bytealg.IndexString"], unfollowed := true, recurses := true, named := ["internal/bytealg.MaxLen"], apart := false, narrowed := true }
def RunsChargesUptoSaid : Prop := runsChargesUptoRow.holds Try.pinned (OpenSpec.upto runsChargesSpec)

/-- 'groovelaw08.RunsChanges', WHERE WHAT IT READS IS OF BULK AT MOST 1048576: true; the input reads as it did. -/
def runsChangesUptoRow : OpenClaim := { program := "ytagelndnhpijfaa", sum := "28befcf7f366262a8ee764464bf09e7a8a2cd03285a7a82ad118a0d6038b377a", func := "groove/groovelaw08.RunsChanges", spec := "runsChanges", inPlace := ["internal/bytealg.IndexByteString", "internal/bytealg.CountString", "internal/bytealg.IndexString"], unfollowed := true, recurses := true, named := ["internal/bytealg.MaxLen"], apart := false, narrowed := true }
def RunsChangesUptoSaid : Prop := runsChangesUptoRow.holds Try.pinned (OpenSpec.upto runsChangesSpec)

/-- 'groovelaw08.RunsAdded', WHERE WHAT IT READS IS OF BULK AT MOST 1048576: true; the input reads as it did. -/
def runsAddedUptoRow : OpenClaim := { program := "ytagelndnhpijfaa", sum := "28befcf7f366262a8ee764464bf09e7a8a2cd03285a7a82ad118a0d6038b377a", func := "groove/groovelaw08.RunsAdded", spec := "runsAdded", inPlace := ["internal/bytealg.IndexByteString", "internal/bytealg.CountString", "internal/bytealg.IndexString"], unfollowed := true, recurses := true, named := ["internal/bytealg.MaxLen"], apart := false, narrowed := true }
def RunsAddedUptoSaid : Prop := runsAddedUptoRow.holds Try.pinned (OpenSpec.upto runsAddedSpec)

/-- 'groovelaw08.RunsLevels', WHERE WHAT IT READS IS OF BULK AT MOST 1048576: true; the input reads as it did. -/
def runsLevelsUptoRow : OpenClaim := { program := "ytagelndnhpijfaa", sum := "28befcf7f366262a8ee764464bf09e7a8a2cd03285a7a82ad118a0d6038b377a", func := "groove/groovelaw08.RunsLevels", spec := "runsLevels", inPlace := ["internal/bytealg.IndexByteString", "internal/bytealg.CountString", "internal/bytealg.IndexString"], unfollowed := true, recurses := true, named := ["internal/bytealg.MaxLen"], apart := false, narrowed := true }
def RunsLevelsUptoSaid : Prop := runsLevelsUptoRow.holds Try.pinned (OpenSpec.upto runsLevelsSpec)

/-- 'groovelaw08.RunsReversed', WHERE WHAT IT READS IS OF BULK AT MOST 1048576: true; the input reads as it did. -/
def runsReversedUptoRow : OpenClaim := { program := "ytagelndnhpijfaa", sum := "28befcf7f366262a8ee764464bf09e7a8a2cd03285a7a82ad118a0d6038b377a", func := "groove/groovelaw08.RunsReversed", spec := "runsReversed", inPlace := ["internal/bytealg.IndexByteString", "internal/bytealg.CountString", "internal/bytealg.IndexString"], unfollowed := true, recurses := true, named := ["internal/bytealg.MaxLen"], apart := false, narrowed := true }
def RunsReversedUptoSaid : Prop := runsReversedUptoRow.holds Try.pinned (OpenSpec.upto runsReversedSpec)

/-- 'groovelaw08.RunsSplits', WHERE WHAT IT READS IS OF BULK AT MOST 1048576: true; the input reads as it did. -/
def runsSplitsUptoRow : OpenClaim := { program := "ytagelndnhpijfaa", sum := "28befcf7f366262a8ee764464bf09e7a8a2cd03285a7a82ad118a0d6038b377a", func := "groove/groovelaw08.RunsSplits", spec := "runsSplits", inPlace := ["internal/bytealg.IndexByteString", "internal/bytealg.CountString", "internal/bytealg.IndexString", "internal/abi.NoEscape", "internal/bytealg.MakeNoZero"], unfollowed := true, recurses := true, named := ["internal/bytealg.MaxLen"], apart := false, narrowed := true }
def RunsSplitsUptoSaid : Prop := runsSplitsUptoRow.holds Try.pinned (OpenSpec.upto runsSplitsSpec)

/-- 'groovelaw08.RunsJoined', WHERE WHAT IT READS IS OF BULK AT MOST 1048576: true; the input reads as it did. -/
def runsJoinedUptoRow : OpenClaim := { program := "ytagelndnhpijfaa", sum := "28befcf7f366262a8ee764464bf09e7a8a2cd03285a7a82ad118a0d6038b377a", func := "groove/groovelaw08.RunsJoined", spec := "runsJoined", inPlace := ["internal/bytealg.IndexByteString", "internal/bytealg.CountString", "internal/bytealg.IndexString", "internal/abi.NoEscape", "internal/bytealg.MakeNoZero"], unfollowed := true, recurses := true, named := ["internal/bytealg.MaxLen"], apart := false, narrowed := true }
def RunsJoinedUptoSaid : Prop := runsJoinedUptoRow.holds Try.pinned (OpenSpec.upto runsJoinedSpec)

/-- 'groovelaw08.RunsInverse', WHERE WHAT IT READS IS OF BULK AT MOST 1048576: true; the input reads as it did. -/
def runsInverseUptoRow : OpenClaim := { program := "ytagelndnhpijfaa", sum := "28befcf7f366262a8ee764464bf09e7a8a2cd03285a7a82ad118a0d6038b377a", func := "groove/groovelaw08.RunsInverse", spec := "runsInverse", inPlace := ["internal/bytealg.IndexByteString", "internal/bytealg.CountString", "internal/bytealg.IndexString", "sync/atomic.LoadUint32", "(*internal/sync.Mutex).Lock", "internal/race.Disable", "sync/atomic.CompareAndSwapInt32", "internal/race.Enable", "internal/race.Acquire", "(*internal/sync.Mutex).lockSlow", "internal/sync.runtime_canSpin", "internal/sync.runtime_doSpin", "internal/sync.throw", "internal/sync.runtime_nanotime", "internal/sync.runtime_SemacquireMutex", "sync/atomic.AddInt32", "(*internal/sync.Mutex).Unlock", "internal/race.ReleaseMerge", "(*internal/sync.Mutex).unlockSlow", "internal/sync.fatal", "internal/sync.runtime_Semrelease", "sync/atomic.StoreUint32"], unfollowed := true, recurses := true, named := ["internal/bytealg.MaxLen"], apart := false, narrowed := true }
def RunsInverseUptoSaid : Prop := runsInverseUptoRow.holds Try.pinned (OpenSpec.upto runsInverseSpec)

end Rows
end Go.Proofs.Ytagelndnhpijfaa
