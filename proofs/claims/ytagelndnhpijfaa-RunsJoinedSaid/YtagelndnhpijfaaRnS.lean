/-
  The law of the results of Split, Join, Longest and their references.
-/
import Derived.Test.YtagelndnhpijfaaRnR
import Derived.Test.YtagelndnhpijfaaRnQ
import Derived.Test.YtagelndnhpijfaaRnJ
namespace Go.Proofs.Ytagelndnhpijfaa
open Go.RowKit

/-- The slice at a holds these pairs. -/
def PRow (w : World) (a : Option Addr) (l : List (Int × Int)) : Prop :=
  ∀ j (h : j < l.length), ∃ g o, a = some ⟨g, o, none⟩ ∧ w.cell? ⟨g, o + j * 2, none⟩ = some (.int .i64 l[j].1) ∧ w.cell? ⟨g, o + j * 2 + 1, none⟩ = some (.int .i64 l[j].2)
theorem PRow.below {w w' : World} {a : Option Addr} {l : List (Int × Int)} (h : PRow w a l) (hb : Below w.heap.size w w') : PRow w' a l := fun j hj => by
  obtain ⟨g, o, rfl, h1, h2⟩ := h j hj
  exact ⟨g, o, rfl, cell_below h1 hb (cell_lt h1), cell_below h2 hb (cell_lt h2)⟩
theorem spV_len (l : List UInt8) : (spV l).length ≤ 65536 := by
  by_cases h : chk 16 l = 0
  · rw [spV_ok h, rp, List.length_map]
    have := rnS_len l l.length
    have := chk16_le h
    omega
  · rw [spV_no h]; simp

set_option maxHeartbeats 1000000 in
set_option maxRecDepth 100000 in
theorem law_runsSplits (s : ByteArray) (a : Option Addr) (c : Nat) (l : List (Int × Int)) (t : Int) (w : World) (hrow : PRow w a l) (hl : l.length ≤ 9223372036854775807) (hwf : ∀ p ∈ l, p.2 ≤ 9223372036854775807) :
    Calls Try.prog 8 #[.string s, .slice a l.length c, .int .i64 t] w fun e w' => e = .returned (.bool true) ∧ Below w.heap.size w w' := by
  have HR := Lib.hid hrow; clear hrow
  generalize hg : grt s.size = g
  have HG := Lib.hid hg; clear hg
  generalize hg2 : grl l = g2
  have HG2 := Lib.hid hg2; clear hg2
  cases g with
  | true =>
    go_enter Try.func8, Try.ntmps8
    go_wp2_with fail
    refine (great_any _ _).mono ?_
    rintro e w1 ⟨rfl, rfl⟩
    rw [HG.out]
    go_wp2_with fail
    refine (awake_any _).mono ?_
    rintro e w2 ⟨rfl, hb⟩
    have HB := Lib.hid hb; clear hb
    go_wp2_with fail
    go_ret
    exact ⟨rfl, HB.out⟩
  | false =>
    cases g2 with
    | true =>
      go_enter Try.func8, Try.ntmps8
      go_wp2_with fail
      refine (great_any _ _).mono ?_
      rintro e w1 ⟨rfl, rfl⟩
      rw [HG.out]
      go_wp2_with fail
      refine (greatList_any _ _ _ _ HR.out hl).mono ?_
      rintro e w1 ⟨rfl, rfl⟩
      rw [HG2.out]
      go_wp2_with fail
      refine (awake_any _).mono ?_
      rintro e w2 ⟨rfl, hb⟩
      have HB := Lib.hid hb; clear hb
      go_wp2_with fail
      go_ret
      exact ⟨rfl, HB.out⟩
    | false =>
      have hl12 : l.length ≤ 12 := by
        have := HG2.out
        simp only [grl, Bool.or_eq_false_iff, decide_eq_false_iff_not] at this
        omega
      go_enter Try.func8, Try.ntmps8
      go_wp2_with fail
      refine (great_any _ _).mono ?_
      rintro e w1 ⟨rfl, rfl⟩
      rw [HG.out]
      go_wp2_with fail
      refine (greatList_any _ _ _ _ HR.out hl).mono ?_
      rintro e w1 ⟨rfl, rfl⟩
      rw [HG2.out]
      go_wp2_with fail
      refine (Split_any _ _).mono ?_
      rintro e w2 ⟨v, rfl, ho, hb⟩
      have HV2 := Lib.hid ho; clear ho
      have HR2 := Lib.hid (HR.out.below hb)
      have HB2 := Lib.hid hb; clear hb
      go_wp2_with fail
      refine (refSplit_any _ _).mono ?_
      rintro e w3 ⟨v', rfl, ho, hb⟩
      have HU3 := Lib.hid ho; clear ho
      have HV3 := Lib.hid (HV2.out.below hb)
      have HR3 := Lib.hid (HR2.out.below hb)
      have HB3 := Lib.hid (HB2.out.trans (hb.mono HB2.out.size)); clear hb
      go_wp2_with fail
      refine (Join_any _ _ _ _ HR3.out (by omega) hwf).mono ?_
      rintro e w4 ⟨rfl, hb⟩
      have HU4 := Lib.hid (HU3.out.below hb)
      have HV4 := Lib.hid (HV3.out.below hb)
      have HR4 := Lib.hid (HR3.out.below hb)
      have HB4 := Lib.hid (HB3.out.trans (hb.mono HB3.out.size)); clear hb
      go_wp2_with fail
      refine (refJoin_any _ _ _ _ HR4.out hl12 hwf).mono ?_
      rintro e w5 ⟨rfl, n, rfl⟩
      have HU5 := Lib.hid (HU4.out.drewN n)
      have HV5 := Lib.hid (HV4.out.drewN n)
      have HB5 := Lib.hid (below_drewN HB4.out n)
      go_wp2_with fail
      refine (Longest_any _ _ _).mono ?_
      rintro e w6 ⟨rfl, hb⟩
      have HU6 := Lib.hid (HU5.out.below hb)
      have HV6 := Lib.hid (HV5.out.below hb)
      have HB6 := Lib.hid (HB5.out.trans (hb.mono HB5.out.size)); clear hb
      go_wp2_with fail
      refine (refLongest_any _ _ _).mono ?_
      rintro e w7 ⟨rfl, hb⟩
      have HU7 := Lib.hid (HU6.out.below hb)
      have HV7 := Lib.hid (HV6.out.below hb)
      have HB7 := Lib.hid (HB6.out.trans (hb.mono HB6.out.size)); clear hb
      have hsl := spV_len s.data.toList
      go_wp2_with fail
      refine (Same_any _ _ _ _ _ HV7.out.holds HU7.out.holds (by omega) (by omega)).mono ?_
      rintro e w8 ⟨rfl, n8, rfl⟩
      rw [decide_eq_true rfl]
      have HB8 := Lib.hid (below_drewN HB7.out n8)
      go_wp2_with fail
      refine (awake_any _).mono ?_
      rintro e w9 ⟨rfl, hb⟩
      have HB9 := Lib.hid (HB8.out.trans (hb.mono HB8.out.size)); clear hb
      go_wp2_with fail
      go_ret
      exact ⟨rfl, HB9.out⟩
end Go.Proofs.Ytagelndnhpijfaa
