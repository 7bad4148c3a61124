/-
  Great, RunsCharges and RunsLevels.
-/
import Derived.Test.YtagelndnhpijfaaRnI
namespace Go.Proofs.Ytagelndnhpijfaa
open Go.RowKit

def grt (n : Nat) : Bool := (decide (60 < n) && decide (n ≤ 65536)) || decide (65544 < n)

set_option maxHeartbeats 1000000 in
theorem great_any (s : ByteArray) (w : World) :
    Calls Try.prog 11 #[.string s] w fun e w' => e = .returned (.bool (grt s.size)) ∧ w = w' := by
  by_cases h1 : 60 < s.size
  · have d1 : decide ((60 : Int) < (s.size : Int)) = true := by simp; omega
    by_cases h2 : s.size ≤ 65536
    · have d2 : decide ((s.size : Int) ≤ 65536) = true := by simp; omega
      have HG := Lib.hid (show grt s.size = true by simp [grt, h1, h2])
      clear h1 h2
      go_enter Try.func11, Try.ntmps11
      go_wp2_with fail
      go_ret
      exact ⟨by rw [HG.out]; rfl, rfl⟩
    · have d2 : decide ((s.size : Int) ≤ 65536) = false := by simp; omega
      by_cases h3 : 65544 < s.size
      · have d3 : decide ((65544 : Int) < (s.size : Int)) = true := by simp; omega
        have HG := Lib.hid (show grt s.size = true by simp [grt, h3])
        clear h1 h2 h3
        go_enter Try.func11, Try.ntmps11
        go_wp2_with fail
        go_ret
        exact ⟨by rw [HG.out]; rfl, rfl⟩
      · have d3 : decide ((65544 : Int) < (s.size : Int)) = false := by simp; omega
        have HG := Lib.hid (show grt s.size = false by simp [grt, h2]; omega)
        clear h1 h2 h3
        go_enter Try.func11, Try.ntmps11
        go_wp2_with fail
        go_ret
        exact ⟨by rw [HG.out]; rfl, rfl⟩
  · have d1 : decide ((60 : Int) < (s.size : Int)) = false := by simp; omega
    have d3 : decide ((65544 : Int) < (s.size : Int)) = false := by simp; omega
    have HG := Lib.hid (show grt s.size = false by simp [grt]; omega)
    clear h1
    go_enter Try.func11, Try.ntmps11
    go_wp2_with fail
    go_ret
    exact ⟨by rw [HG.out]; rfl, rfl⟩

set_option maxHeartbeats 1000000 in
set_option maxRecDepth 100000 in
theorem law_runsCharges (s : ByteArray) (_w0 : s.size ≤ maxLen) (w : World) :
    Calls Try.prog 3 #[.string s] w fun e w' => e = .returned (.bool true) ∧ Below w.heap.size w w' := by
  have hcl : (chgV s.data.toList).length ≤ 65537 := by
    unfold chgV; split
    · rw [chL_len]; have := chk2_le (by assumption); omega
    · simp
  have HCL := Lib.hid hcl; clear hcl
  generalize hg : grt s.size = g
  have HG := Lib.hid hg; clear hg
  go_enter Try.func3, Try.ntmps3
  go_wp2_with fail
  refine (great_any _ _).mono ?_
  rintro e w1 ⟨rfl, rfl⟩
  rw [HG.out]
  cases g with
  | true =>
    go_wp2_with fail
    refine (awake_any _).mono ?_
    rintro e w2 ⟨rfl, hb⟩
    have HB := Lib.hid hb; clear hb
    go_wp2_with fail
    go_ret
    exact ⟨rfl, HB.out⟩
  | false =>
    go_wp2_with fail
    refine (Charges_any _ _).mono ?_
    rintro e w2 ⟨a, rfl, ha, hb⟩
    have HA2 := Lib.hid ha; clear ha
    have HB2 := Lib.hid hb; clear hb
    go_wp2_with fail
    refine (refCharges_any _ _).mono ?_
    rintro e w3 ⟨b, rfl, ha, hb⟩
    have HV3 := Lib.hid ha; clear ha
    have HA3 := Lib.hid (HA2.out.below hb)
    have HB3 := Lib.hid (HB2.out.trans (hb.mono HB2.out.size)); clear hb HB2 HA2
    go_wp2_with fail
    refine (Disparity_any _ _).mono ?_
    rintro e w4 ⟨rfl, hb⟩
    have HV4 := Lib.hid (HV3.out.below hb)
    have HA4 := Lib.hid (HA3.out.below hb)
    have HB4 := Lib.hid (HB3.out.trans (hb.mono HB3.out.size)); clear hb HB3 HA3 HV3
    go_wp2_with fail
    refine (refDisparity_any _ _).mono ?_
    rintro e w5 ⟨rfl, hb⟩
    have HV5 := Lib.hid (HV4.out.below hb)
    have HA5 := Lib.hid (HA4.out.below hb)
    have HB5 := Lib.hid (HB4.out.trans (hb.mono HB4.out.size)); clear hb HB4 HA4 HV4
    go_wp2_with fail
    refine (Range_any _ _).mono ?_
    rintro e w6 ⟨rfl, hb⟩
    have HV6 := Lib.hid (HV5.out.below hb)
    have HA6 := Lib.hid (HA5.out.below hb)
    have HB6 := Lib.hid (HB5.out.trans (hb.mono HB5.out.size)); clear hb HB5 HA5 HV5
    go_wp2_with fail
    refine (refRange_any _ _).mono ?_
    rintro e w7 ⟨rfl, hb⟩
    have HV7 := Lib.hid (HV6.out.below hb)
    have HA7 := Lib.hid (HA6.out.below hb)
    have HB7 := Lib.hid (HB6.out.trans (hb.mono HB6.out.size)); clear hb HB6 HA6 HV6
    go_wp2_with fail
    refine (equal_holds HA7.out.holds HV7.out.holds (by have := HCL.out; omega) (by have := HCL.out; omega)).mono ?_
    rintro e w8 ⟨rfl, n8, rfl⟩
    rw [show (chgV s.data.toList == chgV s.data.toList) = true by simp]
    have HB8 := Lib.hid (below_drewN HB7.out n8)
    go_wp2_with fail
    refine (awake_any _).mono ?_
    rintro e w9 ⟨rfl, hb⟩
    have HB9 := Lib.hid (HB8.out.trans (hb.mono HB8.out.size)); clear hb
    go_wp2_with fail
    go_ret
    exact ⟨rfl, HB9.out⟩

set_option maxHeartbeats 1000000 in
set_option maxRecDepth 100000 in
theorem law_runsLevels (t : Int) (s : ByteArray) (_w0 : (Lit.int .i64 t).wf = true) (_w1 : s.size ≤ maxLen) (w : World) :
    Calls Try.prog 6 #[.int .i64 t, .string s] w fun e w' => e = .returned (.bool true) ∧ Below w.heap.size w w' := by
  generalize hg : grt s.size = g
  have HG := Lib.hid hg; clear hg
  go_enter Try.func6, Try.ntmps6
  go_wp2_with fail
  refine (great_any _ _).mono ?_
  rintro e w1 ⟨rfl, rfl⟩
  rw [HG.out]
  cases g with
  | true =>
    go_wp2_with fail
    refine (awake_any _).mono ?_
    rintro e w2 ⟨rfl, hb⟩
    have HB := Lib.hid hb; clear hb
    go_wp2_with fail
    go_ret
    exact ⟨rfl, HB.out⟩
  | false =>
    go_wp2_with fail
    refine (Levels_any _ _ _).mono ?_
    rintro e w2 ⟨rfl, hb⟩
    have HB2 := Lib.hid hb; clear hb
    go_wp2_with fail
    refine (refLevels_any _ _ _).mono ?_
    rintro e w3 ⟨rfl, rfl⟩
    go_wp2_with fail
    refine (Transitions_any _ _ _).mono ?_
    rintro e w4 ⟨rfl, hb⟩
    have HB4 := Lib.hid (HB2.out.trans (hb.mono HB2.out.size)); clear hb HB2
    go_wp2_with fail
    refine (refTransitions_any _ _ _).mono ?_
    rintro e w5 ⟨rfl, rfl⟩
    go_wp2_with fail
    refine (awake_any _).mono ?_
    rintro e w9 ⟨rfl, hb⟩
    have HB9 := Lib.hid (HB4.out.trans (hb.mono HB4.out.size)); clear hb
    go_wp2_with fail
    go_ret
    exact ⟨rfl, HB9.out⟩
end Go.Proofs.Ytagelndnhpijfaa
