/-
  The law of the results of the stuffing functions and their references.
-/
import Derived.Test.YtdalcopbaaabiaaDoorStJ
import Derived.Test.YtdalcopbaaabiaaDoorSlA
namespace Go.Proofs.YtdalcopbaaabiaaDoor
open Go.RowKit

set_option maxHeartbeats 2000000 in
set_option maxRecDepth 100000 in
theorem law_stuffingWords (a0 a1 : Int) (s : ByteArray) (_w0 : (Lit.int .i64 a0).wf = true) (_w1 : (Lit.int .i64 a1).wf = true) (_w2 : s.size ≤ maxLen) (w : World) (hsh : w.ShapedOpen Tryd.prog) :
    Calls Tryd.prog 5 #[.int .i64 a0, .int .i64 a1, .string s] w fun e w' => e = .returned (.bool true) ∧ Below w.heap.size w w' := by
  have HMX := Lib.hid (mx_of hsh); clear hsh _w0 _w1
  by_cases hl : s.size ≤ 60
  · have hl' : decide ((60 : Int) < (s.size : Int)) = false := by simp; omega
    go_enter Tryd.func5, Tryd.ntmps5
    go_wp2_with fail
    refine (Stuff_any _ _ _).mono ?_
    rintro e x1 ⟨rfl, hh⟩
    have HM1 := Lib.hid (HMX.out.below hh (Nat.le_refl _))
    have H1 := Lib.hid (hh); clear hh
    go_wp2_with fail
    refine (refStuff_any _ _ hl _).mono ?_
    rintro e x2 ⟨rfl, hh⟩
    have HM2 := Lib.hid (HM1.out.below hh (Nat.le_refl _))
    have H2 := Lib.hid (H1.out.trans (hh.mono H1.out.size)); clear hh
    go_wp2_with fail
    refine (Unstuff_any _ _ _).mono ?_
    rintro e x3 ⟨rfl, hh⟩
    have HM3 := Lib.hid (HM2.out.below hh (Nat.le_refl _))
    have H3 := Lib.hid (H2.out.trans (hh.mono H2.out.size)); clear hh
    go_wp2_with fail
    refine (refUnstuff_any _ _ hl _).mono ?_
    rintro e x4 ⟨rfl, hh⟩
    have HM4 := Lib.hid (HM3.out.below hh (Nat.le_refl _))
    have H4 := Lib.hid (H3.out.trans (hh.mono H3.out.size)); clear hh
    go_wp2_with fail
    refine (Pad_any _ _ _ HM4.out).mono ?_
    rintro e x5 ⟨rfl, hh⟩
    have HM5 := Lib.hid (HM4.out.below hh (Nat.le_refl _))
    have H5 := Lib.hid (H4.out.trans (hh.mono H4.out.size)); clear hh
    go_wp2_with fail
    refine (refPad_any _ _ hl _).mono ?_
    rintro e x6 ⟨rfl, hh⟩
    have HM6 := Lib.hid (HM5.out.below hh (Nat.le_refl _))
    have H6 := Lib.hid (H5.out.trans (hh.mono H5.out.size)); clear hh
    go_wp2_with fail
    refine (Unpad_any _ _ _).mono ?_
    rintro e x7 ⟨rfl, hh⟩
    have HM7 := Lib.hid (HM6.out.below hh (Nat.le_refl _))
    have H7 := Lib.hid (H6.out.trans (hh.mono H6.out.size)); clear hh
    go_wp2_with fail
    refine (refUnpad_any _ _ hl _).mono ?_
    rintro e x8 ⟨rfl, hh⟩
    have HM8 := Lib.hid (HM7.out.below hh (Nat.le_refl _))
    have H8 := Lib.hid (H7.out.trans (hh.mono H7.out.size)); clear hh
    go_wp2_with fail
    refine (Both_any _ _ _ _ HM8.out).mono ?_
    rintro e x9 ⟨rfl, hh⟩
    have HM9 := Lib.hid (HM8.out.below hh (Nat.le_refl _))
    have H9 := Lib.hid (H8.out.trans (hh.mono H8.out.size)); clear hh
    go_wp2_with fail
    refine (refBoth_any _ _ _ hl _).mono ?_
    rintro e x10 ⟨rfl, hh⟩
    have HM10 := Lib.hid (HM9.out.below hh (Nat.le_refl _))
    have H10 := Lib.hid (H9.out.trans (hh.mono H9.out.size)); clear hh
    go_wp2_with fail
    refine (Unboth_any _ _ _ _).mono ?_
    rintro e x11 ⟨rfl, hh⟩
    have HM11 := Lib.hid (HM10.out.below hh (Nat.le_refl _))
    have H11 := Lib.hid (H10.out.trans (hh.mono H10.out.size)); clear hh
    go_wp2_with fail
    refine (refUnboth_any _ _ _ hl _).mono ?_
    rintro e x12 ⟨rfl, hh⟩
    have HM12 := Lib.hid (HM11.out.below hh (Nat.le_refl _))
    have H12 := Lib.hid (H11.out.trans (hh.mono H11.out.size)); clear hh
    go_wp2_with fail
    refine (awake_any _ HM12.out).mono ?_
    rintro e x ⟨rfl, hh⟩
    have HF := Lib.hid (H12.out.trans (hh.mono H12.out.size)); clear hh
    go_wp2_with fail
    go_ret
    exact ⟨rfl, HF.out⟩
  · have hl' : decide ((60 : Int) < (s.size : Int)) = true := by simp; omega
    go_enter Tryd.func5, Tryd.ntmps5
    go_wp2_with fail
    refine (awake_any _ HMX.out).mono ?_
    rintro e x ⟨rfl, hh⟩
    have HF := Lib.hid hh; clear hh
    go_wp2_with fail
    go_ret
    exact ⟨rfl, HF.out⟩
end Go.Proofs.YtdalcopbaaabiaaDoor
