/-
  The law of digests and their reference.
-/
import Derived.Test.YtahfmeopecmpmaaDoorDvA
import Derived.Test.YtahfmeopecmpmaaDoorRfC
namespace Go.Proofs.YtahfmeopecmpmaaDoor
open Go.RowKit

set_option maxHeartbeats 2000000 in
set_option maxRecDepth 100000 in
theorem law_digestSums (g s : ByteArray) (_w0 : g.size ≤ maxLen) (_w1 : s.size ≤ maxLen) (w : World) (_hsh : w.ShapedOpen Tryd.prog) :
    Calls Tryd.prog 3 #[.string g, .string s] w fun e w' => e = .returned (.bool true) ∧ Below w.heap.size w w' := by
  by_cases h40 : g.size ≤ 40
  · have hd : decide ((40 : Int) < (g.size : Int)) = false := by simp; omega
    cases hlg : lgB s.size 60 with
    | true =>
      have HL := Lib.hid hlg; clear hlg
      go_enter Tryd.func3, Tryd.ntmps3
      go_wp2_with fail
      refine (Long_any s 60 _).mono ?_
      rintro e x1 ⟨rfl, rfl⟩
      rw [HL.out]
      go_wp2_with fail
      refine (awake_any _).mono ?_
      rintro e x2 ⟨rfl, h2⟩
      have H2 := Lib.hid h2; clear h2
      go_wp2_with fail
      go_ret
      exact ⟨rfl, H2.out⟩
    | false =>
      have HL := Lib.hid hlg; clear hlg
      obtain ⟨SO, hSO⟩ : ∃ x, smO g.data.toList s.data.toList = x := ⟨_, rfl⟩
      obtain ⟨DC, hDC⟩ : ∃ x, dck g.data.toList s.data.toList = x := ⟨_, rfl⟩
      obtain ⟨AO, hAO⟩ : ∃ x, apO g.data.toList s.data.toList = x := ⟨_, rfl⟩
      obtain ⟨AE, hAE⟩ : ∃ x, apE g.data.toList s.data.toList = x := ⟨_, rfl⟩
      obtain ⟨VB, hVB⟩ : ∃ x, vfB g.data.toList s.data.toList = x := ⟨_, rfl⟩
      obtain ⟨GC, hGC⟩ : ∃ x, gck g.data.toList = x := ⟨_, rfl⟩
      have HS := Lib.hid hSO
      have HD := Lib.hid hDC
      have HA := Lib.hid hAO
      have HE := Lib.hid hAE
      have HV := Lib.hid hVB
      have HC := Lib.hid hGC
      clear hSO hDC hAO hAE hVB hGC
      go_enter Tryd.func3, Tryd.ntmps3
      go_wp2_with fail
      refine (Long_any s 60 _).mono ?_
      rintro e x1 ⟨rfl, rfl⟩
      rw [HL.out]
      go_wp2_with fail
      refine (Sum_any _ _ _).mono ?_
      rintro e x2 ⟨rfl, h2⟩
      rw [HS.out, HD.out]
      have H2 := Lib.hid h2; clear h2
      go_wp2_with fail
      refine (rSum_any _ _ _).mono ?_
      rintro e x3 ⟨rfl, h3⟩
      rw [HS.out, HD.out]
      have H3 := Lib.hid (H2.out.trans (h3.mono H2.out.size)); clear h3
      go_wp2_with fail
      refine (Append_any _ _ _).mono ?_
      rintro e x4 ⟨rfl, h4⟩
      rw [HA.out, HE.out]
      have H4 := Lib.hid (H3.out.trans (h4.mono H3.out.size)); clear h4
      go_wp2_with fail
      refine (rAppend_any _ _ _).mono ?_
      rintro e x5 ⟨rfl, h5⟩
      rw [HA.out, HE.out]
      have H5 := Lib.hid (H4.out.trans (h5.mono H4.out.size)); clear h5
      go_wp2_with fail
      refine (Verify_any _ _ _).mono ?_
      rintro e x6 ⟨rfl, h6⟩
      rw [HV.out, HD.out]
      have H6 := Lib.hid (H5.out.trans (h6.mono H5.out.size)); clear h6
      go_wp2_with fail
      refine (rVerify_any _ _ _).mono ?_
      rintro e x7 ⟨rfl, h7⟩
      rw [HV.out, HD.out]
      have H7 := Lib.hid (H6.out.trans (h7.mono H6.out.size)); clear h7
      go_wp2_with fail
      refine (gCheck_any _ _).mono ?_
      rintro e x8 ⟨rfl, rfl⟩
      rw [HC.out]
      go_wp2_with fail
      refine (refGCheck_any _ _).mono ?_
      rintro e x8 ⟨rfl, rfl⟩
      rw [HC.out]
      go_wp2_with fail
      refine (awake_any _).mono ?_
      rintro e x9 ⟨rfl, h9⟩
      have H9 := Lib.hid (H7.out.trans (h9.mono H7.out.size)); clear h9
      go_wp2_with fail
      go_ret
      exact ⟨rfl, H9.out⟩
  · have hd : decide ((40 : Int) < (g.size : Int)) = true := by simp; omega
    go_enter Tryd.func3, Tryd.ntmps3
    go_wp2_with fail
    refine (awake_any _).mono ?_
    rintro e x2 ⟨rfl, h2⟩
    have H2 := Lib.hid h2; clear h2
    go_wp2_with fail
    go_ret
    exact ⟨rfl, H2.out⟩
end Go.Proofs.YtahfmeopecmpmaaDoor
