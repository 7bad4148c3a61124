/-
  WatermarkWords returns true for every input: the walk.
-/
import Derived.Test.YtpnfipemencgnaaWmI
import Derived.Test.YtpnfipemencgnaaWmS
namespace Go.Proofs.Ytpnfipemencgnaa
open Go.RowKit

set_option maxHeartbeats 2000000 in
set_option maxRecDepth 100000 in
theorem law_watermarkWords (m s : ByteArray) (n seed : Int) (a4 : Option Addr) (len4 cap4 : Nat) (z4 : List Int) (w : World) (hm : m.size ≤ maxLen) (hs : s.size ≤ maxLen) (w2 : (Lit.int .i64 n).wf = true) (_w3 : (Lit.int .i64 seed).wf = true) (w4 : IsRowI .i64 w a4 len4 cap4 z4) :
    Calls Try.prog 9 #[.string m, .string s, .int .i64 n, .int .i64 seed, .slice a4 len4 cap4] w fun e w' => e = .returned (.bool true) ∧ Below w.heap.size w w' := by
  obtain ⟨n1, n2⟩ := bounds_i64 w2
  obtain ⟨ho, hlo, hbd, hmx⟩ := w4.holds
  obtain ⟨o, hoe⟩ : ∃ o, o = z4.take len4 := ⟨_, rfl⟩
  rw [← hoe] at ho hlo hbd
  unfold maxLen at hmx hm hs
  clear hoe w2 _w3 w4
  have HO := Lib.hid ho; clear ho
  have HBD := Lib.hid hbd; clear hbd
  by_cases c1 : 60 < m.size
  · have t1 : decide ((60 : Int) < (m.size : Int)) = true := by simp; omega
    clear c1
    go_enter Try.func9, Try.ntmps9
    go_wp2_with fail
    refine (awake_any _).mono ?_
    rintro e w2 ⟨rfl, h2⟩
    have H2 := Lib.hid h2; clear h2
    go_wp2_with fail
    go_ret
    exact ⟨rfl, H2.out⟩
  · have t1 : decide ((60 : Int) < (m.size : Int)) = false := by simp; omega
    by_cases c2 : 60 < s.size
    · have t2 : decide ((60 : Int) < (s.size : Int)) = true := by simp; omega
      clear c1 c2
      go_enter Try.func9, Try.ntmps9
      go_wp2_with fail
      refine (awake_any _).mono ?_
      rintro e w2 ⟨rfl, h2⟩
      have H2 := Lib.hid h2; clear h2
      go_wp2_with fail
      go_ret
      exact ⟨rfl, H2.out⟩
    · have t2 : decide ((60 : Int) < (s.size : Int)) = false := by simp; omega
      by_cases c5 : 12 < len4
      · have t5 : decide ((12 : Int) < (len4 : Int)) = true := by simp; omega
        by_cases c3 : 200 < n
        · have t3 : decide (200 < n) = true := by simpa using c3
          by_cases c4 : n ≤ 65536
          · have t4 : decide (n ≤ 65536) = true := by simpa using c4
            clear c1 c2 c5 c3 c4
            go_enter Try.func9, Try.ntmps9
            go_wp2_with fail
            refine (awake_any _).mono ?_
            rintro e w2 ⟨rfl, h2⟩
            have H2 := Lib.hid h2; clear h2
            go_wp2_with fail
            go_ret
            exact ⟨rfl, H2.out⟩
          · have t4 : decide (n ≤ 65536) = false := by simpa using c4
            clear c1 c2 c5 c3 c4
            go_enter Try.func9, Try.ntmps9
            go_wp2_with fail
            refine (awake_any _).mono ?_
            rintro e w2 ⟨rfl, h2⟩
            have H2 := Lib.hid h2; clear h2
            go_wp2_with fail
            go_ret
            exact ⟨rfl, H2.out⟩
        · have t3 : decide (200 < n) = false := by simpa using c3
          clear c1 c2 c5 c3
          go_enter Try.func9, Try.ntmps9
          go_wp2_with fail
          refine (awake_any _).mono ?_
          rintro e w2 ⟨rfl, h2⟩
          have H2 := Lib.hid h2; clear h2
          go_wp2_with fail
          go_ret
          exact ⟨rfl, H2.out⟩
      · have t5 : decide ((12 : Int) < (len4 : Int)) = false := by simp; omega
        have C1 := Lib.hid (fun w hv => sparse_any n (.slice a4 len4 cap4) o w hv (by omega) HBD.out)
        have C2 := Lib.hid (fun w hv => refSparse_any n (.slice a4 len4 cap4) o w hv (by omega) HBD.out)
        by_cases c3 : 200 < n
        · have t3 : decide (200 < n) = true := by simpa using c3
          by_cases c4 : n ≤ 65536
          · have t4 : decide (n ≤ 65536) = true := by simpa using c4
            clear c1 c2 c5 c3 c4
            go_enter Try.func9, Try.ntmps9
            go_wp2_with fail
            refine (awake_any _).mono ?_
            rintro e w2 ⟨rfl, h2⟩
            have H2 := Lib.hid h2; clear h2
            go_wp2_with fail
            go_ret
            exact ⟨rfl, H2.out⟩
          · have t4 : decide (n ≤ 65536) = false := by simpa using c4
            clear c1 c2 c5 c3 c4
            go_enter Try.func9, Try.ntmps9
            go_wp2_with fail
            refine (add_any _ _ _).mono ?_
            rintro e w1 ⟨rfl, h1⟩
            have HB1 := Lib.hid h1; clear h1
            go_wp2_with fail
            refine (refAdd_any _ _ _).mono ?_
            rintro e w2 ⟨rfl, h2⟩
            have HB2 := Lib.hid (ext_trans HB1.out h2); clear h2
            go_wp2_with fail
            refine (C1.out _ (HO.out.below HB2.out)).mono ?_
            rintro e w3 ⟨rfl, h3⟩
            have HB3 := Lib.hid (ext_trans HB2.out h3); clear h3
            go_wp2_with fail
            refine (C2.out _ (HO.out.below HB3.out)).mono ?_
            rintro e w4 ⟨rfl, h4⟩
            have HB4 := Lib.hid (ext_trans HB3.out h4); clear h4
            go_wp2_with fail
            refine (mark_any _ _ _).mono ?_
            rintro e w5 ⟨rfl, h5⟩
            have HB5 := Lib.hid (ext_trans HB4.out h5); clear h5
            go_wp2_with fail
            refine (refMark_any _ _ _).mono ?_
            rintro e w6 ⟨rfl, h6⟩
            have HB6 := Lib.hid (ext_trans HB5.out h6); clear h6
            go_wp2_with fail
            refine (awake_any _).mono ?_
            rintro e w7 ⟨rfl, h7⟩
            have H7 := Lib.hid h7; clear h7
            go_wp2_with fail
            go_ret
            exact ⟨rfl, ext_trans HB6.out H7.out⟩
        · have t3 : decide (200 < n) = false := by simpa using c3
          clear c1 c2 c5 c3
          go_enter Try.func9, Try.ntmps9
          go_wp2_with fail
          refine (add_any _ _ _).mono ?_
          rintro e w1 ⟨rfl, h1⟩
          have HB1 := Lib.hid h1; clear h1
          go_wp2_with fail
          refine (refAdd_any _ _ _).mono ?_
          rintro e w2 ⟨rfl, h2⟩
          have HB2 := Lib.hid (ext_trans HB1.out h2); clear h2
          go_wp2_with fail
          refine (C1.out _ (HO.out.below HB2.out)).mono ?_
          rintro e w3 ⟨rfl, h3⟩
          have HB3 := Lib.hid (ext_trans HB2.out h3); clear h3
          go_wp2_with fail
          refine (C2.out _ (HO.out.below HB3.out)).mono ?_
          rintro e w4 ⟨rfl, h4⟩
          have HB4 := Lib.hid (ext_trans HB3.out h4); clear h4
          go_wp2_with fail
          refine (mark_any _ _ _).mono ?_
          rintro e w5 ⟨rfl, h5⟩
          have HB5 := Lib.hid (ext_trans HB4.out h5); clear h5
          go_wp2_with fail
          refine (refMark_any _ _ _).mono ?_
          rintro e w6 ⟨rfl, h6⟩
          have HB6 := Lib.hid (ext_trans HB5.out h6); clear h6
          go_wp2_with fail
          refine (awake_any _).mono ?_
          rintro e w7 ⟨rfl, h7⟩
          have H7 := Lib.hid h7; clear h7
          go_wp2_with fail
          go_ret
          exact ⟨rfl, ext_trans HB6.out H7.out⟩
end Go.Proofs.Ytpnfipemencgnaa
