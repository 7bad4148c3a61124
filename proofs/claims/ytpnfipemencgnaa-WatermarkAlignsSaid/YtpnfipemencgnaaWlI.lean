/-
  WatermarkAligns returns true for every input: the walk.
-/
import Derived.Test.YtpnfipemencgnaaWmI
import Derived.Test.YtpnfipemencgnaaWmX
import Derived.Test.YtpnfipemencgnaaWmY
namespace Go.Proofs.Ytpnfipemencgnaa
open Go.RowKit

set_option maxHeartbeats 8000000 in
set_option maxRecDepth 100000 in
theorem law_watermarkAligns (m r : ByteArray) (hm : m.size ≤ maxLen) (hr : r.size ≤ maxLen) (w : World) :
    Calls Try.prog 7 #[.string m, .string r] w fun e w' => e = .returned (.bool true) ∧ Below w.heap.size w w' := by
  unfold maxLen at hm hr
  have SH := Lib.hid (alE_short m.data.toList r.data.toList)
  have SD := Lib.hid (show (drV m.data.toList r.data.toList).length ≤ 256 by rw [drV_eq]; exact Nat.le_trans (drS_len _ _) (alE_short _ _))
  have EQ1 := Lib.hid (show (alE m.data.toList r.data.toList == alE m.data.toList r.data.toList) = true by simp)
  have EQ2 := Lib.hid (show (drV m.data.toList r.data.toList == drV m.data.toList r.data.toList) = true by simp)
  by_cases a1 : m.size ≤ 24
  · by_cases b1 : r.size ≤ 24
    · go_enter Try.func7, Try.ntmps7
      go_wp2_with fail
      refine (walign_any _ _ _).mono ?_
      rintro e w1 ⟨va, rfl, ho, h1⟩
      have HB1 := Lib.hid h1
      have HA := Lib.hid ho.holds; clear ho h1
      go_wp2_with fail
      refine (refAlign_any _ _ _).mono ?_
      rintro e w2 ⟨vb, rfl, ho, h2⟩
      have HB2 := Lib.hid (ext_trans HB1.out h2)
      have HA := Lib.hid (HA.out.below h2)
      have HRA := Lib.hid ho.holds; clear ho h2
      go_wp2_with fail
      refine (cost_any _ _ _).mono ?_
      rintro e w3 ⟨rfl, h3⟩
      have HB3 := Lib.hid (ext_trans HB2.out h3)
      have HA := Lib.hid (HA.out.below h3)
      have HRA := Lib.hid (HRA.out.below h3); clear h3
      go_wp2_with fail
      refine (refCost_any _ _ _).mono ?_
      rintro e w4 ⟨rfl, h4⟩
      have HB4 := Lib.hid (ext_trans HB3.out h4)
      have HA := Lib.hid (HA.out.below h4)
      have HRA := Lib.hid (HRA.out.below h4); clear h4
      go_wp2_with fail
      refine (extract_any _ _ _).mono ?_
      rintro e w5 ⟨rfl, h5⟩
      have HB5 := Lib.hid (ext_trans HB4.out h5)
      have HA := Lib.hid (HA.out.below h5)
      have HRA := Lib.hid (HRA.out.below h5); clear h5
      go_wp2_with fail
      refine (refExtract_any _ _ _).mono ?_
      rintro e w6 ⟨rfl, h6⟩
      have HB6 := Lib.hid (ext_trans HB5.out h6)
      have HA := Lib.hid (HA.out.below h6)
      have HRA := Lib.hid (HRA.out.below h6); clear h6
      go_wp2_with fail
      refine (drift_any _ _ _).mono ?_
      rintro e w7 ⟨vd, rfl, ho, h7⟩
      have HB7 := Lib.hid (ext_trans HB6.out h7)
      have HA := Lib.hid (HA.out.below h7)
      have HRA := Lib.hid (HRA.out.below h7)
      have HD := Lib.hid ho.holds; clear ho h7
      go_wp2_with fail
      refine (refDrift_any _ _ _ (by omega)).mono ?_
      rintro e w8 ⟨ve, rfl, ho, h8⟩
      have HB8 := Lib.hid (ext_trans HB7.out h8)
      have HA := Lib.hid (HA.out.below h8)
      have HRA := Lib.hid (HRA.out.below h8)
      have HD := Lib.hid (HD.out.below h8)
      have HRD := Lib.hid ho.holds; clear ho h8
      go_wp2_with fail
      refine (unique_any _ _ _).mono ?_
      rintro e w9 ⟨rfl, h9⟩
      have HB9 := Lib.hid (ext_trans HB8.out h9)
      have HA := Lib.hid (HA.out.below h9)
      have HRA := Lib.hid (HRA.out.below h9)
      have HD := Lib.hid (HD.out.below h9)
      have HRD := Lib.hid (HRD.out.below h9); clear h9
      go_wp2_with fail
      refine (refUnique_any _ _ _).mono ?_
      rintro e w10 ⟨rfl, h10⟩
      have HB10 := Lib.hid (ext_trans HB9.out h10)
      have HA := Lib.hid (HA.out.below h10)
      have HRA := Lib.hid (HRA.out.below h10)
      have HD := Lib.hid (HD.out.below h10)
      have HRD := Lib.hid (HRD.out.below h10); clear h10
      go_wp2_with fail
      refine (equal_holds HA.out HRA.out (by have := SH.out; omega) (by have := SH.out; omega)).mono ?_
      rintro e w11 ⟨rfl, q, rfl⟩
      rw [EQ1.out]
      go_wp2_with fail
      refine (equal_holds (HD.out.drewN q) (HRD.out.drewN q) (by have := SD.out; omega) (by have := SD.out; omega)).mono ?_
      rintro e w12 ⟨rfl, q2, rfl⟩
      rw [EQ2.out]
      go_wp2_with fail
      refine (awake_any _).mono ?_
      rintro e w13 ⟨rfl, h13⟩
      have H13 := Lib.hid h13; clear h13
      go_wp2_with fail
      go_ret
      exact ⟨rfl, (below_drewN HB10.out (q + q2)).trans (H13.out.mono (by have := HB10.out.size; simp; omega))⟩
    · by_cases b2 : r.size ≤ 256
      · go_enter Try.func7, Try.ntmps7
        go_wp2_with fail
        refine (awake_any _).mono ?_
        rintro e w2 ⟨rfl, h2⟩
        have H2 := Lib.hid h2; clear h2
        go_wp2_with fail
        go_ret
        exact ⟨rfl, H2.out⟩
      · by_cases b3 : r.size ≤ 300
        · go_enter Try.func7, Try.ntmps7
          go_wp2_with fail
          refine (walign_any _ _ _).mono ?_
          rintro e w1 ⟨va, rfl, ho, h1⟩
          have HB1 := Lib.hid h1
          have HA := Lib.hid ho.holds; clear ho h1
          go_wp2_with fail
          refine (refAlign_any _ _ _).mono ?_
          rintro e w2 ⟨vb, rfl, ho, h2⟩
          have HB2 := Lib.hid (ext_trans HB1.out h2)
          have HA := Lib.hid (HA.out.below h2)
          have HRA := Lib.hid ho.holds; clear ho h2
          go_wp2_with fail
          refine (cost_any _ _ _).mono ?_
          rintro e w3 ⟨rfl, h3⟩
          have HB3 := Lib.hid (ext_trans HB2.out h3)
          have HA := Lib.hid (HA.out.below h3)
          have HRA := Lib.hid (HRA.out.below h3); clear h3
          go_wp2_with fail
          refine (refCost_any _ _ _).mono ?_
          rintro e w4 ⟨rfl, h4⟩
          have HB4 := Lib.hid (ext_trans HB3.out h4)
          have HA := Lib.hid (HA.out.below h4)
          have HRA := Lib.hid (HRA.out.below h4); clear h4
          go_wp2_with fail
          refine (extract_any _ _ _).mono ?_
          rintro e w5 ⟨rfl, h5⟩
          have HB5 := Lib.hid (ext_trans HB4.out h5)
          have HA := Lib.hid (HA.out.below h5)
          have HRA := Lib.hid (HRA.out.below h5); clear h5
          go_wp2_with fail
          refine (refExtract_any _ _ _).mono ?_
          rintro e w6 ⟨rfl, h6⟩
          have HB6 := Lib.hid (ext_trans HB5.out h6)
          have HA := Lib.hid (HA.out.below h6)
          have HRA := Lib.hid (HRA.out.below h6); clear h6
          go_wp2_with fail
          refine (drift_any _ _ _).mono ?_
          rintro e w7 ⟨vd, rfl, ho, h7⟩
          have HB7 := Lib.hid (ext_trans HB6.out h7)
          have HA := Lib.hid (HA.out.below h7)
          have HRA := Lib.hid (HRA.out.below h7)
          have HD := Lib.hid ho.holds; clear ho h7
          go_wp2_with fail
          refine (refDrift_any _ _ _ (by omega)).mono ?_
          rintro e w8 ⟨ve, rfl, ho, h8⟩
          have HB8 := Lib.hid (ext_trans HB7.out h8)
          have HA := Lib.hid (HA.out.below h8)
          have HRA := Lib.hid (HRA.out.below h8)
          have HD := Lib.hid (HD.out.below h8)
          have HRD := Lib.hid ho.holds; clear ho h8
          go_wp2_with fail
          refine (unique_any _ _ _).mono ?_
          rintro e w9 ⟨rfl, h9⟩
          have HB9 := Lib.hid (ext_trans HB8.out h9)
          have HA := Lib.hid (HA.out.below h9)
          have HRA := Lib.hid (HRA.out.below h9)
          have HD := Lib.hid (HD.out.below h9)
          have HRD := Lib.hid (HRD.out.below h9); clear h9
          go_wp2_with fail
          refine (refUnique_any _ _ _).mono ?_
          rintro e w10 ⟨rfl, h10⟩
          have HB10 := Lib.hid (ext_trans HB9.out h10)
          have HA := Lib.hid (HA.out.below h10)
          have HRA := Lib.hid (HRA.out.below h10)
          have HD := Lib.hid (HD.out.below h10)
          have HRD := Lib.hid (HRD.out.below h10); clear h10
          go_wp2_with fail
          refine (equal_holds HA.out HRA.out (by have := SH.out; omega) (by have := SH.out; omega)).mono ?_
          rintro e w11 ⟨rfl, q, rfl⟩
          rw [EQ1.out]
          go_wp2_with fail
          refine (equal_holds (HD.out.drewN q) (HRD.out.drewN q) (by have := SD.out; omega) (by have := SD.out; omega)).mono ?_
          rintro e w12 ⟨rfl, q2, rfl⟩
          rw [EQ2.out]
          go_wp2_with fail
          refine (awake_any _).mono ?_
          rintro e w13 ⟨rfl, h13⟩
          have H13 := Lib.hid h13; clear h13
          go_wp2_with fail
          go_ret
          exact ⟨rfl, (below_drewN HB10.out (q + q2)).trans (H13.out.mono (by have := HB10.out.size; simp; omega))⟩
        · go_enter Try.func7, Try.ntmps7
          go_wp2_with fail
          refine (awake_any _).mono ?_
          rintro e w2 ⟨rfl, h2⟩
          have H2 := Lib.hid h2; clear h2
          go_wp2_with fail
          go_ret
          exact ⟨rfl, H2.out⟩
  · by_cases a2 : m.size ≤ 256
    · by_cases b1 : r.size ≤ 24
      · go_enter Try.func7, Try.ntmps7
        go_wp2_with fail
        refine (awake_any _).mono ?_
        rintro e w2 ⟨rfl, h2⟩
        have H2 := Lib.hid h2; clear h2
        go_wp2_with fail
        go_ret
        exact ⟨rfl, H2.out⟩
      · by_cases b2 : r.size ≤ 256
        · go_enter Try.func7, Try.ntmps7
          go_wp2_with fail
          refine (awake_any _).mono ?_
          rintro e w2 ⟨rfl, h2⟩
          have H2 := Lib.hid h2; clear h2
          go_wp2_with fail
          go_ret
          exact ⟨rfl, H2.out⟩
        · by_cases b3 : r.size ≤ 300
          · go_enter Try.func7, Try.ntmps7
            go_wp2_with fail
            refine (awake_any _).mono ?_
            rintro e w2 ⟨rfl, h2⟩
            have H2 := Lib.hid h2; clear h2
            go_wp2_with fail
            go_ret
            exact ⟨rfl, H2.out⟩
          · go_enter Try.func7, Try.ntmps7
            go_wp2_with fail
            refine (awake_any _).mono ?_
            rintro e w2 ⟨rfl, h2⟩
            have H2 := Lib.hid h2; clear h2
            go_wp2_with fail
            go_ret
            exact ⟨rfl, H2.out⟩
    · by_cases a3 : m.size ≤ 300
      · by_cases b1 : r.size ≤ 24
        · go_enter Try.func7, Try.ntmps7
          go_wp2_with fail
          refine (walign_any _ _ _).mono ?_
          rintro e w1 ⟨va, rfl, ho, h1⟩
          have HB1 := Lib.hid h1
          have HA := Lib.hid ho.holds; clear ho h1
          go_wp2_with fail
          refine (refAlign_any _ _ _).mono ?_
          rintro e w2 ⟨vb, rfl, ho, h2⟩
          have HB2 := Lib.hid (ext_trans HB1.out h2)
          have HA := Lib.hid (HA.out.below h2)
          have HRA := Lib.hid ho.holds; clear ho h2
          go_wp2_with fail
          refine (cost_any _ _ _).mono ?_
          rintro e w3 ⟨rfl, h3⟩
          have HB3 := Lib.hid (ext_trans HB2.out h3)
          have HA := Lib.hid (HA.out.below h3)
          have HRA := Lib.hid (HRA.out.below h3); clear h3
          go_wp2_with fail
          refine (refCost_any _ _ _).mono ?_
          rintro e w4 ⟨rfl, h4⟩
          have HB4 := Lib.hid (ext_trans HB3.out h4)
          have HA := Lib.hid (HA.out.below h4)
          have HRA := Lib.hid (HRA.out.below h4); clear h4
          go_wp2_with fail
          refine (extract_any _ _ _).mono ?_
          rintro e w5 ⟨rfl, h5⟩
          have HB5 := Lib.hid (ext_trans HB4.out h5)
          have HA := Lib.hid (HA.out.below h5)
          have HRA := Lib.hid (HRA.out.below h5); clear h5
          go_wp2_with fail
          refine (refExtract_any _ _ _).mono ?_
          rintro e w6 ⟨rfl, h6⟩
          have HB6 := Lib.hid (ext_trans HB5.out h6)
          have HA := Lib.hid (HA.out.below h6)
          have HRA := Lib.hid (HRA.out.below h6); clear h6
          go_wp2_with fail
          refine (drift_any _ _ _).mono ?_
          rintro e w7 ⟨vd, rfl, ho, h7⟩
          have HB7 := Lib.hid (ext_trans HB6.out h7)
          have HA := Lib.hid (HA.out.below h7)
          have HRA := Lib.hid (HRA.out.below h7)
          have HD := Lib.hid ho.holds; clear ho h7
          go_wp2_with fail
          refine (refDrift_any _ _ _ (by omega)).mono ?_
          rintro e w8 ⟨ve, rfl, ho, h8⟩
          have HB8 := Lib.hid (ext_trans HB7.out h8)
          have HA := Lib.hid (HA.out.below h8)
          have HRA := Lib.hid (HRA.out.below h8)
          have HD := Lib.hid (HD.out.below h8)
          have HRD := Lib.hid ho.holds; clear ho h8
          go_wp2_with fail
          refine (unique_any _ _ _).mono ?_
          rintro e w9 ⟨rfl, h9⟩
          have HB9 := Lib.hid (ext_trans HB8.out h9)
          have HA := Lib.hid (HA.out.below h9)
          have HRA := Lib.hid (HRA.out.below h9)
          have HD := Lib.hid (HD.out.below h9)
          have HRD := Lib.hid (HRD.out.below h9); clear h9
          go_wp2_with fail
          refine (refUnique_any _ _ _).mono ?_
          rintro e w10 ⟨rfl, h10⟩
          have HB10 := Lib.hid (ext_trans HB9.out h10)
          have HA := Lib.hid (HA.out.below h10)
          have HRA := Lib.hid (HRA.out.below h10)
          have HD := Lib.hid (HD.out.below h10)
          have HRD := Lib.hid (HRD.out.below h10); clear h10
          go_wp2_with fail
          refine (equal_holds HA.out HRA.out (by have := SH.out; omega) (by have := SH.out; omega)).mono ?_
          rintro e w11 ⟨rfl, q, rfl⟩
          rw [EQ1.out]
          go_wp2_with fail
          refine (equal_holds (HD.out.drewN q) (HRD.out.drewN q) (by have := SD.out; omega) (by have := SD.out; omega)).mono ?_
          rintro e w12 ⟨rfl, q2, rfl⟩
          rw [EQ2.out]
          go_wp2_with fail
          refine (awake_any _).mono ?_
          rintro e w13 ⟨rfl, h13⟩
          have H13 := Lib.hid h13; clear h13
          go_wp2_with fail
          go_ret
          exact ⟨rfl, (below_drewN HB10.out (q + q2)).trans (H13.out.mono (by have := HB10.out.size; simp; omega))⟩
        · by_cases b2 : r.size ≤ 256
          · go_enter Try.func7, Try.ntmps7
            go_wp2_with fail
            refine (awake_any _).mono ?_
            rintro e w2 ⟨rfl, h2⟩
            have H2 := Lib.hid h2; clear h2
            go_wp2_with fail
            go_ret
            exact ⟨rfl, H2.out⟩
          · by_cases b3 : r.size ≤ 300
            · go_enter Try.func7, Try.ntmps7
              go_wp2_with fail
              refine (walign_any _ _ _).mono ?_
              rintro e w1 ⟨va, rfl, ho, h1⟩
              have HB1 := Lib.hid h1
              have HA := Lib.hid ho.holds; clear ho h1
              go_wp2_with fail
              refine (refAlign_any _ _ _).mono ?_
              rintro e w2 ⟨vb, rfl, ho, h2⟩
              have HB2 := Lib.hid (ext_trans HB1.out h2)
              have HA := Lib.hid (HA.out.below h2)
              have HRA := Lib.hid ho.holds; clear ho h2
              go_wp2_with fail
              refine (cost_any _ _ _).mono ?_
              rintro e w3 ⟨rfl, h3⟩
              have HB3 := Lib.hid (ext_trans HB2.out h3)
              have HA := Lib.hid (HA.out.below h3)
              have HRA := Lib.hid (HRA.out.below h3); clear h3
              go_wp2_with fail
              refine (refCost_any _ _ _).mono ?_
              rintro e w4 ⟨rfl, h4⟩
              have HB4 := Lib.hid (ext_trans HB3.out h4)
              have HA := Lib.hid (HA.out.below h4)
              have HRA := Lib.hid (HRA.out.below h4); clear h4
              go_wp2_with fail
              refine (extract_any _ _ _).mono ?_
              rintro e w5 ⟨rfl, h5⟩
              have HB5 := Lib.hid (ext_trans HB4.out h5)
              have HA := Lib.hid (HA.out.below h5)
              have HRA := Lib.hid (HRA.out.below h5); clear h5
              go_wp2_with fail
              refine (refExtract_any _ _ _).mono ?_
              rintro e w6 ⟨rfl, h6⟩
              have HB6 := Lib.hid (ext_trans HB5.out h6)
              have HA := Lib.hid (HA.out.below h6)
              have HRA := Lib.hid (HRA.out.below h6); clear h6
              go_wp2_with fail
              refine (drift_any _ _ _).mono ?_
              rintro e w7 ⟨vd, rfl, ho, h7⟩
              have HB7 := Lib.hid (ext_trans HB6.out h7)
              have HA := Lib.hid (HA.out.below h7)
              have HRA := Lib.hid (HRA.out.below h7)
              have HD := Lib.hid ho.holds; clear ho h7
              go_wp2_with fail
              refine (refDrift_any _ _ _ (by omega)).mono ?_
              rintro e w8 ⟨ve, rfl, ho, h8⟩
              have HB8 := Lib.hid (ext_trans HB7.out h8)
              have HA := Lib.hid (HA.out.below h8)
              have HRA := Lib.hid (HRA.out.below h8)
              have HD := Lib.hid (HD.out.below h8)
              have HRD := Lib.hid ho.holds; clear ho h8
              go_wp2_with fail
              refine (unique_any _ _ _).mono ?_
              rintro e w9 ⟨rfl, h9⟩
              have HB9 := Lib.hid (ext_trans HB8.out h9)
              have HA := Lib.hid (HA.out.below h9)
              have HRA := Lib.hid (HRA.out.below h9)
              have HD := Lib.hid (HD.out.below h9)
              have HRD := Lib.hid (HRD.out.below h9); clear h9
              go_wp2_with fail
              refine (refUnique_any _ _ _).mono ?_
              rintro e w10 ⟨rfl, h10⟩
              have HB10 := Lib.hid (ext_trans HB9.out h10)
              have HA := Lib.hid (HA.out.below h10)
              have HRA := Lib.hid (HRA.out.below h10)
              have HD := Lib.hid (HD.out.below h10)
              have HRD := Lib.hid (HRD.out.below h10); clear h10
              go_wp2_with fail
              refine (equal_holds HA.out HRA.out (by have := SH.out; omega) (by have := SH.out; omega)).mono ?_
              rintro e w11 ⟨rfl, q, rfl⟩
              rw [EQ1.out]
              go_wp2_with fail
              refine (equal_holds (HD.out.drewN q) (HRD.out.drewN q) (by have := SD.out; omega) (by have := SD.out; omega)).mono ?_
              rintro e w12 ⟨rfl, q2, rfl⟩
              rw [EQ2.out]
              go_wp2_with fail
              refine (awake_any _).mono ?_
              rintro e w13 ⟨rfl, h13⟩
              have H13 := Lib.hid h13; clear h13
              go_wp2_with fail
              go_ret
              exact ⟨rfl, (below_drewN HB10.out (q + q2)).trans (H13.out.mono (by have := HB10.out.size; simp; omega))⟩
            · go_enter Try.func7, Try.ntmps7
              go_wp2_with fail
              refine (awake_any _).mono ?_
              rintro e w2 ⟨rfl, h2⟩
              have H2 := Lib.hid h2; clear h2
              go_wp2_with fail
              go_ret
              exact ⟨rfl, H2.out⟩
      · by_cases b1 : r.size ≤ 24
        · go_enter Try.func7, Try.ntmps7
          go_wp2_with fail
          refine (awake_any _).mono ?_
          rintro e w2 ⟨rfl, h2⟩
          have H2 := Lib.hid h2; clear h2
          go_wp2_with fail
          go_ret
          exact ⟨rfl, H2.out⟩
        · by_cases b2 : r.size ≤ 256
          · go_enter Try.func7, Try.ntmps7
            go_wp2_with fail
            refine (awake_any _).mono ?_
            rintro e w2 ⟨rfl, h2⟩
            have H2 := Lib.hid h2; clear h2
            go_wp2_with fail
            go_ret
            exact ⟨rfl, H2.out⟩
          · by_cases b3 : r.size ≤ 300
            · go_enter Try.func7, Try.ntmps7
              go_wp2_with fail
              refine (awake_any _).mono ?_
              rintro e w2 ⟨rfl, h2⟩
              have H2 := Lib.hid h2; clear h2
              go_wp2_with fail
              go_ret
              exact ⟨rfl, H2.out⟩
            · go_enter Try.func7, Try.ntmps7
              go_wp2_with fail
              refine (awake_any _).mono ?_
              rintro e w2 ⟨rfl, h2⟩
              have H2 := Lib.hid h2; clear h2
              go_wp2_with fail
              go_ret
              exact ⟨rfl, H2.out⟩
end Go.Proofs.Ytpnfipemencgnaa
