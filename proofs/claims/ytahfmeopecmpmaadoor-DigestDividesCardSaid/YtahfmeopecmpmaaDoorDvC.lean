/-
  The law of products of generators.
-/
import Derived.Test.YtahfmeopecmpmaaDoorDvA
namespace Go.Proofs.YtahfmeopecmpmaaDoor
open Go.RowKit

theorem bnA_one {n : Nat} {a : ByteArray} (h : bnA n [a] = true) : bnT n a.data.toList = true := by simpa [bnA] using h
theorem vf_mul {g p s : List UInt8} (hg : Gen g) (hp : Gen p) (hd : dv (vl g) (vl p)) (hdeg : deg g ≤ deg p) (hs : s.length ≤ 65536) (hb : s.all isB = true) (h : vfB p s = true) : vfB g s = true := by
  obtain ⟨h1, h2⟩ := (vf_dv hp hs hb).1 h
  exact (vf_dv hg hs hb).2 ⟨by omega, dv_trans hd h2⟩
set_option maxHeartbeats 2000000 in
set_option maxRecDepth 100000 in
theorem law_digestProducts (g h s : ByteArray) (_w0 : g.size ≤ maxLen) (_w1 : h.size ≤ maxLen) (_w2 : s.size ≤ maxLen) (w : World) (_hsh : w.ShapedOpen Tryd.prog) :
    Calls Tryd.prog 9 #[.string g, .string h, .string s] w fun e w' => e = .returned (.bool true) ∧ Below w.heap.size w w' := by
  cases hgt0 : genT g.data.toList with
  | false =>
    have HG0 := Lib.hid hgt0; clear hgt0
    go_enter Tryd.func9, Tryd.ntmps9
    go_wp2_with fail
    refine (generator_any _ _).mono ?_
    rintro e x1 ⟨rfl, rfl⟩
    rw [HG0.out]
    go_wp2_with fail
    refine (awake_any _).mono ?_
    rintro e x2 ⟨rfl, h2⟩
    have H2 := Lib.hid h2; clear h2
    go_wp2_with fail
    go_ret
    exact ⟨rfl, H2.out⟩
  | true =>
    have HG0 := Lib.hid hgt0
    cases hgt1 : genT h.data.toList with
    | false =>
      have HG1 := Lib.hid hgt1; clear hgt1
      go_enter Tryd.func9, Tryd.ntmps9
      go_wp2_with fail
      refine (generator_any _ _).mono ?_
      rintro e x1 ⟨rfl, rfl⟩
      rw [HG0.out]
      go_wp2_with fail
      refine (generator_any _ _).mono ?_
      rintro e x1 ⟨rfl, rfl⟩
      rw [HG1.out]
      go_wp2_with fail
      refine (awake_any _).mono ?_
      rintro e x2 ⟨rfl, h2⟩
      have H2 := Lib.hid h2; clear h2
      go_wp2_with fail
      go_ret
      exact ⟨rfl, H2.out⟩
    | true =>
      have HG1 := Lib.hid hgt1
      cases hbt : bnA 40 [s] with
      | false =>
        have HB := Lib.hid hbt; clear hbt
        go_enter Tryd.func9, Tryd.ntmps9
        go_wp2_with fail
        refine (generator_any _ _).mono ?_
        rintro e x1 ⟨rfl, rfl⟩
        rw [HG0.out]
        go_wp2_with fail
        refine (generator_any _ _).mono ?_
        rintro e x1 ⟨rfl, rfl⟩
        rw [HG1.out]
        go_wp2_with fail
        refine (binary_any 40 _ 1 [s] _ (srow_new _ _ [s]) (by simp)).mono ?_
        rintro e x1 ⟨rfl, h1⟩
        rw [HB.out]
        have H1 := Lib.hid ((below_new w _).trans (h1.mono (below_new w _).size)); clear h1
        go_wp2_with fail
        refine (awake_any _).mono ?_
        rintro e x2 ⟨rfl, h2⟩
        have H2 := Lib.hid (H1.out.trans (h2.mono H1.out.size)); clear h2
        go_wp2_with fail
        go_ret
        exact ⟨rfl, H2.out⟩
      | true =>
        have hs1 := bnA_one hbt
        obtain ⟨hsl, hsb⟩ := (bnT_iff (by omega)).1 hs1
        obtain ⟨hgen, hgl⟩ := genT_iff hgt0
        obtain ⟨hgen2, hgl2⟩ := genT_iff hgt1
        have HB := Lib.hid hbt; clear hbt hgt0 hgt1 hs1
        have hlo := hgen.lo
        have hlo2 := hgen2.lo
        have e0 : g.data.toList.length = g.size := rfl
        have e1 : h.data.toList.length = h.size := rfl
        have e2 : s.data.toList.length = s.size := rfl
        obtain ⟨hPl, hPg, hPv⟩ := hgen.pr hgen2 (by omega)
        have htw := tw_bin hgen.bin hgen2.bin (by omega)
        obtain ⟨P, hP⟩ : ∃ P, prO g.data.toList h.data.toList = P := ⟨_, rfl⟩
        rw [hP] at hPl hPg hPv
        have hd1 : dv (vl g.data.toList) (vl P) := ⟨vl h.data.toList, by rw [hPv, cl_comm]⟩
        have hd2 : dv (vl h.data.toList) (vl P) := ⟨vl g.data.toList, hPv⟩
        have hdg1 : deg g.data.toList ≤ deg P := by unfold deg; omega
        have hdg2 : deg h.data.toList ≤ deg P := by unfold deg; omega
        have hgp : gck P = 0 := (gck_iff P).2 hPg
        have hap := ap_ok hPg (w := s.data.toList) (by omega) hsb
        obtain ⟨A, hA⟩ : ∃ A, s.data.toList ++ smV P s.data.toList = A := ⟨_, rfl⟩
        have hvf := vf_sum hPg (w := s.data.toList) (by omega) hsb
        have hAb : A.all isB = true := by rw [← hA, List.all_append, hsb, smV_bin]; rfl
        have hAl : A.length ≤ 65536 := by have := hPg.deg_le; rw [← hA, List.length_append, smV_len]; omega
        rw [hA] at hap hvf
        have hx := vf_mul hgen hPg hd1 hdg1 hAl hAb hvf
        have hy := vf_mul hgen2 hPg hd2 hdg2 hAl hAb hvf
        have hdx : dck g.data.toList A = 0 := dck_gen hgen hAl hAb
        have hdy : dck h.data.toList A = 0 := dck_gen hgen2 hAl hAb
        have hdz : dck P s.data.toList = 0 := dck_gen hPg (by omega) hsb
        have hdu : dck g.data.toList s.data.toList = 0 := dck_gen hgen (by omega) hsb
        have hdv : dck h.data.toList s.data.toList = 0 := dck_gen hgen2 (by omega) hsb
        have hzu : vfB P s.data.toList = true → vfB g.data.toList s.data.toList = true ∧ vfB h.data.toList s.data.toList = true := fun hz =>
          ⟨vf_mul hgen hPg hd1 hdg1 (by omega) hsb hz, vf_mul hgen2 hPg hd2 hdg2 (by omega) hsb hz⟩
        have hPs : (⟨P.toArray⟩ : ByteArray).size = P.length := ba_len P
        have hPi : (g.size : Int) + (h.size : Int) - 1 = (P.length : Int) := by omega
        have hP22 : P.length ≤ 24 := by omega
        have HTW := Lib.hid htw
        have HP := Lib.hid hP
        have HGP := Lib.hid hgp
        have HAP := Lib.hid hap
        have HX := Lib.hid (show vfB g.data.toList A = true ∧ dck g.data.toList A = 0 from ⟨hx, hdx⟩)
        have HY := Lib.hid (show vfB h.data.toList A = true ∧ dck h.data.toList A = 0 from ⟨hy, hdy⟩)
        have HDZ := Lib.hid hdz
        have HDU := Lib.hid hdu
        have HDV := Lib.hid hdv
        clear htw hP hgp hap hx hy hdx hdy hdz hdu hdv hAb hAl hA hvf hd1 hd2 hdg1 hdg2 hgen hgen2 hsb e0 e1 e2 hPv hPg hPl
        cases hz : vfB P s.data.toList with
        | true =>
          have HZ := Lib.hid (show vfB P s.data.toList = true ∧ vfB g.data.toList s.data.toList = true ∧ vfB h.data.toList s.data.toList = true from ⟨hz, hzu hz⟩)
          clear hz hzu
          go_enter Tryd.func9, Tryd.ntmps9
          go_wp2_with fail
          refine (generator_any _ _).mono ?_
          rintro e x1 ⟨rfl, rfl⟩
          rw [HG0.out]
          go_wp2_with fail
          refine (generator_any _ _).mono ?_
          rintro e x1 ⟨rfl, rfl⟩
          rw [HG1.out]
          go_wp2_with fail
          refine (binary_any 40 _ 1 [s] _ (srow_new _ _ [s]) (by simp)).mono ?_
          rintro e x1 ⟨rfl, h1⟩
          rw [HB.out]
          have H1 := Lib.hid ((below_new w _).trans (h1.mono (below_new w _).size)); clear h1
          go_wp2_with fail
          refine (Product_any _ _ _).mono ?_
          rintro e x2 ⟨rfl, h2⟩
          rw [HTW.out, HP.out]
          have H2 := Lib.hid (H1.out.trans (h2.mono H1.out.size)); clear h2
          go_wp2_with fail
          refine (gCheck_any _ _).mono ?_
          rintro e x3 ⟨rfl, rfl⟩
          rw [HGP.out]
          go_wp2_with fail
          refine (Append_any _ _ _).mono ?_
          rintro e x4 ⟨rfl, h4⟩
          rw [HAP.out.1, HAP.out.2]
          have H4 := Lib.hid (H2.out.trans (h4.mono H2.out.size)); clear h4
          go_wp2_with fail
          refine (Verify_any _ _ _).mono ?_
          rintro e x5 ⟨rfl, h5⟩
          rw [HX.out.1, HX.out.2]
          have H5 := Lib.hid (H4.out.trans (h5.mono H4.out.size)); clear h5
          go_wp2_with fail
          refine (Verify_any _ _ _).mono ?_
          rintro e x6 ⟨rfl, h6⟩
          rw [HY.out.1, HY.out.2]
          have H6 := Lib.hid (H5.out.trans (h6.mono H5.out.size)); clear h6
          go_wp2_with fail
          refine (Verify_any _ _ _).mono ?_
          rintro e x7 ⟨rfl, h7⟩
          rw [HZ.out.1, HDZ.out]
          have H7 := Lib.hid (H6.out.trans (h7.mono H6.out.size)); clear h7
          go_wp2_with fail
          refine (Verify_any _ _ _).mono ?_
          rintro e x8 ⟨rfl, h8⟩
          rw [HZ.out.2.1, HDU.out]
          have H8 := Lib.hid (H7.out.trans (h8.mono H7.out.size)); clear h8
          go_wp2_with fail
          refine (Verify_any _ _ _).mono ?_
          rintro e x9 ⟨rfl, h9⟩
          rw [HZ.out.2.2, HDV.out]
          have H9 := Lib.hid (H8.out.trans (h9.mono H8.out.size)); clear h9
          go_wp2_with fail
          refine (awake_any _).mono ?_
          rintro e x10 ⟨rfl, h10⟩
          have H10 := Lib.hid (H9.out.trans (h10.mono H9.out.size)); clear h10
          go_wp2_with fail
          go_ret
          exact ⟨rfl, H10.out⟩
        | false =>
          have HZ := Lib.hid hz
          clear hz hzu
          obtain ⟨bu, hbu⟩ : ∃ b, vfB g.data.toList s.data.toList = b := ⟨_, rfl⟩
          obtain ⟨bv, hbv⟩ : ∃ b, vfB h.data.toList s.data.toList = b := ⟨_, rfl⟩
          have HBU := Lib.hid hbu
          have HBV := Lib.hid hbv
          clear hbu hbv
          go_enter Tryd.func9, Tryd.ntmps9
          go_wp2_with fail
          refine (generator_any _ _).mono ?_
          rintro e x1 ⟨rfl, rfl⟩
          rw [HG0.out]
          go_wp2_with fail
          refine (generator_any _ _).mono ?_
          rintro e x1 ⟨rfl, rfl⟩
          rw [HG1.out]
          go_wp2_with fail
          refine (binary_any 40 _ 1 [s] _ (srow_new _ _ [s]) (by simp)).mono ?_
          rintro e x1 ⟨rfl, h1⟩
          rw [HB.out]
          have H1 := Lib.hid ((below_new w _).trans (h1.mono (below_new w _).size)); clear h1
          go_wp2_with fail
          refine (Product_any _ _ _).mono ?_
          rintro e x2 ⟨rfl, h2⟩
          rw [HTW.out, HP.out]
          have H2 := Lib.hid (H1.out.trans (h2.mono H1.out.size)); clear h2
          go_wp2_with fail
          refine (gCheck_any _ _).mono ?_
          rintro e x3 ⟨rfl, rfl⟩
          rw [HGP.out]
          go_wp2_with fail
          refine (Append_any _ _ _).mono ?_
          rintro e x4 ⟨rfl, h4⟩
          rw [HAP.out.1, HAP.out.2]
          have H4 := Lib.hid (H2.out.trans (h4.mono H2.out.size)); clear h4
          go_wp2_with fail
          refine (Verify_any _ _ _).mono ?_
          rintro e x5 ⟨rfl, h5⟩
          rw [HX.out.1, HX.out.2]
          have H5 := Lib.hid (H4.out.trans (h5.mono H4.out.size)); clear h5
          go_wp2_with fail
          refine (Verify_any _ _ _).mono ?_
          rintro e x6 ⟨rfl, h6⟩
          rw [HY.out.1, HY.out.2]
          have H6 := Lib.hid (H5.out.trans (h6.mono H5.out.size)); clear h6
          go_wp2_with fail
          refine (Verify_any _ _ _).mono ?_
          rintro e x7 ⟨rfl, h7⟩
          rw [HZ.out, HDZ.out]
          have H7 := Lib.hid (H6.out.trans (h7.mono H6.out.size)); clear h7
          go_wp2_with fail
          refine (Verify_any _ _ _).mono ?_
          rintro e x8 ⟨rfl, h8⟩
          rw [HBU.out, HDU.out]
          have H8 := Lib.hid (H7.out.trans (h8.mono H7.out.size)); clear h8
          go_wp2_with fail
          refine (Verify_any _ _ _).mono ?_
          rintro e x9 ⟨rfl, h9⟩
          rw [HBV.out, HDV.out]
          have H9 := Lib.hid (H8.out.trans (h9.mono H8.out.size)); clear h9
          go_wp2_with fail
          refine (awake_any _).mono ?_
          rintro e x10 ⟨rfl, h10⟩
          have H10 := Lib.hid (H9.out.trans (h10.mono H9.out.size)); clear h10
          go_wp2_with fail
          go_ret
          exact ⟨rfl, H10.out⟩
end Go.Proofs.YtahfmeopecmpmaaDoor
