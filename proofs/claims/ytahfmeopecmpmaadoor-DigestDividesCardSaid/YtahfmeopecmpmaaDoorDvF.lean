/-
  The law of divisions and products.
-/
import Derived.Test.YtahfmeopecmpmaaDoorDvC
import Derived.Test.YtahfmeopecmpmaaDoorDgO
namespace Go.Proofs.YtahfmeopecmpmaaDoor
open Go.RowKit

theorem bnA_three {n : Nat} {a b c : ByteArray} (h : bnA n [a, b, c] = true) : bnT n a.data.toList = true ∧ bnT n b.data.toList = true ∧ bnT n c.data.toList = true := by simpa [bnA, and_assoc] using h
theorem sumW_ok {a b : List UInt8} (ha : a.all isB = true) (hb : b.all isB = true) : led (sumW a b) ∧ (sumW a b).all isB = true ∧ vl (sumW a b) = vl a ^^^ vl b ∧ (sumW a b).length ≤ max a.length b.length := by
  have h1 := pad_len (l := a) (n := max a.length b.length) (by omega)
  have h2 := pad_len (l := b) (n := max a.length b.length) (by omega)
  obtain ⟨t1, t2⟩ := trm_led (xr_bin (pad a (max a.length b.length)) (pad b (max a.length b.length)))
  refine ⟨t1, t2, ?_, ?_⟩
  · rw [sumW, vl_trm, vl_xr (by rw [h1, h2]) (pad_bin _ ha) (pad_bin _ hb), vl_pad, vl_pad]
  · refine Nat.le_trans (trm_le _) ?_
    rw [xr_len, h1, h2, Nat.min_self]; exact Nat.le_refl _
theorem qt_le (g w : List UInt8) : (qtO g w).length ≤ w.length := Nat.le_trans (trm_le _) (by rw [dQ_len]; exact Nat.le_refl _)

set_option maxHeartbeats 4000000 in
set_option maxRecDepth 100000 in
theorem law_digestDivides (g s v : ByteArray) (_w0 : g.size ≤ maxLen) (_w1 : s.size ≤ maxLen) (_w2 : v.size ≤ maxLen) (w : World) (_hsh : w.ShapedOpen Tryd.prog) :
    Calls Tryd.prog 10 #[.string g, .string s, .string v] w fun e w' => e = .returned (.bool true) ∧ Below w.heap.size w w' := by
  cases hbt : bnA 40 [g, s, v] with
  | false =>
    have HB := Lib.hid hbt; clear hbt
    go_enter Tryd.func10, Tryd.ntmps10
    go_wp2_with fail
    refine (binary_any 40 _ 3 [g, s, v] _ (srow_new _ _ [g, s, v]) (by simp)).mono ?_
    rintro e x1 ⟨rfl, h1⟩
    rw [HB.out]
    have H1 := Lib.hid ((below_new w _).trans (h1.mono (below_new w _).size)); clear h1
    go_wp2_with fail
    refine (awake_any _).mono ?_
    rintro e x2 ⟨rfl, h2⟩
    have H2 := Lib.hid (H1.out.trans (h2.mono H1.out.size)); clear h2
    go_wp2_with fail
    go_ret
    exact ⟨rfl, H2.out⟩
  | true =>
    obtain ⟨hg1, hs1, hv1⟩ := bnA_three hbt
    obtain ⟨hgl, hgb⟩ := (bnT_iff (by omega)).1 hg1
    obtain ⟨hsl, hsb⟩ := (bnT_iff (by omega)).1 hs1
    obtain ⟨hvl, hvb⟩ := (bnT_iff (by omega)).1 hv1
    have HB := Lib.hid hbt; clear hbt hg1 hs1 hv1
    have htw := tw_bin hgb hsb (by omega)
    by_cases h0 : trm g.data.toList = []
    · have HE := Lib.hid (show dvE g.data.toList s.data.toList = 9 by rw [dvE, if_pos htw, if_pos h0])
      have HQ := Lib.hid (show qtV g.data.toList s.data.toList = [] by rw [qtV, HE.out]; rfl)
      have HR := Lib.hid (show rsV g.data.toList s.data.toList = [] by rw [rsV, HE.out]; rfl)
      have H0 := Lib.hid h0
      clear h0 htw hgb hsb hvb hgl hsl hvl
      go_enter Tryd.func10, Tryd.ntmps10
      go_wp2_with fail
      refine (binary_any 40 _ 3 [g, s, v] _ (srow_new _ _ [g, s, v]) (by simp)).mono ?_
      rintro e x1 ⟨rfl, h1⟩
      rw [HB.out]
      have H1 := Lib.hid ((below_new w _).trans (h1.mono (below_new w _).size)); clear h1
      go_wp2_with fail
      refine (Divide_any _ _ _).mono ?_
      rintro e x2 ⟨rfl, h2⟩
      rw [HE.out, HQ.out, HR.out]
      have H2 := Lib.hid (H1.out.trans (h2.mono H1.out.size)); clear h2
      go_wp2_with fail
      refine (cut_any _ _).mono ?_
      rintro e x3 ⟨rfl, rfl⟩
      rw [H0.out]
      go_wp2_with fail
      refine (awake_any _).mono ?_
      rintro e x4 ⟨rfl, h4⟩
      have H4 := Lib.hid (H2.out.trans (h4.mono H2.out.size)); clear h4
      go_wp2_with fail
      go_ret
      exact ⟨rfl, H4.out⟩
    · have hE : dvE g.data.toList s.data.toList = 0 := by rw [dvE, if_pos htw, if_neg h0]
      obtain ⟨q1, q2, r1, r2, hval, hlt⟩ := dv_ok hgb hsb h0
      have hql := qt_le g.data.toList s.data.toList
      have hQ : qtV g.data.toList s.data.toList = qtO g.data.toList s.data.toList := by rw [qtV, if_pos hE]
      have hR : rsV g.data.toList s.data.toList = rsO g.data.toList s.data.toList := by rw [rsV, if_pos hE]
      obtain ⟨Q, hQQ⟩ : ∃ Q, qtO g.data.toList s.data.toList = Q := ⟨_, rfl⟩
      obtain ⟨R, hRR⟩ : ∃ R, rsO g.data.toList s.data.toList = R := ⟨_, rfl⟩
      rw [hQQ] at q1 q2 hval hql hQ
      rw [hRR] at r1 r2 hval hlt hR
      have hgt := trm_le g.data.toList
      -- back
      have tBK := tw_bin q2 hgb (by omega)
      obtain ⟨b1, b2, b3⟩ := pr_ok tBK
      have bL := pr_le Q g.data.toList
      obtain ⟨BK, hBK⟩ : ∃ P, prO Q g.data.toList = P := ⟨_, rfl⟩
      rw [hBK] at b1 b2 b3 bL
      obtain ⟨s1, s2, s3, s4⟩ := sumW_ok b2 r2
      obtain ⟨wt1, wt2⟩ := trm_led hsb
      have hsum : sumW BK R = trm s.data.toList := led_inj s1 wt1 s2 wt2 (by rw [s3, b3, ← hval, vl_trm])
      have hcq := trm_self q1
      have hcr := trm_self r1
      -- the products
      have tA := htw
      obtain ⟨a1, a2, a3⟩ := pr_ok tA
      have aL := pr_le g.data.toList s.data.toList
      obtain ⟨A, hA⟩ : ∃ P, prO g.data.toList s.data.toList = P := ⟨_, rfl⟩
      rw [hA] at a1 a2 a3 aL
      have tB := tw_bin hsb hgb (by omega)
      obtain ⟨p1, p2, p3⟩ := pr_ok tB
      have hBA : prO s.data.toList g.data.toList = A := led_inj p1 a1 p2 a2 (by rw [p3, a3, cl_comm])
      have tL := tw_bin a2 hvb (by omega)
      obtain ⟨l1, l2, l3⟩ := pr_ok tL
      obtain ⟨Lf, hLf⟩ : ∃ P, prO A v.data.toList = P := ⟨_, rfl⟩
      rw [hLf] at l1 l2 l3
      have tC := tw_bin hsb hvb (by omega)
      obtain ⟨c1, c2, c3⟩ := pr_ok tC
      have cL := pr_le s.data.toList v.data.toList
      obtain ⟨C, hC⟩ : ∃ P, prO s.data.toList v.data.toList = P := ⟨_, rfl⟩
      rw [hC] at c1 c2 c3 cL
      have tR := tw_bin hgb c2 (by omega)
      obtain ⟨x1, x2, x3⟩ := pr_ok tR
      have hRL : prO g.data.toList C = Lf := led_inj x1 l1 x2 l2 (by rw [x3, l3, c3, a3, cl_assoc])
      have tD := tw_bin hgb hvb (by omega)
      obtain ⟨d1, d2, d3⟩ := pr_ok tD
      have dL := pr_le g.data.toList v.data.toList
      obtain ⟨D, hD⟩ : ∃ P, prO g.data.toList v.data.toList = P := ⟨_, rfl⟩
      rw [hD] at d1 d2 d3 dL
      obtain ⟨u1, u2, u3, u4⟩ := sumW_ok hsb hvb
      obtain ⟨SW, hSW⟩ : ∃ P, sumW s.data.toList v.data.toList = P := ⟨_, rfl⟩
      rw [hSW] at u1 u2 u3 u4
      have tO := tw_bin hgb u2 (by omega)
      obtain ⟨o1, o2, o3⟩ := pr_ok tO
      obtain ⟨Bo, hBo⟩ : ∃ P, prO g.data.toList SW = P := ⟨_, rfl⟩
      rw [hBo] at o1 o2 o3
      obtain ⟨y1, y2, y3, _⟩ := sumW_ok a2 d2
      have hAD : sumW A D = Bo := led_inj y1 o1 y2 o2 (by rw [y3, o3, a3, d3, u3, cl_xor_r])
      obtain ⟨WT, hWT⟩ : ∃ P, trm s.data.toList = P := ⟨_, rfl⟩
      obtain ⟨GT, hGT⟩ : ∃ GT : ByteArray, (⟨(trm g.data.toList).toArray⟩ : ByteArray) = GT := ⟨_, rfl⟩
      have hGd : GT.data.toList = trm g.data.toList := by rw [← hGT]
      have hGs : GT.size = (trm g.data.toList).length := by rw [← hGT, ba_len]
      have hGe : GT.toList.isEmpty = false := by
        rw [ByteArray.toList_eq GT, hGd]
        cases h9 : trm g.data.toList with
        | nil => exact absurd h9 h0
        | cons a t => rfl
      rw [hWT] at hsum
      obtain ⟨RN, hRN⟩ : ∃ n, R.length = n := ⟨_, rfl⟩
      have hRs : (⟨R.toArray⟩ : ByteArray).size = RN := by rw [ba_len, hRN]
      have hdl : decide ((GT.size : Int) ≤ (RN : Int)) = false := by simp; omega
      have hdl' : decide (GT.size ≤ RN) = false := by simp; omega
      have HDV := Lib.hid (show qtV g.data.toList s.data.toList = Q ∧ rsV g.data.toList s.data.toList = R ∧ dvE g.data.toList s.data.toList = 0 from ⟨hQ, hR, hE⟩)
      have HBK := Lib.hid (show prO Q g.data.toList = BK ∧ tw Q g.data.toList = 0 from ⟨hBK, tBK⟩)
      have HA := Lib.hid (show prO g.data.toList s.data.toList = A ∧ tw g.data.toList s.data.toList = 0 from ⟨hA, tA⟩)
      have HBA := Lib.hid (show prO s.data.toList g.data.toList = A ∧ tw s.data.toList g.data.toList = 0 from ⟨hBA, tB⟩)
      have HLF := Lib.hid (show prO A v.data.toList = Lf ∧ tw A v.data.toList = 0 from ⟨hLf, tL⟩)
      have HC := Lib.hid (show prO s.data.toList v.data.toList = C ∧ tw s.data.toList v.data.toList = 0 from ⟨hC, tC⟩)
      have HRL := Lib.hid (show prO g.data.toList C = Lf ∧ tw g.data.toList C = 0 from ⟨hRL, tR⟩)
      have HD := Lib.hid (show prO g.data.toList v.data.toList = D ∧ tw g.data.toList v.data.toList = 0 from ⟨hD, tD⟩)
      have HBO := Lib.hid (show prO g.data.toList SW = Bo ∧ tw g.data.toList SW = 0 from ⟨hBo, tO⟩)
      have HSW := Lib.hid hSW
      have HSUM := Lib.hid hsum
      have HAD := Lib.hid hAD
      have HWT := Lib.hid hWT
      have HGT := Lib.hid hGT
      have HCQ := Lib.hid hcq
      have HCR := Lib.hid hcr
      have HRN := Lib.hid hRN
      have hgs : g.size ≤ 40 := hgl
      have hss : s.size ≤ 40 := hsl
      have hvs : v.size ≤ 40 := hvl
      have HS1 := Lib.hid (fun w => sum_any ⟨BK.toArray⟩ ⟨R.toArray⟩ w (by rw [ba_len]; omega) (by rw [ba_len]; omega))
      have HS2 := Lib.hid (fun w => sum_any s v w (by omega) (by omega))
      have HS3 := Lib.hid (fun w => sum_any ⟨A.toArray⟩ ⟨D.toArray⟩ w (by rw [ba_len]; omega) (by rw [ba_len]; omega))
      clear h0 htw hgb hsb hvb hgl hsl hvl hE q1 q2 r1 r2 hval hlt hql hQ hR hQQ hRR hgt tBK b1 b2 b3 bL hBK s1 s2 s3 s4 wt1 wt2 hsum hcq hcr tA a1 a2 a3 aL hA tB p1 p2 p3 hBA tL l1 l2 l3 hLf tC c1 c2 c3 cL hC tR x1 x2 x3 hRL tD d1 d2 d3 dL hD u1 u2 u3 u4 hSW tO o1 o2 o3 hBo y1 y2 y3 hAD hWT hGT hGd hGs hRN
      go_enter Tryd.func10, Tryd.ntmps10
      go_wp2_with fail
      refine (binary_any 40 _ 3 [g, s, v] _ (srow_new _ _ [g, s, v]) (by simp)).mono ?_
      rintro e x1 ⟨rfl, h1⟩
      rw [HB.out]
      have H1 := Lib.hid ((below_new w _).trans (h1.mono (below_new w _).size)); clear h1
      go_wp2_with fail
      refine (Divide_any _ _ _).mono ?_
      rintro e x2 ⟨rfl, h2⟩
      rw [HDV.out.1, HDV.out.2.1, HDV.out.2.2]
      have H2 := Lib.hid (H1.out.trans (h2.mono H1.out.size)); clear h2
      go_wp2_with fail
      refine (cut_any _ _).mono ?_
      rintro e xc ⟨rfl, rfl⟩
      rw [HGT.out]
      go_wp2_with fail
      refine (Product_any _ _ _).mono ?_
      rintro e x3 ⟨rfl, h3⟩
      rw [HBK.out.1, HBK.out.2]
      have H3 := Lib.hid (H2.out.trans (h3.mono H2.out.size)); clear h3
      go_wp2_with fail
      refine (HS1.out _).mono ?_
      rintro e x4 ⟨rfl, h4⟩
      rw [HSUM.out]
      have H4 := Lib.hid (H3.out.trans (h4.mono H3.out.size)); clear h4
      go_wp2_with fail
      refine (cut_any _ _).mono ?_
      rintro e xc ⟨rfl, rfl⟩
      rw [HWT.out]
      go_wp2_with fail
      refine (cut_any _ _).mono ?_
      rintro e xc ⟨rfl, rfl⟩
      rw [HGT.out]
      go_wp2_with fail
      refine (cut_any _ _).mono ?_
      rintro e xc ⟨rfl, rfl⟩
      rw [HCQ.out]
      go_wp2_with fail
      refine (cut_any _ _).mono ?_
      rintro e xc ⟨rfl, rfl⟩
      rw [HCR.out]
      go_wp2_with fail
      refine (Product_any _ _ _).mono ?_
      rintro e x5 ⟨rfl, h5⟩
      rw [HA.out.1, HA.out.2]
      have H5 := Lib.hid (H4.out.trans (h5.mono H4.out.size)); clear h5
      go_wp2_with fail
      refine (Product_any _ _ _).mono ?_
      rintro e x6 ⟨rfl, h6⟩
      rw [HBA.out.1, HBA.out.2]
      have H6 := Lib.hid (H5.out.trans (h6.mono H5.out.size)); clear h6
      go_wp2_with fail
      refine (Product_any _ _ _).mono ?_
      rintro e x7 ⟨rfl, h7⟩
      rw [HLF.out.1, HLF.out.2]
      have H7 := Lib.hid (H6.out.trans (h7.mono H6.out.size)); clear h7
      go_wp2_with fail
      refine (Product_any _ _ _).mono ?_
      rintro e x8 ⟨rfl, h8⟩
      rw [HC.out.1, HC.out.2]
      have H8 := Lib.hid (H7.out.trans (h8.mono H7.out.size)); clear h8
      go_wp2_with fail
      refine (Product_any _ _ _).mono ?_
      rintro e x9 ⟨rfl, h9⟩
      rw [HRL.out.1, HRL.out.2]
      have H9 := Lib.hid (H8.out.trans (h9.mono H8.out.size)); clear h9
      go_wp2_with fail
      refine (Product_any _ _ _).mono ?_
      rintro e x10 ⟨rfl, h10⟩
      rw [HD.out.1, HD.out.2]
      have H10 := Lib.hid (H9.out.trans (h10.mono H9.out.size)); clear h10
      go_wp2_with fail
      refine (HS2.out _).mono ?_
      rintro e x11 ⟨rfl, h11⟩
      rw [HSW.out]
      have H11 := Lib.hid (H10.out.trans (h11.mono H10.out.size)); clear h11
      go_wp2_with fail
      refine (Product_any _ _ _).mono ?_
      rintro e x12 ⟨rfl, h12⟩
      rw [HBO.out.1, HBO.out.2]
      have H12 := Lib.hid (H11.out.trans (h12.mono H11.out.size)); clear h12
      go_wp2_with fail
      refine (HS3.out _).mono ?_
      rintro e x13 ⟨rfl, h13⟩
      rw [HAD.out]
      have H13 := Lib.hid (H12.out.trans (h13.mono H12.out.size)); clear h13
      go_wp2_with fail
      refine (awake_any _).mono ?_
      rintro e x14 ⟨rfl, h14⟩
      have H14 := Lib.hid (H13.out.trans (h14.mono H13.out.size)); clear h14
      go_wp2_with fail
      go_ret
      exact ⟨rfl, H14.out⟩
end Go.Proofs.YtahfmeopecmpmaaDoor
