/-
  The law of divisions and their reference.
-/
import Derived.Test.YtahfmeopecmpmaaDoorDvA
import Derived.Test.YtahfmeopecmpmaaDoorRfG
namespace Go.Proofs.YtahfmeopecmpmaaDoor
open Go.RowKit

set_option maxHeartbeats 8000000 in
set_option maxRecDepth 100000 in
theorem law_digestDivisions (g s : ByteArray) (n : Int) (_w0 : g.size ≤ maxLen) (_w1 : s.size ≤ maxLen) (_w2 : (Lit.int .i64 n).wf = true) (w : World) (_hsh : w.ShapedOpen Tryd.prog) :
    Calls Tryd.prog 5 #[.string g, .string s, .int .i64 n] w fun e w' => e = .returned (.bool true) ∧ Below w.heap.size w w' := by
  obtain ⟨QV, hQV⟩ : ∃ x, qtV g.data.toList s.data.toList = x := ⟨_, rfl⟩
  obtain ⟨RV, hRV⟩ : ∃ x, rsV g.data.toList s.data.toList = x := ⟨_, rfl⟩
  obtain ⟨DE, hDE⟩ : ∃ x, dvE g.data.toList s.data.toList = x := ⟨_, rfl⟩
  obtain ⟨PO, hPO⟩ : ∃ x, prO g.data.toList s.data.toList = x := ⟨_, rfl⟩
  obtain ⟨TW, hTW⟩ : ∃ x, tw g.data.toList s.data.toList = x := ⟨_, rfl⟩
  obtain ⟨OV, hOV⟩ : ∃ x, orV g.data.toList = x := ⟨_, rfl⟩
  obtain ⟨OE, hOE⟩ : ∃ x, orE g.data.toList = x := ⟨_, rfl⟩
  obtain ⟨DV, hDV⟩ : ∃ x, dtV g.data.toList n = x := ⟨_, rfl⟩
  obtain ⟨DT, hDT⟩ : ∃ x, dtE g.data.toList n = x := ⟨_, rfl⟩
  have HD := Lib.hid (show _ ∧ _ ∧ _ from ⟨hDE, hQV, hRV⟩)
  have HP := Lib.hid (show _ ∧ _ from ⟨hPO, hTW⟩)
  have HO := Lib.hid (show _ ∧ _ from ⟨hOV, hOE⟩)
  have HT := Lib.hid (show _ ∧ _ from ⟨hDV, hDT⟩)
  clear hQV hRV hDE hPO hTW hOV hOE hDV hDT
  obtain ⟨G, hG⟩ : ∃ G, g.size = G := ⟨_, rfl⟩
  obtain ⟨W, hW⟩ : ∃ W, s.size = W := ⟨_, rfl⟩
  rcases (show ((G ≤ 60) ∨ (60 < G ∧ G ≤ 2000) ∨ (2000 < G ∧ G < 4000) ∨ (4000 ≤ G ∧ G ≤ 4200) ∨ (4200 < G)) by omega) with hg | hg | hg | hg | hg
  · have d1 : G = G := rfl
    have g1 : decide ((60 : Int) < (G : Int)) = false := by simp; omega
    have g1' : decide (60 < G) = false := by simp; omega
    have g2 : decide ((G : Int) < 4000) = true := by simp; omega
    have g2' : decide (G < 4000) = true := by simp; omega
    have g3 : decide ((4200 : Int) < (G : Int)) = false := by simp; omega
    have g3' : decide (4200 < G) = false := by simp; omega
    have g4 : decide ((2000 : Int) < (G : Int)) = false := by simp; omega
    have g4' : decide (2000 < G) = false := by simp; omega
    rcases (show ((W ≤ 60) ∨ (60 < W ∧ W < 4000) ∨ (4000 ≤ W ∧ W ≤ 4200) ∨ (4200 < W)) by omega) with hw | hw | hw | hw
    · have d2 : W = W := rfl
      have v1 : decide ((60 : Int) < (W : Int)) = false := by simp; omega
      have v1' : decide (60 < W) = false := by simp; omega
      have v2 : decide ((W : Int) < 4000) = true := by simp; omega
      have v2' : decide (W < 4000) = true := by simp; omega
      have v3 : decide ((4200 : Int) < (W : Int)) = false := by simp; omega
      have v3' : decide (4200 < W) = false := by simp; omega
      rcases (show ((G ≤ 8) ∨ (8 < G ∧ G ≤ 10) ∨ (10 < G ∧ G ≤ 13) ∨ (13 < G ∧ G ≤ 33) ∨ (33 < G)) by omega) with hq | hq | hq | hq | hq
      · have d3 : G = G := rfl
        have q1 : decide ((G : Int) ≤ 10) = true := by simp; omega
        have q1' : decide (G ≤ 10) = true := by simp; omega
        have q2 : decide ((33 : Int) < (G : Int)) = false := by simp; omega
        have q2' : decide (33 < G) = false := by simp; omega
        have q3 : decide ((G : Int) ≤ 8) = true := by simp; omega
        have q3' : decide (G ≤ 8) = true := by simp; omega
        have q4 : decide ((13 : Int) < (G : Int)) = false := by simp; omega
        have q4' : decide (13 < G) = false := by simp; omega
        go_enter Tryd.func5, Tryd.ntmps5
        go_wp2_with fail
        refine (Divide_any _ _ _).mono ?_
        rintro e x1 ⟨rfl, h1⟩
        rw [HD.out.1, HD.out.2.1, HD.out.2.2]
        have H1 := Lib.hid h1; clear h1
        go_wp2_with fail
        refine (rDivide_any _ _ _).mono ?_
        rintro e x2 ⟨rfl, h2⟩
        rw [HD.out.1, HD.out.2.1, HD.out.2.2]
        have H2 := Lib.hid (H1.out.trans (h2.mono H1.out.size)); clear h2
        go_wp2_with fail
        refine (Product_any _ _ _).mono ?_
        rintro e x3 ⟨rfl, h3⟩
        rw [HP.out.1, HP.out.2]
        have H3 := Lib.hid (H2.out.trans (h3.mono H2.out.size)); clear h3
        go_wp2_with fail
        refine (rProduct_any _ _ _).mono ?_
        rintro e x4 ⟨rfl, h4⟩
        rw [HP.out.1, HP.out.2]
        have H4 := Lib.hid (H3.out.trans (h4.mono H3.out.size)); clear h4
        go_wp2_with fail
        refine (Order_any _ _).mono ?_
        rintro e x5 ⟨rfl, h5⟩
        rw [HO.out.1, HO.out.2]
        have H5 := Lib.hid (H4.out.trans (h5.mono H4.out.size)); clear h5
        go_wp2_with fail
        refine (rOrder_any _ _).mono ?_
        rintro e x6 ⟨rfl, h6⟩
        rw [HO.out.1, HO.out.2]
        have H6 := Lib.hid (H5.out.trans (h6.mono H5.out.size)); clear h6
        go_wp2_with fail
        refine (Detects_any _ _ _).mono ?_
        rintro e x7 ⟨rfl, h7⟩
        rw [HT.out.1, HT.out.2]
        have H7 := Lib.hid (H6.out.trans (h7.mono H6.out.size)); clear h7
        go_wp2_with fail
        refine (rDetects_any _ _ _).mono ?_
        rintro e x8 ⟨rfl, h8⟩
        rw [HT.out.1, HT.out.2]
        have H8 := Lib.hid (H7.out.trans (h8.mono H7.out.size)); clear h8
        go_wp2_with fail
        refine (awake_any _).mono ?_
        rintro e x9 ⟨rfl, h9⟩
        have H9 := Lib.hid (H8.out.trans (h9.mono H8.out.size)); clear h9
        go_wp2_with fail
        go_ret
        exact ⟨rfl, H9.out⟩
      · have d3 : G = G := rfl
        have q1 : decide ((G : Int) ≤ 10) = true := by simp; omega
        have q1' : decide (G ≤ 10) = true := by simp; omega
        have q2 : decide ((33 : Int) < (G : Int)) = false := by simp; omega
        have q2' : decide (33 < G) = false := by simp; omega
        have q3 : decide ((G : Int) ≤ 8) = false := by simp; omega
        have q3' : decide (G ≤ 8) = false := by simp; omega
        have q4 : decide ((13 : Int) < (G : Int)) = false := by simp; omega
        have q4' : decide (13 < G) = false := by simp; omega
        go_enter Tryd.func5, Tryd.ntmps5
        go_wp2_with fail
        refine (Divide_any _ _ _).mono ?_
        rintro e x1 ⟨rfl, h1⟩
        rw [HD.out.1, HD.out.2.1, HD.out.2.2]
        have H1 := Lib.hid h1; clear h1
        go_wp2_with fail
        refine (rDivide_any _ _ _).mono ?_
        rintro e x2 ⟨rfl, h2⟩
        rw [HD.out.1, HD.out.2.1, HD.out.2.2]
        have H2 := Lib.hid (H1.out.trans (h2.mono H1.out.size)); clear h2
        go_wp2_with fail
        refine (Product_any _ _ _).mono ?_
        rintro e x3 ⟨rfl, h3⟩
        rw [HP.out.1, HP.out.2]
        have H3 := Lib.hid (H2.out.trans (h3.mono H2.out.size)); clear h3
        go_wp2_with fail
        refine (rProduct_any _ _ _).mono ?_
        rintro e x4 ⟨rfl, h4⟩
        rw [HP.out.1, HP.out.2]
        have H4 := Lib.hid (H3.out.trans (h4.mono H3.out.size)); clear h4
        go_wp2_with fail
        refine (Order_any _ _).mono ?_
        rintro e x5 ⟨rfl, h5⟩
        rw [HO.out.1, HO.out.2]
        have H5 := Lib.hid (H4.out.trans (h5.mono H4.out.size)); clear h5
        go_wp2_with fail
        refine (rOrder_any _ _).mono ?_
        rintro e x6 ⟨rfl, h6⟩
        rw [HO.out.1, HO.out.2]
        have H6 := Lib.hid (H5.out.trans (h6.mono H5.out.size)); clear h6
        go_wp2_with fail
        refine (awake_any _).mono ?_
        rintro e x9 ⟨rfl, h9⟩
        have H9 := Lib.hid (H6.out.trans (h9.mono H6.out.size)); clear h9
        go_wp2_with fail
        go_ret
        exact ⟨rfl, H9.out⟩
      · have d3 : G = G := rfl
        have q1 : decide ((G : Int) ≤ 10) = false := by simp; omega
        have q1' : decide (G ≤ 10) = false := by simp; omega
        have q2 : decide ((33 : Int) < (G : Int)) = false := by simp; omega
        have q2' : decide (33 < G) = false := by simp; omega
        have q3 : decide ((G : Int) ≤ 8) = false := by simp; omega
        have q3' : decide (G ≤ 8) = false := by simp; omega
        have q4 : decide ((13 : Int) < (G : Int)) = false := by simp; omega
        have q4' : decide (13 < G) = false := by simp; omega
        go_enter Tryd.func5, Tryd.ntmps5
        go_wp2_with fail
        refine (Divide_any _ _ _).mono ?_
        rintro e x1 ⟨rfl, h1⟩
        rw [HD.out.1, HD.out.2.1, HD.out.2.2]
        have H1 := Lib.hid h1; clear h1
        go_wp2_with fail
        refine (rDivide_any _ _ _).mono ?_
        rintro e x2 ⟨rfl, h2⟩
        rw [HD.out.1, HD.out.2.1, HD.out.2.2]
        have H2 := Lib.hid (H1.out.trans (h2.mono H1.out.size)); clear h2
        go_wp2_with fail
        refine (Product_any _ _ _).mono ?_
        rintro e x3 ⟨rfl, h3⟩
        rw [HP.out.1, HP.out.2]
        have H3 := Lib.hid (H2.out.trans (h3.mono H2.out.size)); clear h3
        go_wp2_with fail
        refine (rProduct_any _ _ _).mono ?_
        rintro e x4 ⟨rfl, h4⟩
        rw [HP.out.1, HP.out.2]
        have H4 := Lib.hid (H3.out.trans (h4.mono H3.out.size)); clear h4
        go_wp2_with fail
        refine (awake_any _).mono ?_
        rintro e x9 ⟨rfl, h9⟩
        have H9 := Lib.hid (H4.out.trans (h9.mono H4.out.size)); clear h9
        go_wp2_with fail
        go_ret
        exact ⟨rfl, H9.out⟩
      · have d3 : G = G := rfl
        have q1 : decide ((G : Int) ≤ 10) = false := by simp; omega
        have q1' : decide (G ≤ 10) = false := by simp; omega
        have q2 : decide ((33 : Int) < (G : Int)) = false := by simp; omega
        have q2' : decide (33 < G) = false := by simp; omega
        have q3 : decide ((G : Int) ≤ 8) = false := by simp; omega
        have q3' : decide (G ≤ 8) = false := by simp; omega
        have q4 : decide ((13 : Int) < (G : Int)) = true := by simp; omega
        have q4' : decide (13 < G) = true := by simp; omega
        go_enter Tryd.func5, Tryd.ntmps5
        go_wp2_with fail
        refine (Divide_any _ _ _).mono ?_
        rintro e x1 ⟨rfl, h1⟩
        rw [HD.out.1, HD.out.2.1, HD.out.2.2]
        have H1 := Lib.hid h1; clear h1
        go_wp2_with fail
        refine (rDivide_any _ _ _).mono ?_
        rintro e x2 ⟨rfl, h2⟩
        rw [HD.out.1, HD.out.2.1, HD.out.2.2]
        have H2 := Lib.hid (H1.out.trans (h2.mono H1.out.size)); clear h2
        go_wp2_with fail
        refine (Product_any _ _ _).mono ?_
        rintro e x3 ⟨rfl, h3⟩
        rw [HP.out.1, HP.out.2]
        have H3 := Lib.hid (H2.out.trans (h3.mono H2.out.size)); clear h3
        go_wp2_with fail
        refine (rProduct_any _ _ _).mono ?_
        rintro e x4 ⟨rfl, h4⟩
        rw [HP.out.1, HP.out.2]
        have H4 := Lib.hid (H3.out.trans (h4.mono H3.out.size)); clear h4
        go_wp2_with fail
        refine (Detects_any _ _ _).mono ?_
        rintro e x5 ⟨rfl, h5⟩
        rw [HT.out.1, HT.out.2]
        have H5 := Lib.hid (H4.out.trans (h5.mono H4.out.size)); clear h5
        go_wp2_with fail
        refine (rDetects_any _ _ _).mono ?_
        rintro e x6 ⟨rfl, h6⟩
        rw [HT.out.1, HT.out.2]
        have H6 := Lib.hid (H5.out.trans (h6.mono H5.out.size)); clear h6
        go_wp2_with fail
        refine (awake_any _).mono ?_
        rintro e x9 ⟨rfl, h9⟩
        have H9 := Lib.hid (H6.out.trans (h9.mono H6.out.size)); clear h9
        go_wp2_with fail
        go_ret
        exact ⟨rfl, H9.out⟩
      · have d3 : G = G := rfl
        have q1 : decide ((G : Int) ≤ 10) = false := by simp; omega
        have q1' : decide (G ≤ 10) = false := by simp; omega
        have q2 : decide ((33 : Int) < (G : Int)) = true := by simp; omega
        have q2' : decide (33 < G) = true := by simp; omega
        have q3 : decide ((G : Int) ≤ 8) = false := by simp; omega
        have q3' : decide (G ≤ 8) = false := by simp; omega
        have q4 : decide ((13 : Int) < (G : Int)) = true := by simp; omega
        have q4' : decide (13 < G) = true := by simp; omega
        go_enter Tryd.func5, Tryd.ntmps5
        go_wp2_with fail
        refine (Divide_any _ _ _).mono ?_
        rintro e x1 ⟨rfl, h1⟩
        rw [HD.out.1, HD.out.2.1, HD.out.2.2]
        have H1 := Lib.hid h1; clear h1
        go_wp2_with fail
        refine (rDivide_any _ _ _).mono ?_
        rintro e x2 ⟨rfl, h2⟩
        rw [HD.out.1, HD.out.2.1, HD.out.2.2]
        have H2 := Lib.hid (H1.out.trans (h2.mono H1.out.size)); clear h2
        go_wp2_with fail
        refine (Product_any _ _ _).mono ?_
        rintro e x3 ⟨rfl, h3⟩
        rw [HP.out.1, HP.out.2]
        have H3 := Lib.hid (H2.out.trans (h3.mono H2.out.size)); clear h3
        go_wp2_with fail
        refine (rProduct_any _ _ _).mono ?_
        rintro e x4 ⟨rfl, h4⟩
        rw [HP.out.1, HP.out.2]
        have H4 := Lib.hid (H3.out.trans (h4.mono H3.out.size)); clear h4
        go_wp2_with fail
        refine (Order_any _ _).mono ?_
        rintro e x5 ⟨rfl, h5⟩
        rw [HO.out.1, HO.out.2]
        have H5 := Lib.hid (H4.out.trans (h5.mono H4.out.size)); clear h5
        go_wp2_with fail
        refine (rOrder_any _ _).mono ?_
        rintro e x6 ⟨rfl, h6⟩
        rw [HO.out.1, HO.out.2]
        have H6 := Lib.hid (H5.out.trans (h6.mono H5.out.size)); clear h6
        go_wp2_with fail
        refine (Detects_any _ _ _).mono ?_
        rintro e x7 ⟨rfl, h7⟩
        rw [HT.out.1, HT.out.2]
        have H7 := Lib.hid (H6.out.trans (h7.mono H6.out.size)); clear h7
        go_wp2_with fail
        refine (rDetects_any _ _ _).mono ?_
        rintro e x8 ⟨rfl, h8⟩
        rw [HT.out.1, HT.out.2]
        have H8 := Lib.hid (H7.out.trans (h8.mono H7.out.size)); clear h8
        go_wp2_with fail
        refine (awake_any _).mono ?_
        rintro e x9 ⟨rfl, h9⟩
        have H9 := Lib.hid (H8.out.trans (h9.mono H8.out.size)); clear h9
        go_wp2_with fail
        go_ret
        exact ⟨rfl, H9.out⟩
    · have d2 : W = W := rfl
      have v1 : decide ((60 : Int) < (W : Int)) = true := by simp; omega
      have v1' : decide (60 < W) = true := by simp; omega
      have v2 : decide ((W : Int) < 4000) = true := by simp; omega
      have v2' : decide (W < 4000) = true := by simp; omega
      have v3 : decide ((4200 : Int) < (W : Int)) = false := by simp; omega
      have v3' : decide (4200 < W) = false := by simp; omega
      go_enter Tryd.func5, Tryd.ntmps5
      go_wp2_with fail
      refine (awake_any _).mono ?_
      rintro e x9 ⟨rfl, h9⟩
      have H9 := Lib.hid h9; clear h9
      go_wp2_with fail
      go_ret
      exact ⟨rfl, H9.out⟩
    · have d2 : W = W := rfl
      have v1 : decide ((60 : Int) < (W : Int)) = true := by simp; omega
      have v1' : decide (60 < W) = true := by simp; omega
      have v2 : decide ((W : Int) < 4000) = false := by simp; omega
      have v2' : decide (W < 4000) = false := by simp; omega
      have v3 : decide ((4200 : Int) < (W : Int)) = false := by simp; omega
      have v3' : decide (4200 < W) = false := by simp; omega
      rcases (show ((G ≤ 8) ∨ (8 < G ∧ G ≤ 10) ∨ (10 < G ∧ G ≤ 13) ∨ (13 < G ∧ G ≤ 33) ∨ (33 < G)) by omega) with hq | hq | hq | hq | hq
      · have d3 : G = G := rfl
        have q1 : decide ((G : Int) ≤ 10) = true := by simp; omega
        have q1' : decide (G ≤ 10) = true := by simp; omega
        have q2 : decide ((33 : Int) < (G : Int)) = false := by simp; omega
        have q2' : decide (33 < G) = false := by simp; omega
        have q3 : decide ((G : Int) ≤ 8) = true := by simp; omega
        have q3' : decide (G ≤ 8) = true := by simp; omega
        have q4 : decide ((13 : Int) < (G : Int)) = false := by simp; omega
        have q4' : decide (13 < G) = false := by simp; omega
        go_enter Tryd.func5, Tryd.ntmps5
        go_wp2_with fail
        refine (Divide_any _ _ _).mono ?_
        rintro e x1 ⟨rfl, h1⟩
        rw [HD.out.1, HD.out.2.1, HD.out.2.2]
        have H1 := Lib.hid h1; clear h1
        go_wp2_with fail
        refine (rDivide_any _ _ _).mono ?_
        rintro e x2 ⟨rfl, h2⟩
        rw [HD.out.1, HD.out.2.1, HD.out.2.2]
        have H2 := Lib.hid (H1.out.trans (h2.mono H1.out.size)); clear h2
        go_wp2_with fail
        refine (Product_any _ _ _).mono ?_
        rintro e x3 ⟨rfl, h3⟩
        rw [HP.out.1, HP.out.2]
        have H3 := Lib.hid (H2.out.trans (h3.mono H2.out.size)); clear h3
        go_wp2_with fail
        refine (rProduct_any _ _ _).mono ?_
        rintro e x4 ⟨rfl, h4⟩
        rw [HP.out.1, HP.out.2]
        have H4 := Lib.hid (H3.out.trans (h4.mono H3.out.size)); clear h4
        go_wp2_with fail
        refine (Order_any _ _).mono ?_
        rintro e x5 ⟨rfl, h5⟩
        rw [HO.out.1, HO.out.2]
        have H5 := Lib.hid (H4.out.trans (h5.mono H4.out.size)); clear h5
        go_wp2_with fail
        refine (rOrder_any _ _).mono ?_
        rintro e x6 ⟨rfl, h6⟩
        rw [HO.out.1, HO.out.2]
        have H6 := Lib.hid (H5.out.trans (h6.mono H5.out.size)); clear h6
        go_wp2_with fail
        refine (Detects_any _ _ _).mono ?_
        rintro e x7 ⟨rfl, h7⟩
        rw [HT.out.1, HT.out.2]
        have H7 := Lib.hid (H6.out.trans (h7.mono H6.out.size)); clear h7
        go_wp2_with fail
        refine (rDetects_any _ _ _).mono ?_
        rintro e x8 ⟨rfl, h8⟩
        rw [HT.out.1, HT.out.2]
        have H8 := Lib.hid (H7.out.trans (h8.mono H7.out.size)); clear h8
        go_wp2_with fail
        refine (awake_any _).mono ?_
        rintro e x9 ⟨rfl, h9⟩
        have H9 := Lib.hid (H8.out.trans (h9.mono H8.out.size)); clear h9
        go_wp2_with fail
        go_ret
        exact ⟨rfl, H9.out⟩
      · have d3 : G = G := rfl
        have q1 : decide ((G : Int) ≤ 10) = true := by simp; omega
        have q1' : decide (G ≤ 10) = true := by simp; omega
        have q2 : decide ((33 : Int) < (G : Int)) = false := by simp; omega
        have q2' : decide (33 < G) = false := by simp; omega
        have q3 : decide ((G : Int) ≤ 8) = false := by simp; omega
        have q3' : decide (G ≤ 8) = false := by simp; omega
        have q4 : decide ((13 : Int) < (G : Int)) = false := by simp; omega
        have q4' : decide (13 < G) = false := by simp; omega
        go_enter Tryd.func5, Tryd.ntmps5
        go_wp2_with fail
        refine (Divide_any _ _ _).mono ?_
        rintro e x1 ⟨rfl, h1⟩
        rw [HD.out.1, HD.out.2.1, HD.out.2.2]
        have H1 := Lib.hid h1; clear h1
        go_wp2_with fail
        refine (rDivide_any _ _ _).mono ?_
        rintro e x2 ⟨rfl, h2⟩
        rw [HD.out.1, HD.out.2.1, HD.out.2.2]
        have H2 := Lib.hid (H1.out.trans (h2.mono H1.out.size)); clear h2
        go_wp2_with fail
        refine (Product_any _ _ _).mono ?_
        rintro e x3 ⟨rfl, h3⟩
        rw [HP.out.1, HP.out.2]
        have H3 := Lib.hid (H2.out.trans (h3.mono H2.out.size)); clear h3
        go_wp2_with fail
        refine (rProduct_any _ _ _).mono ?_
        rintro e x4 ⟨rfl, h4⟩
        rw [HP.out.1, HP.out.2]
        have H4 := Lib.hid (H3.out.trans (h4.mono H3.out.size)); clear h4
        go_wp2_with fail
        refine (Order_any _ _).mono ?_
        rintro e x5 ⟨rfl, h5⟩
        rw [HO.out.1, HO.out.2]
        have H5 := Lib.hid (H4.out.trans (h5.mono H4.out.size)); clear h5
        go_wp2_with fail
        refine (rOrder_any _ _).mono ?_
        rintro e x6 ⟨rfl, h6⟩
        rw [HO.out.1, HO.out.2]
        have H6 := Lib.hid (H5.out.trans (h6.mono H5.out.size)); clear h6
        go_wp2_with fail
        refine (awake_any _).mono ?_
        rintro e x9 ⟨rfl, h9⟩
        have H9 := Lib.hid (H6.out.trans (h9.mono H6.out.size)); clear h9
        go_wp2_with fail
        go_ret
        exact ⟨rfl, H9.out⟩
      · have d3 : G = G := rfl
        have q1 : decide ((G : Int) ≤ 10) = false := by simp; omega
        have q1' : decide (G ≤ 10) = false := by simp; omega
        have q2 : decide ((33 : Int) < (G : Int)) = false := by simp; omega
        have q2' : decide (33 < G) = false := by simp; omega
        have q3 : decide ((G : Int) ≤ 8) = false := by simp; omega
        have q3' : decide (G ≤ 8) = false := by simp; omega
        have q4 : decide ((13 : Int) < (G : Int)) = false := by simp; omega
        have q4' : decide (13 < G) = false := by simp; omega
        go_enter Tryd.func5, Tryd.ntmps5
        go_wp2_with fail
        refine (Divide_any _ _ _).mono ?_
        rintro e x1 ⟨rfl, h1⟩
        rw [HD.out.1, HD.out.2.1, HD.out.2.2]
        have H1 := Lib.hid h1; clear h1
        go_wp2_with fail
        refine (rDivide_any _ _ _).mono ?_
        rintro e x2 ⟨rfl, h2⟩
        rw [HD.out.1, HD.out.2.1, HD.out.2.2]
        have H2 := Lib.hid (H1.out.trans (h2.mono H1.out.size)); clear h2
        go_wp2_with fail
        refine (Product_any _ _ _).mono ?_
        rintro e x3 ⟨rfl, h3⟩
        rw [HP.out.1, HP.out.2]
        have H3 := Lib.hid (H2.out.trans (h3.mono H2.out.size)); clear h3
        go_wp2_with fail
        refine (rProduct_any _ _ _).mono ?_
        rintro e x4 ⟨rfl, h4⟩
        rw [HP.out.1, HP.out.2]
        have H4 := Lib.hid (H3.out.trans (h4.mono H3.out.size)); clear h4
        go_wp2_with fail
        refine (awake_any _).mono ?_
        rintro e x9 ⟨rfl, h9⟩
        have H9 := Lib.hid (H4.out.trans (h9.mono H4.out.size)); clear h9
        go_wp2_with fail
        go_ret
        exact ⟨rfl, H9.out⟩
      · have d3 : G = G := rfl
        have q1 : decide ((G : Int) ≤ 10) = false := by simp; omega
        have q1' : decide (G ≤ 10) = false := by simp; omega
        have q2 : decide ((33 : Int) < (G : Int)) = false := by simp; omega
        have q2' : decide (33 < G) = false := by simp; omega
        have q3 : decide ((G : Int) ≤ 8) = false := by simp; omega
        have q3' : decide (G ≤ 8) = false := by simp; omega
        have q4 : decide ((13 : Int) < (G : Int)) = true := by simp; omega
        have q4' : decide (13 < G) = true := by simp; omega
        go_enter Tryd.func5, Tryd.ntmps5
        go_wp2_with fail
        refine (Divide_any _ _ _).mono ?_
        rintro e x1 ⟨rfl, h1⟩
        rw [HD.out.1, HD.out.2.1, HD.out.2.2]
        have H1 := Lib.hid h1; clear h1
        go_wp2_with fail
        refine (rDivide_any _ _ _).mono ?_
        rintro e x2 ⟨rfl, h2⟩
        rw [HD.out.1, HD.out.2.1, HD.out.2.2]
        have H2 := Lib.hid (H1.out.trans (h2.mono H1.out.size)); clear h2
        go_wp2_with fail
        refine (Product_any _ _ _).mono ?_
        rintro e x3 ⟨rfl, h3⟩
        rw [HP.out.1, HP.out.2]
        have H3 := Lib.hid (H2.out.trans (h3.mono H2.out.size)); clear h3
        go_wp2_with fail
        refine (rProduct_any _ _ _).mono ?_
        rintro e x4 ⟨rfl, h4⟩
        rw [HP.out.1, HP.out.2]
        have H4 := Lib.hid (H3.out.trans (h4.mono H3.out.size)); clear h4
        go_wp2_with fail
        refine (Detects_any _ _ _).mono ?_
        rintro e x5 ⟨rfl, h5⟩
        rw [HT.out.1, HT.out.2]
        have H5 := Lib.hid (H4.out.trans (h5.mono H4.out.size)); clear h5
        go_wp2_with fail
        refine (rDetects_any _ _ _).mono ?_
        rintro e x6 ⟨rfl, h6⟩
        rw [HT.out.1, HT.out.2]
        have H6 := Lib.hid (H5.out.trans (h6.mono H5.out.size)); clear h6
        go_wp2_with fail
        refine (awake_any _).mono ?_
        rintro e x9 ⟨rfl, h9⟩
        have H9 := Lib.hid (H6.out.trans (h9.mono H6.out.size)); clear h9
        go_wp2_with fail
        go_ret
        exact ⟨rfl, H9.out⟩
      · have d3 : G = G := rfl
        have q1 : decide ((G : Int) ≤ 10) = false := by simp; omega
        have q1' : decide (G ≤ 10) = false := by simp; omega
        have q2 : decide ((33 : Int) < (G : Int)) = true := by simp; omega
        have q2' : decide (33 < G) = true := by simp; omega
        have q3 : decide ((G : Int) ≤ 8) = false := by simp; omega
        have q3' : decide (G ≤ 8) = false := by simp; omega
        have q4 : decide ((13 : Int) < (G : Int)) = true := by simp; omega
        have q4' : decide (13 < G) = true := by simp; omega
        go_enter Tryd.func5, Tryd.ntmps5
        go_wp2_with fail
        refine (Divide_any _ _ _).mono ?_
        rintro e x1 ⟨rfl, h1⟩
        rw [HD.out.1, HD.out.2.1, HD.out.2.2]
        have H1 := Lib.hid h1; clear h1
        go_wp2_with fail
        refine (rDivide_any _ _ _).mono ?_
        rintro e x2 ⟨rfl, h2⟩
        rw [HD.out.1, HD.out.2.1, HD.out.2.2]
        have H2 := Lib.hid (H1.out.trans (h2.mono H1.out.size)); clear h2
        go_wp2_with fail
        refine (Product_any _ _ _).mono ?_
        rintro e x3 ⟨rfl, h3⟩
        rw [HP.out.1, HP.out.2]
        have H3 := Lib.hid (H2.out.trans (h3.mono H2.out.size)); clear h3
        go_wp2_with fail
        refine (rProduct_any _ _ _).mono ?_
        rintro e x4 ⟨rfl, h4⟩
        rw [HP.out.1, HP.out.2]
        have H4 := Lib.hid (H3.out.trans (h4.mono H3.out.size)); clear h4
        go_wp2_with fail
        refine (Order_any _ _).mono ?_
        rintro e x5 ⟨rfl, h5⟩
        rw [HO.out.1, HO.out.2]
        have H5 := Lib.hid (H4.out.trans (h5.mono H4.out.size)); clear h5
        go_wp2_with fail
        refine (rOrder_any _ _).mono ?_
        rintro e x6 ⟨rfl, h6⟩
        rw [HO.out.1, HO.out.2]
        have H6 := Lib.hid (H5.out.trans (h6.mono H5.out.size)); clear h6
        go_wp2_with fail
        refine (Detects_any _ _ _).mono ?_
        rintro e x7 ⟨rfl, h7⟩
        rw [HT.out.1, HT.out.2]
        have H7 := Lib.hid (H6.out.trans (h7.mono H6.out.size)); clear h7
        go_wp2_with fail
        refine (rDetects_any _ _ _).mono ?_
        rintro e x8 ⟨rfl, h8⟩
        rw [HT.out.1, HT.out.2]
        have H8 := Lib.hid (H7.out.trans (h8.mono H7.out.size)); clear h8
        go_wp2_with fail
        refine (awake_any _).mono ?_
        rintro e x9 ⟨rfl, h9⟩
        have H9 := Lib.hid (H8.out.trans (h9.mono H8.out.size)); clear h9
        go_wp2_with fail
        go_ret
        exact ⟨rfl, H9.out⟩
    · have d2 : W = W := rfl
      have v1 : decide ((60 : Int) < (W : Int)) = true := by simp; omega
      have v1' : decide (60 < W) = true := by simp; omega
      have v2 : decide ((W : Int) < 4000) = false := by simp; omega
      have v2' : decide (W < 4000) = false := by simp; omega
      have v3 : decide ((4200 : Int) < (W : Int)) = true := by simp; omega
      have v3' : decide (4200 < W) = true := by simp; omega
      go_enter Tryd.func5, Tryd.ntmps5
      go_wp2_with fail
      refine (awake_any _).mono ?_
      rintro e x9 ⟨rfl, h9⟩
      have H9 := Lib.hid h9; clear h9
      go_wp2_with fail
      go_ret
      exact ⟨rfl, H9.out⟩
  · have d1 : G = G := rfl
    have g1 : decide ((60 : Int) < (G : Int)) = true := by simp; omega
    have g1' : decide (60 < G) = true := by simp; omega
    have g2 : decide ((G : Int) < 4000) = true := by simp; omega
    have g2' : decide (G < 4000) = true := by simp; omega
    have g3 : decide ((4200 : Int) < (G : Int)) = false := by simp; omega
    have g3' : decide (4200 < G) = false := by simp; omega
    have g4 : decide ((2000 : Int) < (G : Int)) = false := by simp; omega
    have g4' : decide (2000 < G) = false := by simp; omega
    go_enter Tryd.func5, Tryd.ntmps5
    go_wp2_with fail
    refine (awake_any _).mono ?_
    rintro e x9 ⟨rfl, h9⟩
    have H9 := Lib.hid h9; clear h9
    go_wp2_with fail
    go_ret
    exact ⟨rfl, H9.out⟩
  · have d1 : G = G := rfl
    have g1 : decide ((60 : Int) < (G : Int)) = true := by simp; omega
    have g1' : decide (60 < G) = true := by simp; omega
    have g2 : decide ((G : Int) < 4000) = true := by simp; omega
    have g2' : decide (G < 4000) = true := by simp; omega
    have g3 : decide ((4200 : Int) < (G : Int)) = false := by simp; omega
    have g3' : decide (4200 < G) = false := by simp; omega
    have g4 : decide ((2000 : Int) < (G : Int)) = true := by simp; omega
    have g4' : decide (2000 < G) = true := by simp; omega
    go_enter Tryd.func5, Tryd.ntmps5
    go_wp2_with fail
    refine (awake_any _).mono ?_
    rintro e x9 ⟨rfl, h9⟩
    have H9 := Lib.hid h9; clear h9
    go_wp2_with fail
    go_ret
    exact ⟨rfl, H9.out⟩
  · have d1 : G = G := rfl
    have g1 : decide ((60 : Int) < (G : Int)) = true := by simp; omega
    have g1' : decide (60 < G) = true := by simp; omega
    have g2 : decide ((G : Int) < 4000) = false := by simp; omega
    have g2' : decide (G < 4000) = false := by simp; omega
    have g3 : decide ((4200 : Int) < (G : Int)) = false := by simp; omega
    have g3' : decide (4200 < G) = false := by simp; omega
    have g4 : decide ((2000 : Int) < (G : Int)) = true := by simp; omega
    have g4' : decide (2000 < G) = true := by simp; omega
    rcases (show ((W ≤ 60) ∨ (60 < W ∧ W < 4000) ∨ (4000 ≤ W ∧ W ≤ 4200) ∨ (4200 < W)) by omega) with hw | hw | hw | hw
    · have d2 : W = W := rfl
      have v1 : decide ((60 : Int) < (W : Int)) = false := by simp; omega
      have v1' : decide (60 < W) = false := by simp; omega
      have v2 : decide ((W : Int) < 4000) = true := by simp; omega
      have v2' : decide (W < 4000) = true := by simp; omega
      have v3 : decide ((4200 : Int) < (W : Int)) = false := by simp; omega
      have v3' : decide (4200 < W) = false := by simp; omega
      have q1 : decide ((G : Int) ≤ 10) = false := by simp; omega
      have q1' : decide (G ≤ 10) = false := by simp; omega
      have q2 : decide ((33 : Int) < (G : Int)) = true := by simp; omega
      have q2' : decide (33 < G) = true := by simp; omega
      have q3 : decide ((G : Int) ≤ 8) = false := by simp; omega
      have q3' : decide (G ≤ 8) = false := by simp; omega
      have q4 : decide ((13 : Int) < (G : Int)) = true := by simp; omega
      have q4' : decide (13 < G) = true := by simp; omega
      go_enter Tryd.func5, Tryd.ntmps5
      go_wp2_with fail
      refine (Divide_any _ _ _).mono ?_
      rintro e x1 ⟨rfl, h1⟩
      rw [HD.out.1, HD.out.2.1, HD.out.2.2]
      have H1 := Lib.hid h1; clear h1
      go_wp2_with fail
      refine (rDivide_any _ _ _).mono ?_
      rintro e x2 ⟨rfl, h2⟩
      rw [HD.out.1, HD.out.2.1, HD.out.2.2]
      have H2 := Lib.hid (H1.out.trans (h2.mono H1.out.size)); clear h2
      go_wp2_with fail
      refine (Product_any _ _ _).mono ?_
      rintro e x3 ⟨rfl, h3⟩
      rw [HP.out.1, HP.out.2]
      have H3 := Lib.hid (H2.out.trans (h3.mono H2.out.size)); clear h3
      go_wp2_with fail
      refine (rProduct_any _ _ _).mono ?_
      rintro e x4 ⟨rfl, h4⟩
      rw [HP.out.1, HP.out.2]
      have H4 := Lib.hid (H3.out.trans (h4.mono H3.out.size)); clear h4
      go_wp2_with fail
      refine (Order_any _ _).mono ?_
      rintro e x5 ⟨rfl, h5⟩
      rw [HO.out.1, HO.out.2]
      have H5 := Lib.hid (H4.out.trans (h5.mono H4.out.size)); clear h5
      go_wp2_with fail
      refine (rOrder_any _ _).mono ?_
      rintro e x6 ⟨rfl, h6⟩
      rw [HO.out.1, HO.out.2]
      have H6 := Lib.hid (H5.out.trans (h6.mono H5.out.size)); clear h6
      go_wp2_with fail
      refine (Detects_any _ _ _).mono ?_
      rintro e x7 ⟨rfl, h7⟩
      rw [HT.out.1, HT.out.2]
      have H7 := Lib.hid (H6.out.trans (h7.mono H6.out.size)); clear h7
      go_wp2_with fail
      refine (rDetects_any _ _ _).mono ?_
      rintro e x8 ⟨rfl, h8⟩
      rw [HT.out.1, HT.out.2]
      have H8 := Lib.hid (H7.out.trans (h8.mono H7.out.size)); clear h8
      go_wp2_with fail
      refine (awake_any _).mono ?_
      rintro e x9 ⟨rfl, h9⟩
      have H9 := Lib.hid (H8.out.trans (h9.mono H8.out.size)); clear h9
      go_wp2_with fail
      go_ret
      exact ⟨rfl, H9.out⟩
    · have d2 : W = W := rfl
      have v1 : decide ((60 : Int) < (W : Int)) = true := by simp; omega
      have v1' : decide (60 < W) = true := by simp; omega
      have v2 : decide ((W : Int) < 4000) = true := by simp; omega
      have v2' : decide (W < 4000) = true := by simp; omega
      have v3 : decide ((4200 : Int) < (W : Int)) = false := by simp; omega
      have v3' : decide (4200 < W) = false := by simp; omega
      go_enter Tryd.func5, Tryd.ntmps5
      go_wp2_with fail
      refine (awake_any _).mono ?_
      rintro e x9 ⟨rfl, h9⟩
      have H9 := Lib.hid h9; clear h9
      go_wp2_with fail
      go_ret
      exact ⟨rfl, H9.out⟩
    · have d2 : W = W := rfl
      have v1 : decide ((60 : Int) < (W : Int)) = true := by simp; omega
      have v1' : decide (60 < W) = true := by simp; omega
      have v2 : decide ((W : Int) < 4000) = false := by simp; omega
      have v2' : decide (W < 4000) = false := by simp; omega
      have v3 : decide ((4200 : Int) < (W : Int)) = false := by simp; omega
      have v3' : decide (4200 < W) = false := by simp; omega
      go_enter Tryd.func5, Tryd.ntmps5
      go_wp2_with fail
      refine (awake_any _).mono ?_
      rintro e x9 ⟨rfl, h9⟩
      have H9 := Lib.hid h9; clear h9
      go_wp2_with fail
      go_ret
      exact ⟨rfl, H9.out⟩
    · have d2 : W = W := rfl
      have v1 : decide ((60 : Int) < (W : Int)) = true := by simp; omega
      have v1' : decide (60 < W) = true := by simp; omega
      have v2 : decide ((W : Int) < 4000) = false := by simp; omega
      have v2' : decide (W < 4000) = false := by simp; omega
      have v3 : decide ((4200 : Int) < (W : Int)) = true := by simp; omega
      have v3' : decide (4200 < W) = true := by simp; omega
      go_enter Tryd.func5, Tryd.ntmps5
      go_wp2_with fail
      refine (awake_any _).mono ?_
      rintro e x9 ⟨rfl, h9⟩
      have H9 := Lib.hid h9; clear h9
      go_wp2_with fail
      go_ret
      exact ⟨rfl, H9.out⟩
  · have d1 : G = G := rfl
    have g1 : decide ((60 : Int) < (G : Int)) = true := by simp; omega
    have g1' : decide (60 < G) = true := by simp; omega
    have g2 : decide ((G : Int) < 4000) = false := by simp; omega
    have g2' : decide (G < 4000) = false := by simp; omega
    have g3 : decide ((4200 : Int) < (G : Int)) = true := by simp; omega
    have g3' : decide (4200 < G) = true := by simp; omega
    have g4 : decide ((2000 : Int) < (G : Int)) = true := by simp; omega
    have g4' : decide (2000 < G) = true := by simp; omega
    rcases (show ((W ≤ 60) ∨ (60 < W ∧ W < 4000) ∨ (4000 ≤ W ∧ W ≤ 4200) ∨ (4200 < W)) by omega) with hw | hw | hw | hw
    · have d2 : W = W := rfl
      have v1 : decide ((60 : Int) < (W : Int)) = false := by simp; omega
      have v1' : decide (60 < W) = false := by simp; omega
      have v2 : decide ((W : Int) < 4000) = true := by simp; omega
      have v2' : decide (W < 4000) = true := by simp; omega
      have v3 : decide ((4200 : Int) < (W : Int)) = false := by simp; omega
      have v3' : decide (4200 < W) = false := by simp; omega
      go_enter Tryd.func5, Tryd.ntmps5
      go_wp2_with fail
      refine (awake_any _).mono ?_
      rintro e x9 ⟨rfl, h9⟩
      have H9 := Lib.hid h9; clear h9
      go_wp2_with fail
      go_ret
      exact ⟨rfl, H9.out⟩
    · have d2 : W = W := rfl
      have v1 : decide ((60 : Int) < (W : Int)) = true := by simp; omega
      have v1' : decide (60 < W) = true := by simp; omega
      have v2 : decide ((W : Int) < 4000) = true := by simp; omega
      have v2' : decide (W < 4000) = true := by simp; omega
      have v3 : decide ((4200 : Int) < (W : Int)) = false := by simp; omega
      have v3' : decide (4200 < W) = false := by simp; omega
      go_enter Tryd.func5, Tryd.ntmps5
      go_wp2_with fail
      refine (awake_any _).mono ?_
      rintro e x9 ⟨rfl, h9⟩
      have H9 := Lib.hid h9; clear h9
      go_wp2_with fail
      go_ret
      exact ⟨rfl, H9.out⟩
    · have d2 : W = W := rfl
      have v1 : decide ((60 : Int) < (W : Int)) = true := by simp; omega
      have v1' : decide (60 < W) = true := by simp; omega
      have v2 : decide ((W : Int) < 4000) = false := by simp; omega
      have v2' : decide (W < 4000) = false := by simp; omega
      have v3 : decide ((4200 : Int) < (W : Int)) = false := by simp; omega
      have v3' : decide (4200 < W) = false := by simp; omega
      go_enter Tryd.func5, Tryd.ntmps5
      go_wp2_with fail
      refine (awake_any _).mono ?_
      rintro e x9 ⟨rfl, h9⟩
      have H9 := Lib.hid h9; clear h9
      go_wp2_with fail
      go_ret
      exact ⟨rfl, H9.out⟩
    · have d2 : W = W := rfl
      have v1 : decide ((60 : Int) < (W : Int)) = true := by simp; omega
      have v1' : decide (60 < W) = true := by simp; omega
      have v2 : decide ((W : Int) < 4000) = false := by simp; omega
      have v2' : decide (W < 4000) = false := by simp; omega
      have v3 : decide ((4200 : Int) < (W : Int)) = true := by simp; omega
      have v3' : decide (4200 < W) = true := by simp; omega
      go_enter Tryd.func5, Tryd.ntmps5
      go_wp2_with fail
      refine (awake_any _).mono ?_
      rintro e x9 ⟨rfl, h9⟩
      have H9 := Lib.hid h9; clear h9
      go_wp2_with fail
      go_ret
      exact ⟨rfl, H9.out⟩
end Go.Proofs.YtahfmeopecmpmaaDoor
