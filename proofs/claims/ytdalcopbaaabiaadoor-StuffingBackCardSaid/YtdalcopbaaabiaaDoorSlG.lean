/-
  The law of framed words that are found again.
-/
import Derived.Test.YtdalcopbaaabiaaDoorStT
import Derived.Test.YtdalcopbaaabiaaDoorStU
import Derived.Test.YtdalcopbaaabiaaDoorSlA
namespace Go.Proofs.YtdalcopbaaabiaaDoor
open Go.RowKit

set_option maxHeartbeats 1000000 in
set_option maxRecDepth 100000 in
theorem law_stuffingBack (a : Option Addr) (c : Nat) (ss : List ByteArray) (s t : ByteArray) (_w1 : s.size ≤ maxLen) (_w2 : t.size ≤ maxLen) (w : World) (hrow : SRow w a ss) (hlen : ss.length ≤ 9223372036854775807) (hsh : w.ShapedOpen Tryd.prog) :
    Calls Tryd.prog 8 #[.slice a ss.length c, .string s, .string t] w fun e w' => e = .returned (.bool true) ∧ Below w.heap.size w w' := by
  have HMX := Lib.hid (mx_of hsh); clear hsh
  have HR := Lib.hid hrow; clear hrow
  have HLN := Lib.hid hlen; clear hlen
  by_cases hc : decide ((12 : Int) < (ss.length : Int)) = true
  · go_enter Tryd.func8, Tryd.ntmps8
    go_wp2_with fail
    refine (awake_any _ HMX.out).mono ?_
    rintro e y ⟨rfl, h9⟩
    have H9 := Lib.hid (h9); clear h9
    go_wp2_with fail
    go_ret
    exact ⟨rfl, H9.out⟩
  · have hm1 : decide ((12 : Int) < (ss.length : Int)) = false := by simpa using hc
    clear hc
    by_cases hc : binA ss = false
    · have H2 := Lib.hid hc; clear hc
      go_enter Tryd.func8, Tryd.ntmps8
      go_wp2_with fail
      refine (containsFunc_any a c ss _ HR.out HLN.out).mono ?_
      rintro e x1 ⟨rfl, h1⟩
      rw [H2.out]
      have HM1 := Lib.hid (HMX.out.below h1 (Nat.le_refl _))
      have HR1 := Lib.hid (HR.out.below h1)
      have B1 := Lib.hid h1; clear h1
      go_wp2_with fail
      refine (awake_any _ HM1.out).mono ?_
      rintro e y ⟨rfl, h9⟩
      have H9 := Lib.hid (B1.out.trans (h9.mono B1.out.size)); clear h9
      go_wp2_with fail
      go_ret
      exact ⟨rfl, H9.out⟩
    · have hm2 : binA ss = true := by simpa using hc
      clear hc
      have H2 := Lib.hid hm2; clear hm2
      by_cases hc : binT s.data.toList = false
      · have H3 := Lib.hid hc; clear hc
        go_enter Tryd.func8, Tryd.ntmps8
        go_wp2_with fail
        refine (containsFunc_any a c ss _ HR.out HLN.out).mono ?_
        rintro e x1 ⟨rfl, h1⟩
        rw [H2.out]
        have HM1 := Lib.hid (HMX.out.below h1 (Nat.le_refl _))
        have HR1 := Lib.hid (HR.out.below h1)
        have B1 := Lib.hid h1; clear h1
        go_wp2_with fail
        refine (binary_any _ _).mono ?_
        rintro e x2 ⟨rfl, h1⟩
        rw [H3.out]
        have HM2 := Lib.hid (HM1.out.below h1 (Nat.le_refl _))
        have HR2 := Lib.hid (HR1.out.below h1)
        have B2 := Lib.hid (B1.out.trans (h1.mono B1.out.size)); clear h1
        go_wp2_with fail
        refine (awake_any _ HM2.out).mono ?_
        rintro e y ⟨rfl, h9⟩
        have H9 := Lib.hid (B2.out.trans (h9.mono B2.out.size)); clear h9
        go_wp2_with fail
        go_ret
        exact ⟨rfl, H9.out⟩
      · have hm3 : binT s.data.toList = true := by simpa using hc
        clear hc
        have H3 := Lib.hid hm3; clear hm3
        by_cases hc : binT t.data.toList = false
        · have H4 := Lib.hid hc; clear hc
          go_enter Tryd.func8, Tryd.ntmps8
          go_wp2_with fail
          refine (containsFunc_any a c ss _ HR.out HLN.out).mono ?_
          rintro e x1 ⟨rfl, h1⟩
          rw [H2.out]
          have HM1 := Lib.hid (HMX.out.below h1 (Nat.le_refl _))
          have HR1 := Lib.hid (HR.out.below h1)
          have B1 := Lib.hid h1; clear h1
          go_wp2_with fail
          refine (binary_any _ _).mono ?_
          rintro e x2 ⟨rfl, h1⟩
          rw [H3.out]
          have HM2 := Lib.hid (HM1.out.below h1 (Nat.le_refl _))
          have HR2 := Lib.hid (HR1.out.below h1)
          have B2 := Lib.hid (B1.out.trans (h1.mono B1.out.size)); clear h1
          go_wp2_with fail
          refine (binary_any _ _).mono ?_
          rintro e x3 ⟨rfl, h1⟩
          rw [H4.out]
          have HM3 := Lib.hid (HM2.out.below h1 (Nat.le_refl _))
          have HR3 := Lib.hid (HR2.out.below h1)
          have B3 := Lib.hid (B2.out.trans (h1.mono B2.out.size)); clear h1
          go_wp2_with fail
          refine (awake_any _ HM3.out).mono ?_
          rintro e y ⟨rfl, h9⟩
          have H9 := Lib.hid (B3.out.trans (h9.mono B3.out.size)); clear h9
          go_wp2_with fail
          go_ret
          exact ⟨rfl, H9.out⟩
        · have hm4 : binT t.data.toList = true := by simpa using hc
          clear hc
          have H4 := Lib.hid hm4; clear hm4
          by_cases hc : decide ((5 : Int) < (s.size : Int)) = true
          · go_enter Tryd.func8, Tryd.ntmps8
            go_wp2_with fail
            refine (containsFunc_any a c ss _ HR.out HLN.out).mono ?_
            rintro e x1 ⟨rfl, h1⟩
            rw [H2.out]
            have HM1 := Lib.hid (HMX.out.below h1 (Nat.le_refl _))
            have HR1 := Lib.hid (HR.out.below h1)
            have B1 := Lib.hid h1; clear h1
            go_wp2_with fail
            refine (binary_any _ _).mono ?_
            rintro e x2 ⟨rfl, h1⟩
            rw [H3.out]
            have HM2 := Lib.hid (HM1.out.below h1 (Nat.le_refl _))
            have HR2 := Lib.hid (HR1.out.below h1)
            have B2 := Lib.hid (B1.out.trans (h1.mono B1.out.size)); clear h1
            go_wp2_with fail
            refine (binary_any _ _).mono ?_
            rintro e x3 ⟨rfl, h1⟩
            rw [H4.out]
            have HM3 := Lib.hid (HM2.out.below h1 (Nat.le_refl _))
            have HR3 := Lib.hid (HR2.out.below h1)
            have B3 := Lib.hid (B2.out.trans (h1.mono B2.out.size)); clear h1
            go_wp2_with fail
            refine (awake_any _ HM3.out).mono ?_
            rintro e y ⟨rfl, h9⟩
            have H9 := Lib.hid (B3.out.trans (h9.mono B3.out.size)); clear h9
            go_wp2_with fail
            go_ret
            exact ⟨rfl, H9.out⟩
          · have hm5 : decide ((5 : Int) < (s.size : Int)) = false := by simpa using hc
            clear hc
            by_cases hc : decide ((7 : Int) < (t.size : Int)) = true
            · go_enter Tryd.func8, Tryd.ntmps8
              go_wp2_with fail
              refine (containsFunc_any a c ss _ HR.out HLN.out).mono ?_
              rintro e x1 ⟨rfl, h1⟩
              rw [H2.out]
              have HM1 := Lib.hid (HMX.out.below h1 (Nat.le_refl _))
              have HR1 := Lib.hid (HR.out.below h1)
              have B1 := Lib.hid h1; clear h1
              go_wp2_with fail
              refine (binary_any _ _).mono ?_
              rintro e x2 ⟨rfl, h1⟩
              rw [H3.out]
              have HM2 := Lib.hid (HM1.out.below h1 (Nat.le_refl _))
              have HR2 := Lib.hid (HR1.out.below h1)
              have B2 := Lib.hid (B1.out.trans (h1.mono B1.out.size)); clear h1
              go_wp2_with fail
              refine (binary_any _ _).mono ?_
              rintro e x3 ⟨rfl, h1⟩
              rw [H4.out]
              have HM3 := Lib.hid (HM2.out.below h1 (Nat.le_refl _))
              have HR3 := Lib.hid (HR2.out.below h1)
              have B3 := Lib.hid (B2.out.trans (h1.mono B2.out.size)); clear h1
              go_wp2_with fail
              refine (awake_any _ HM3.out).mono ?_
              rintro e y ⟨rfl, h9⟩
              have H9 := Lib.hid (B3.out.trans (h9.mono B3.out.size)); clear h9
              go_wp2_with fail
              go_ret
              exact ⟨rfl, H9.out⟩
            · have hm6 : decide ((7 : Int) < (t.size : Int)) = false := by simpa using hc
              clear hc
              have hs5 : s.size ≤ 5 := by simp at hm5; omega
              have ht7 : t.size ≤ 7 := by simp at hm6; omega
              have hl12 : ss.length ≤ 12 := by simp at hm1; omega
              obtain ⟨f1, f2, f3, f4⟩ := framed hl12 H2.out
              have F1 := Lib.hid f1
              have F2 := Lib.hid f2; clear f1 f2 f4
              have G0 := Lib.hid (found (head := []) (tail := []) hl12 H2.out (by simp) (by simp) rfl rfl)
              have G1 := Lib.hid (found (head := s.data.toList) (tail := t.data.toList) hl12 H2.out hs5 ht7 (binT_iff H3.out).2 (binT_iff H4.out).2)
              go_enter Tryd.func8, Tryd.ntmps8
              go_wp2_with fail
              refine (containsFunc_any a c ss _ HR.out HLN.out).mono ?_
              rintro e x1 ⟨rfl, h1⟩
              rw [H2.out]
              have HM1 := Lib.hid (HMX.out.below h1 (Nat.le_refl _))
              have HR1 := Lib.hid (HR.out.below h1)
              have B1 := Lib.hid h1; clear h1
              go_wp2_with fail
              refine (binary_any _ _).mono ?_
              rintro e x2 ⟨rfl, h1⟩
              rw [H3.out]
              have HM2 := Lib.hid (HM1.out.below h1 (Nat.le_refl _))
              have HR2 := Lib.hid (HR1.out.below h1)
              have B2 := Lib.hid (B1.out.trans (h1.mono B1.out.size)); clear h1
              go_wp2_with fail
              refine (binary_any _ _).mono ?_
              rintro e x3 ⟨rfl, h1⟩
              rw [H4.out]
              have HM3 := Lib.hid (HM2.out.below h1 (Nat.le_refl _))
              have HR3 := Lib.hid (HR2.out.below h1)
              have B3 := Lib.hid (B2.out.trans (h1.mono B2.out.size)); clear h1
              go_wp2_with fail
              refine (Frame_any a c ss _ HR3.out HLN.out).mono ?_
              rintro e x4 ⟨rfl, h1⟩
              rw [F1.out, F2.out]
              have HM4 := Lib.hid (HM3.out.below h1 (Nat.le_refl _))
              have HR4 := Lib.hid (HR3.out.below h1)
              have B4 := Lib.hid (B3.out.trans (h1.mono B3.out.size)); clear h1
              obtain ⟨T, hT⟩ : ∃ T, frT ss = T := ⟨_, rfl⟩
              rw [hT] at f3 G0 G1 ⊢
              clear hT F1 F2
              have hT2 : (⟨T.toArray⟩ : ByteArray).size = T.length := by simp [ByteArray.size]
              go_wp2_with fail
              obtain ⟨x5, hx5⟩ : ∃ x5, x4.alloc (Obj.cells #[Value.string ⟨T.toArray⟩, Value.string (s ++ ⟨T.toArray⟩ ++ t)] 9) = x5 := ⟨_, rfl⟩
              have hb5 : Below x4.heap.size x4 x5 := by rw [← hx5]; exact (Below.refl _ _).alloc (Nat.le_refl _) _
              have hr5 : Row x5 x4.heap.size 9 [Value.string ⟨T.toArray⟩, Value.string (s ++ ⟨T.toArray⟩ ++ t)] := by rw [← hx5]; exact row_new x4 9 _
              have hc0 : x5.cell? ⟨x4.heap.size, 0, none⟩ = some (.string ⟨T.toArray⟩) := hr5.cell 0
              have hc1 : x5.cell? ⟨x4.heap.size, 1, none⟩ = some (.string (s ++ ⟨T.toArray⟩ ++ t)) := hr5.cell 1
              have hz5 : x4.heap.size < x5.heap.size := hr5.lt
              have HM5 := Lib.hid (HM4.out.below hb5 (Nat.le_refl _))
              have HR5 := Lib.hid (HR4.out.below hb5)
              have B5 := Lib.hid (B4.out.trans (hb5.mono B4.out.size)); clear hb5 hr5
              rw [hx5]
              clear hx5
              have HX1 := Lib.hid (show (s ++ (⟨T.toArray⟩ : ByteArray) ++ t).data.toList = s.data.toList ++ T ++ t.data.toList by simp)
              have HS1 := Lib.hid (show (s ++ (⟨T.toArray⟩ : ByteArray) ++ t).size ≤ 1000 by have := G1.out.1; simp only [List.length_append] at this; have e1 : s.data.toList.length = s.size := rfl; have e2 : t.data.toList.length = t.size := rfl; simp only [ByteArray.size_append, hT2]; omega)
              obtain ⟨X1, hX1⟩ : ∃ X1, s ++ (⟨T.toArray⟩ : ByteArray) ++ t = X1 := ⟨_, rfl⟩
              rw [hX1] at hc1 HX1 HS1 ⊢
              clear hX1
              rw [← HX1.out] at G1
              replace G0 : Hid (T.length ≤ 1000 ∧ chk 2 T = 0 ∧ dwO (bas (stL T)) = ss.map (fun s => s.data.toList) ∧ dwB (bas (stL T)) = 0) := Lib.hid (by have := G0.out; simpa using this)
              go_loopw [55] (fun i wr => ∃ j : Nat, j ≤ 2 ∧ i = .int .i64 j ∧ SRow wr a ss ∧ Mx wr ∧ Below w.heap.size w wr ∧ wr.cell? ⟨x4.heap.size, 0, none⟩ = some (.string ⟨T.toArray⟩) ∧ wr.cell? ⟨x4.heap.size, 1, none⟩ = some (.string X1) ∧ x4.heap.size < wr.heap.size) (fun i _ => 2 - (intOf i).toNat)
              case atStart => exact ⟨0, by omega, rfl, HR5.out, HM5.out, B5.out, hc0, hc1, hz5⟩
              case round =>
                clear hc0 hc1 hz5 HM5 HR5 B5 HM4 HR4 B4 HM3 HR3 B3 HM2 HR2 B2 HM1 HR1 B1 HMX HR
                obtain ⟨j, hj, rfl, hr, hm, hb, c0, c1, hz⟩ := hrel
                have RR := Lib.hid hr; clear hr
                have RM := Lib.hid hm; clear hm
                have RB := Lib.hid hb; clear hb
                have hjc : j = 0 ∨ j = 1 ∨ j = 2 := by omega
                clear hj
                rcases hjc with rfl | rfl | rfl
                · go_wp2_with fail
                  refine (Deframe_in ⟨T.toArray⟩ _ RM.out (by rw [hT2]; exact G0.out.1) G0.out.2.1).mono ?_
                  rintro e y1 ⟨v, rfl, hrow, h2⟩
                  replace hrow : y1.ownsRow wr.heap.size 9 1 v (dwO (bas (stL T))).length (strs (dwO (bas (stL T)))) := hrow
                  rw [show dwB (bas (stL (⟨T.toArray⟩ : ByteArray).data.toList)) = 0 from G0.out.2.2.2]
                  obtain ⟨b, d, rfl, hsr⟩ := srow_of_own rfl hrow
                  rw [G0.out.2.2.1, words_back] at hsr
                  rw [G0.out.2.2.1, List.length_map]
                  have S1 := Lib.hid hsr; clear hsr hrow
                  have RM1 := Lib.hid (RM.out.below h2 (Nat.le_refl _))
                  have RR1 := Lib.hid (RR.out.below h2)
                  have RB1 := Lib.hid (RB.out.trans (h2.mono RB.out.size))
                  have C0 := Lib.hid (cell_below c0 h2 hz)
                  have C1 := Lib.hid (cell_below c1 h2 hz)
                  have CZ := Lib.hid (Nat.lt_of_lt_of_le hz h2.size); clear h2
                  go_wp2_with fail
                  refine (equalS_any b a d c ss ss _ S1.out RR1.out HLN.out HLN.out).mono ?_
                  rintro e y2 ⟨rfl, n, rfl⟩
                  rw [decide_eq_true (rfl : ss = ss)]
                  go_wp2_with fail
                  go_roundw
                  case rel => exact ⟨1, by omega, by go_num, RR1.out.drewN n, RM1.out.drewN n, below_drewN RB1.out n, C0.out, C1.out, CZ.out⟩
                  case measure => simp [intOf]
                · go_wp2_with fail
                  refine (Deframe_in X1 _ RM.out HS1.out G1.out.2.1).mono ?_
                  rintro e y1 ⟨v, rfl, hrow, h2⟩
                  replace hrow : y1.ownsRow wr.heap.size 9 1 v (dwO (bas (stL X1.data.toList))).length (strs (dwO (bas (stL X1.data.toList)))) := hrow
                  rw [G1.out.2.2.2]
                  obtain ⟨b, d, rfl, hsr⟩ := srow_of_own rfl hrow
                  rw [G1.out.2.2.1, words_back] at hsr
                  rw [G1.out.2.2.1, List.length_map]
                  have S1 := Lib.hid hsr; clear hsr hrow
                  have RM1 := Lib.hid (RM.out.below h2 (Nat.le_refl _))
                  have RR1 := Lib.hid (RR.out.below h2)
                  have RB1 := Lib.hid (RB.out.trans (h2.mono RB.out.size))
                  have C0 := Lib.hid (cell_below c0 h2 hz)
                  have C1 := Lib.hid (cell_below c1 h2 hz)
                  have CZ := Lib.hid (Nat.lt_of_lt_of_le hz h2.size); clear h2
                  go_wp2_with fail
                  refine (equalS_any b a d c ss ss _ S1.out RR1.out HLN.out HLN.out).mono ?_
                  rintro e y2 ⟨rfl, n, rfl⟩
                  rw [decide_eq_true (rfl : ss = ss)]
                  go_wp2_with fail
                  go_roundw
                  case rel => exact ⟨2, by omega, by go_num, RR1.out.drewN n, RM1.out.drewN n, below_drewN RB1.out n, C0.out, C1.out, CZ.out⟩
                  case measure => simp [intOf]
                · go_wp2_with fail
                  refine (awake_any _ RM.out).mono ?_
                  rintro e y ⟨rfl, h9⟩
                  have H9 := Lib.hid (RB.out.trans (h9.mono RB.out.size)); clear h9
                  go_wp2_with fail
                  go_ret
                  exact ⟨rfl, H9.out⟩
end Go.Proofs.YtdalcopbaaabiaaDoor
