/-
  The law of the lengths of stuffed and padded words.
-/
import Derived.Test.YtdalcopbaaabiaaDoorStF
import Derived.Test.YtdalcopbaaabiaaDoorCrd
namespace Go.Proofs.YtdalcopbaaabiaaDoor
open Go.RowKit

theorem mx_of {w : World} (h : w.ShapedOpen Tryd.prog) : Mx w := Tryd.laysM155.s1_3 w h
theorem ones_any (s : ByteArray) (w : World) : Calls Tryd.prog 17 #[.string s] w fun e w' => e = .returned (.int .i64 (s.data.toList.count 49 : Nat)) ∧ w = w' := by
  obtain ⟨C, hC⟩ : ∃ C, s.data.toList.count 49 = C := ⟨_, rfl⟩
  have HC := Lib.hid hC
  rw [hC]
  clear hC
  go_enter Tryd.func17, Tryd.ntmps17
  go_wp2_with fail
  refine (Tryd.strings_Count_one s 49 _).mono ?_
  rintro e w2 ⟨rfl, rfl⟩
  rw [show Lib.countByte s.data.toList 49 = C from HC.out]
  go_wp2_with fail
  go_ret
  exact ⟨rfl, rfl⟩

set_option maxHeartbeats 1000000 in
set_option maxRecDepth 100000 in
theorem law_stuffingLengths (a0 a1 : Int) (s : ByteArray) (w0 : (Lit.int .u8 a0).wf = true) (w1 : (Lit.int .u8 a1).wf = true) (_w2 : s.size ≤ maxLen) (w : World) (hsh : w.ShapedOpen Tryd.prog) :
    Calls Tryd.prog 3 #[.int .u8 a0, .int .u8 a1, .string s] w fun e w' => e = .returned (.bool true) ∧ Below w.heap.size w w' := by
  have HMX := Lib.hid (mx_of hsh); clear hsh
  have HW0 := Lib.hid w0
  have HW1 := Lib.hid w1
  clear w0 w1
  by_cases hbin : binT s.data.toList = true
  · obtain ⟨hl, hall⟩ : s.size ≤ 60 ∧ s.data.toList.all isB = true := by
      simp only [binT, Bool.and_eq_true, decide_eq_true_eq] at hbin
      exact ⟨hbin.1, ((chk2_iff _).1 hbin.2).2⟩
    have HB := Lib.hid hbin
    have HA := Lib.hid hall; clear hbin hall
    go_enter Tryd.func3, Tryd.ntmps3
    go_wp2_with fail
    refine (binary_any _ _).mono ?_
    rintro e x1 ⟨rfl, h1⟩
    rw [HB.out]
    have HM1 := Lib.hid (HMX.out.below h1 (Nat.le_refl _))
    have H1 := Lib.hid h1; clear h1
    go_wp2_with fail
    refine (numbers_any _ _ HW0.out HW1.out _).mono ?_
    rintro e x2 ⟨⟨A, B, hAB, hB, rfl⟩, rfl⟩
    have e0 : s.data.toList.length = s.size := rfl
    have P1 := Lib.hid (st_small (k := B) (l := s.data.toList) (by omega) (by omega) hl HA.out)
    have P2 := Lib.hid (pd_small (d := A) (l := s.data.toList) (by omega) (by omega) HA.out)
    have P3 := Lib.hid (bo_small (d := A) (k := B) (l := s.data.toList) hAB hB hl HA.out)
    have P4 := Lib.hid (st_small (k := B - A) (l := s.data.toList) (by omega) (by omega) hl HA.out)
    have hA12 : A ≤ 12 := by omega
    obtain ⟨X, hX⟩ : ∃ X, stf 48 49 B 0 s.data.toList = X := ⟨_, rfl⟩
    obtain ⟨Y, hY⟩ : ∃ Y, padL A s.data.toList = Y := ⟨_, rfl⟩
    obtain ⟨S, hS⟩ : ∃ S, stf 48 49 (B - A) 0 s.data.toList = S := ⟨_, rfl⟩
    obtain ⟨Z, hZ⟩ : ∃ Z, padL A S = Z := ⟨_, rfl⟩
    obtain ⟨N, hN⟩ : ∃ N, s.data.toList.count 49 = N := ⟨_, rfl⟩
    obtain ⟨M, hM⟩ : ∃ M, S.count 49 = M := ⟨_, rfl⟩
    have hN60 : N ≤ 60 := by have : s.data.toList.count 49 ≤ s.data.toList.length := List.count_le_length
                             omega
    have hSl : S.length ≤ 120 := by have := stf_len 48 49 (B - A) s.data.toList 0
                                    rw [hS] at this; omega
    have hM120 : M ≤ 120 := by have : S.count 49 ≤ S.length := List.count_le_length
                               omega
    obtain ⟨p, k1, k2, k3⟩ := stf_puts 48 49 B (by omega) s.data.toList 0 (by omega)
    have kY := padL_len A s.data.toList
    have kZ := padL_len A S
    rw [hX, e0] at k1
    rw [hX, hN] at k3
    rw [hY, e0, hN] at kY
    rw [hZ, hM] at kZ
    have kp : p ≤ s.size / B := by rw [Nat.le_div_iff_mul_le (by omega)]; omega
    have kdb : s.size / B ≤ 60 := Nat.le_trans (Nat.div_le_self _ _) hl
    have e1 : A * N ≤ 12 * 60 := Nat.mul_le_mul hA12 hN60
    have e2 : A * M ≤ 12 * 120 := Nat.mul_le_mul hA12 hM120
    have g1 : ((A * N : Nat) : Int) = (A : Int) * (N : Int) := Int.natCast_mul _ _
    have g2 : ((A * M : Nat) : Int) = (A : Int) * (M : Int) := Int.natCast_mul _ _
    have g3 : ((s.size / B : Nat) : Int) = (s.size : Int) / (B : Int) := Int.natCast_ediv _ _
    have f1 : s.size ≤ X.length := by omega
    have f2 : (0 : Int) ≤ (s.size : Int) / (B : Int) := by omega
    have f3 : (s.size : Int) / (B : Int) ≤ 60 := by omega
    have f4 : (X.length : Int) ≤ (s.size : Int) + (s.size : Int) / (B : Int) := by omega
    have f5 : X.length ≤ 120 := by omega
    have f6 : ((X.count 49 : Int) == (N : Int) + (X.length : Int) - (s.size : Int)) = true := by rw [beq_iff_eq]; omega
    have f7 : (0 : Int) ≤ (A : Int) * (N : Int) := by omega
    have f8 : (A : Int) * (N : Int) ≤ 720 := by omega
    have f9 : ((Y.length : Int) == (s.size : Int) + (A : Int) * (N : Int)) = true := by rw [beq_iff_eq]; omega
    have f10 : (0 : Int) ≤ (A : Int) * (M : Int) := by omega
    have f11 : (A : Int) * (M : Int) ≤ 1440 := by omega
    have f12 : ((Z.length : Int) == (S.length : Int) + (A : Int) * (M : Int)) = true := by rw [beq_iff_eq]; omega
    rw [hX] at P1
    rw [hY] at P2
    rw [hS] at P3 P4
    rw [hZ] at P3
    obtain ⟨CX, hCX⟩ : ∃ CX, X.count 49 = CX := ⟨_, rfl⟩
    rw [hCX] at f6 k3
    have hCX180 : CX ≤ 180 := by omega
    have HCX := Lib.hid hCX
    have HN := Lib.hid hN
    have HMM := Lib.hid hM
    clear hX hY hS hZ hN hM hCX k1 k2 k3 kY kZ kp kdb e1 e2 g1 g2 g3
    have hcast : ((B : Int) - (A : Int)) = ((B - A : Nat) : Int) := by omega
    have HC := Lib.hid hcast
    clear e0 hcast
    go_wp2_with fail
    refine (Stuff_any _ _ _).mono ?_
    rintro e x2 ⟨rfl, h2⟩
    rw [P1.out.1, P1.out.2]
    have HM2 := Lib.hid (HM1.out.below h2 (Nat.le_refl _))
    have H2 := Lib.hid (ext_trans H1.out h2); clear h2
    go_wp2_with fail
    refine (Pad_any _ _ _ HM2.out).mono ?_
    rintro e x3 ⟨rfl, h3⟩
    rw [P2.out.1, P2.out.2]
    have HM3 := Lib.hid (HM2.out.below h3 (Nat.le_refl _))
    have H3 := Lib.hid (H2.out.trans (h3.mono H2.out.size)); clear h3
    go_wp2_with fail
    refine (Both_any _ _ _ _ HM3.out).mono ?_
    rintro e x4 ⟨rfl, h4⟩
    rw [P3.out.1, P3.out.2]
    have HM4 := Lib.hid (HM3.out.below h4 (Nat.le_refl _))
    have H4 := Lib.hid (H3.out.trans (h4.mono H3.out.size)); clear h4
    go_wp2_with fail
    refine (Stuff_any _ _ _).mono ?_
    rintro e x5 ⟨rfl, h5⟩
    rw [HC.out, P4.out.1, P4.out.2]
    have HM5 := Lib.hid (HM4.out.below h5 (Nat.le_refl _))
    have H5 := Lib.hid (H4.out.trans (h5.mono H4.out.size)); clear h5
    go_wp2_with fail
    refine (ones_any _ _).mono ?_
    rintro e x6 ⟨rfl, rfl⟩
    rw [show (⟨X.toArray⟩ : ByteArray).data.toList.count 49 = CX from HCX.out]
    go_wp2_with fail
    refine (ones_any _ _).mono ?_
    rintro e x6 ⟨rfl, rfl⟩
    rw [HN.out]
    go_wp2_with fail
    refine (ones_any _ _).mono ?_
    rintro e x6 ⟨rfl, rfl⟩
    rw [HN.out]
    go_wp2_with fail
    refine (ones_any _ _).mono ?_
    rintro e x6 ⟨rfl, rfl⟩
    rw [show (⟨S.toArray⟩ : ByteArray).data.toList.count 49 = M from HMM.out]
    go_wp2_with fail
    refine (awake_any _ HM5.out).mono ?_
    rintro e x7 ⟨rfl, h7⟩
    have H7 := Lib.hid (H5.out.trans (h7.mono H5.out.size)); clear h7
    go_wp2_with fail
    go_ret
    exact ⟨rfl, H7.out⟩
  · have HB := Lib.hid (show binT s.data.toList = false by simpa using hbin)
    clear hbin
    go_enter Tryd.func3, Tryd.ntmps3
    go_wp2_with fail
    refine (binary_any _ _).mono ?_
    rintro e x1 ⟨rfl, h1⟩
    rw [HB.out]
    have HM1 := Lib.hid (HMX.out.below h1 (Nat.le_refl _))
    have H1 := Lib.hid h1; clear h1
    go_wp2_with fail
    refine (awake_any _ HM1.out).mono ?_
    rintro e x2 ⟨rfl, h2⟩
    have H2 := Lib.hid (H1.out.trans (h2.mono H1.out.size)); clear h2
    go_wp2_with fail
    go_ret
    exact ⟨rfl, H2.out⟩
end Go.Proofs.YtdalcopbaaabiaaDoor
