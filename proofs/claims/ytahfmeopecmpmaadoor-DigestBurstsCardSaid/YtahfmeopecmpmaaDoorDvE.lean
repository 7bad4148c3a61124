/-
  The law of bursts.
-/
import Derived.Test.YtahfmeopecmpmaaDoorDvC
namespace Go.Proofs.YtahfmeopecmpmaaDoor
open Go.RowKit

set_option maxHeartbeats 2000000 in
set_option maxRecDepth 100000 in
theorem law_digestBursts (g s v : ByteArray) (z1 z2 : Int) (_w0 : g.size ≤ maxLen) (_w1 : s.size ≤ maxLen) (_w2 : v.size ≤ maxLen) (w3 : (Lit.int .u8 z1).wf = true) (w4 : (Lit.int .u8 z2).wf = true) (w : World) (_hsh : w.ShapedOpen Tryd.prog) :
    Calls Tryd.prog 7 #[.string g, .string s, .string v, .int .u8 z1, .int .u8 z2] w fun e w' => e = .returned (.bool true) ∧ Below w.heap.size w w' := by
  simp [Lit.wf, IntKind.min, IntKind.max, IntKind.signed, IntKind.bits] at w3 w4
  obtain ⟨T1, rfl⟩ : ∃ n : Nat, z1 = n := ⟨z1.toNat, by omega⟩
  obtain ⟨T2, rfl⟩ : ∃ n : Nat, z2 = n := ⟨z2.toNat, by omega⟩
  cases hgt0 : genT g.data.toList with
  | false =>
    have HG0 := Lib.hid hgt0; clear hgt0
    go_enter Tryd.func7, Tryd.ntmps7
    go_wp2_with fail
    refine (generator_any _ _).mono ?_
    rintro e x1 ⟨rfl, rfl⟩
    rw [HG0.out]
    go_wp2_with fail
    refine (awake_any _).mono ?_
    rintro e x2 ⟨rfl, h2⟩
    have H2 := Lib.hid h2; clear h2
    go_wp2_with fail
    go_ret
    exact ⟨rfl, H2.out⟩
  | true =>
    have HG0 := Lib.hid hgt0
    cases hbt : bnA 40 [s, v] with
    | false =>
      have HB := Lib.hid hbt; clear hbt
      go_enter Tryd.func7, Tryd.ntmps7
      go_wp2_with fail
      refine (generator_any _ _).mono ?_
      rintro e x1 ⟨rfl, rfl⟩
      rw [HG0.out]
      go_wp2_with fail
      refine (binary_any 40 _ 2 [s, v] _ (srow_new _ _ [s, v]) (by simp)).mono ?_
      rintro e x1 ⟨rfl, h1⟩
      rw [HB.out]
      have H1 := Lib.hid ((below_new w _).trans (h1.mono (below_new w _).size)); clear h1
      go_wp2_with fail
      refine (awake_any _).mono ?_
      rintro e x2 ⟨rfl, h2⟩
      have H2 := Lib.hid (H1.out.trans (h2.mono H1.out.size)); clear h2
      go_wp2_with fail
      go_ret
      exact ⟨rfl, H2.out⟩
    | true =>
      obtain ⟨hs1, ho1⟩ := bnA_two hbt
      have hvl : v.size ≤ 40 := ((bnT_iff (by omega)).1 ho1).1
      obtain ⟨hsl, hsb⟩ := (bnT_iff (by omega)).1 hs1
      obtain ⟨hgen, hgl⟩ := genT_iff hgt0
      have HB := Lib.hid hbt; clear hbt hgt0 hs1
      have hlo := hgen.lo
      have e0 : g.data.toList.length = g.size := rfl
      have e1 : s.data.toList.length = s.size := rfl
      obtain ⟨K, hK⟩ : ∃ K, deg g.data.toList = K := ⟨_, rfl⟩
      have hK1 : K + 1 = g.size := by rw [← hK]; unfold deg; omega
      have hKp : 1 ≤ K := by omega
      have hdg : (g.size : Int) - 1 = (K : Int) := by omega
      have hK30 : K ≤ 11 := by omega
      have hap := ap_ok hgen (w := s.data.toList) (by omega) hsb
      have hvf := vf_sum hgen (w := s.data.toList) (by omega) hsb
      obtain ⟨A, hA⟩ : ∃ A, s.data.toList ++ smV g.data.toList s.data.toList = A := ⟨_, rfl⟩
      have hAb : A.all isB = true := by rw [← hA, List.all_append, hsb, smV_bin]; rfl
      have hAl : A.length = s.size + K := by rw [← hA, List.length_append, smV_len, hK, e1]
      rw [hA] at hap hvf
      obtain ⟨AB, hAB⟩ : ∃ AB : ByteArray, (⟨A.toArray⟩ : ByteArray) = AB := ⟨_, rfl⟩
      have hABd : AB.data.toList = A := by rw [← hAB]
      obtain ⟨N, hN⟩ : ∃ N, s.size + K = N := ⟨_, rfl⟩
      rw [hN] at hAl
      have hABs : AB.size = N := by rw [← hAB, ba_len, hAl]
      rw [← hABd] at hvf hAb hAl
      have hNK : K ≤ N := by omega
      have hN51 : N ≤ 51 := by omega
      have hN1 : 1 ≤ N := by omega
      have hd60 : decide ((60 : Int) < (N : Int)) = false := by simp; omega
      have HAP := Lib.hid hap
      have HAB := Lib.hid hAB
      have hdt : dtV g.data.toList (N : Int) = (K : Int) := by
        rw [dtV, if_pos ⟨(gck_iff _).2 hgen, by omega, by omega, by omega⟩, hK]; omega
      have hdE : dtE g.data.toList (N : Int) = 0 := by
        rw [dtE, if_pos ((gck_iff _).2 hgen), if_pos (by omega), if_pos (by omega)]
      have HDT := Lib.hid (show dtV g.data.toList (N : Int) = (K : Int) ∧ dtE g.data.toList (N : Int) = 0 from ⟨hdt, hdE⟩)
      have hd1 : decide ((N : Int) < (K : Int)) = false := by simp; omega
      have hd1' : decide (N < K) = false := by simp; omega
      have hmin : min (N : Int) (K : Int) = (K : Int) := by omega
      have hmin' : min N K = K := by omega
      have hd5 : decide ((g.size : Int) ≤ (K : Int)) = false := by simp; omega
      have hd5' : decide (g.size ≤ K) = false := by simp; omega
      obtain ⟨B0, hB0⟩ : ∃ B0, T2 % K = B0 := ⟨_, rfl⟩
      have hB0i : ((T2 : Int)).tmod (K : Int) = (B0 : Int) := by rw [Int.tmod_eq_emod_of_nonneg (by omega), ← hB0, Int.natCast_emod]
      have hB0l : B0 < K := by rw [← hB0]; exact Nat.mod_lt _ (by omega)
      obtain ⟨B, hBe⟩ : ∃ B, B0 + 1 = B := ⟨_, rfl⟩
      have hBi : (B0 : Int) + 1 = (B : Int) := by omega
      have hBK : B ≤ K := by omega
      have hB1 : 0 < B := by omega
      obtain ⟨E, hE⟩ : ∃ E, N - B = E := ⟨_, rfl⟩
      have hEi : (N : Int) - (B : Int) = (E : Int) := by omega
      obtain ⟨E1, hE1⟩ : ∃ E1, E + 1 = E1 := ⟨_, rfl⟩
      have hE1i : (E : Int) + 1 = (E1 : Int) := by omega
      have hE11 : 1 ≤ E1 := by omega
      obtain ⟨I, hI⟩ : ∃ I, T1 % E1 = I := ⟨_, rfl⟩
      have hIi : ((T1 : Int)).tmod (E1 : Int) = (I : Int) := by rw [Int.tmod_eq_emod_of_nonneg (by omega), ← hI, Int.natCast_emod]
      have hIE : I < E1 := by rw [← hI]; exact Nat.mod_lt _ (by omega)
      have hIB : I + B ≤ N := by omega
      obtain ⟨BU, hBU⟩ : ∃ BU : ByteArray, (⟨(bu N I B v.data.toList).toArray⟩ : ByteArray) = BU := ⟨_, rfl⟩
      have hBUd : BU.data.toList = bu N I B v.data.toList := by rw [← hBU]
      have hBUl : BU.data.toList.length = N := by rw [hBUd, bu_len _ (by omega)]
      have hBUs : BU.size = N := hBUl
      have hBUb : BU.data.toList.all isB = true := by rw [hBUd]; exact bu_bin _ _ _ _
      have hxl : (xr AB.data.toList BU.data.toList).length ≤ 65536 := by rw [xr_len]; omega
      have hdX : dck g.data.toList (xr AB.data.toList BU.data.toList) = 0 := dck_gen hgen hxl (xr_bin _ _)
      have hvX := vf_xr hgen hvf (by omega) (by omega) hAb hBUb
      have hkey : vfB g.data.toList (xr AB.data.toList BU.data.toList) = false := by
        rw [Bool.eq_false_iff, Ne, hvX, hBUd]
        exact burst_bad hgen _ hB1 (by omega)
      have HKEY := Lib.hid hkey
      have HDX := Lib.hid hdX
      have HBUR := Lib.hid (fun w => burst_any N I B v w hIB (by omega) (by omega))
      have HBU := Lib.hid hBU
      have HXR := Lib.hid (fun w => Xor_any AB BU w (by omega) (by omega))
      clear hkey hdX hvX hBU hBUd hBUl hBUs hBUb hxl hdt hdE hA hAB hap hB0 hBe hE hE1 hI
      by_cases hge : g.size ≤ N
      · have hd6 : decide ((g.size : Int) ≤ (N : Int)) = true := by simp; omega
        have hd6' : decide (g.size ≤ N) = true := by simp; omega
        obtain ⟨ZN, hZN⟩ : ∃ ZN, N - g.size = ZN := ⟨_, rfl⟩
        have hZi : (N : Int) - (g.size : Int) = (ZN : Int) := by omega
        have hwb : (List.replicate ZN 48 ++ g.data.toList).all isB = true := by rw [List.all_append, rep48_bin, hgen.bin]; rfl
        have hwl : (List.replicate ZN (48 : UInt8) ++ g.data.toList).length = N := by rw [List.length_append, List.length_replicate]; omega
        have hlast : vfB g.data.toList (xr AB.data.toList (List.replicate ZN 48 ++ g.data.toList)) = true := by
          rw [vf_xr hgen hvf (by omega) (by omega) hAb hwb, vl_zeros]; exact dv_self _
        have hld : dck g.data.toList (xr AB.data.toList (List.replicate ZN 48 ++ g.data.toList)) = 0 := dck_gen hgen (by rw [xr_len]; omega) (xr_bin _ _)
        have HL := Lib.hid (show _ ∧ _ from ⟨hlast, hld⟩)
        have hov : ¬ 9223372036854775807 < ZN + g.size := by omega
        clear hlast hld hwb hwl hvf hABd hAb hAl hgen hsb hK hN hZN
        go_enter Tryd.func7, Tryd.ntmps7
        go_wp2_with fail
        refine (generator_any _ _).mono ?_
        rintro e x1 ⟨rfl, rfl⟩
        rw [HG0.out]
        go_wp2_with fail
        refine (binary_any 40 _ 2 [s, v] _ (srow_new _ _ [s, v]) (by simp)).mono ?_
        rintro e x1 ⟨rfl, h1⟩
        rw [HB.out]
        have H1 := Lib.hid ((below_new w _).trans (h1.mono (below_new w _).size)); clear h1
        go_wp2_with fail
        refine (Append_any _ _ _).mono ?_
        rintro e x2 ⟨rfl, h2⟩
        rw [HAP.out.1, HAP.out.2, HAB.out]
        have H2 := Lib.hid (H1.out.trans (h2.mono H1.out.size)); clear h2
        go_wp2_with fail
        refine (Detects_any _ _ _).mono ?_
        rintro e x3 ⟨rfl, h3⟩
        rw [HDT.out.1, HDT.out.2]
        have H3 := Lib.hid (H2.out.trans (h3.mono H2.out.size)); clear h3
        go_wp2_with fail
        refine (Tryd.strings_Repeat ⟨#[48]⟩ ZN _ (by omega) (by simp [ByteArray.size]; omega)).mono ?_
        rintro e x4 ⟨rfl, h4⟩
        rw [show Lib.repeatL (⟨#[48]⟩ : ByteArray).data.toList ZN = List.replicate ZN 48 from repeatL_one 48 ZN]
        have H4 := Lib.hid (H3.out.trans (h4.mono H3.out.size)); clear h4
        obtain ⟨Z, hZ⟩ : ∃ Z : ByteArray, (⟨(List.replicate ZN (48 : UInt8)).toArray⟩ : ByteArray) = Z := ⟨_, rfl⟩
        rw [hZ]
        have HZ := Lib.hid (show Z.data.toList = List.replicate ZN 48 by rw [← hZ])
        have hzs : Z.size = ZN := by rw [← hZ]; simp [ByteArray.size]
        clear hZ
        have HZG := Lib.hid (show (Z ++ g).data.toList = List.replicate ZN 48 ++ g.data.toList by rw [Go.Joins.data_append, HZ.out])
        have HXZ := Lib.hid (fun w => Xor_any AB (Z ++ g) w (by rw [ByteArray.size_append]; omega) (by rw [ByteArray.size_append]; omega))
        go_wp2_with fail
        refine (HXZ.out _).mono ?_
        rintro e x5 ⟨rfl, h5⟩
        rw [HZG.out]
        have H5 := Lib.hid (H4.out.trans (h5.mono H4.out.size)); clear h5
        go_wp2_with fail
        refine (Verify_any _ _ _).mono ?_
        rintro e x6 ⟨rfl, h6⟩
        rw [HL.out.1, HL.out.2]
        have H6 := Lib.hid (H5.out.trans (h6.mono H5.out.size)); clear h6
        go_wp2_with fail
        refine (HBUR.out _).mono ?_
        rintro e x7 ⟨rfl, h7⟩
        rw [HBU.out]
        have H7 := Lib.hid (H6.out.trans (h7.mono H6.out.size)); clear h7
        go_wp2_with fail
        refine (HXR.out _).mono ?_
        rintro e x8 ⟨rfl, h8⟩
        have H8 := Lib.hid (H7.out.trans (h8.mono H7.out.size)); clear h8
        go_wp2_with fail
        refine (Verify_any _ _ _).mono ?_
        rintro e x9 ⟨rfl, h9⟩
        rw [HKEY.out, HDX.out]
        have H9 := Lib.hid (H8.out.trans (h9.mono H8.out.size)); clear h9
        go_wp2_with fail
        refine (awake_any _).mono ?_
        rintro e x10 ⟨rfl, h10⟩
        have H10 := Lib.hid (H9.out.trans (h10.mono H9.out.size)); clear h10
        go_wp2_with fail
        go_ret
        exact ⟨rfl, H10.out⟩
      · have hd6 : decide ((g.size : Int) ≤ (N : Int)) = false := by simp; omega
        have hd6' : decide (g.size ≤ N) = false := by simp; omega
        clear hvf hABd hAb hAl hgen hsb hK hN
        go_enter Tryd.func7, Tryd.ntmps7
        go_wp2_with fail
        refine (generator_any _ _).mono ?_
        rintro e x1 ⟨rfl, rfl⟩
        rw [HG0.out]
        go_wp2_with fail
        refine (binary_any 40 _ 2 [s, v] _ (srow_new _ _ [s, v]) (by simp)).mono ?_
        rintro e x1 ⟨rfl, h1⟩
        rw [HB.out]
        have H1 := Lib.hid ((below_new w _).trans (h1.mono (below_new w _).size)); clear h1
        go_wp2_with fail
        refine (Append_any _ _ _).mono ?_
        rintro e x2 ⟨rfl, h2⟩
        rw [HAP.out.1, HAP.out.2, HAB.out]
        have H2 := Lib.hid (H1.out.trans (h2.mono H1.out.size)); clear h2
        go_wp2_with fail
        refine (Detects_any _ _ _).mono ?_
        rintro e x3 ⟨rfl, h3⟩
        rw [HDT.out.1, HDT.out.2]
        have H3 := Lib.hid (H2.out.trans (h3.mono H2.out.size)); clear h3
        go_wp2_with fail
        refine (HBUR.out _).mono ?_
        rintro e x4 ⟨rfl, h4⟩
        rw [HBU.out]
        have H4 := Lib.hid (H3.out.trans (h4.mono H3.out.size)); clear h4
        go_wp2_with fail
        refine (HXR.out _).mono ?_
        rintro e x5 ⟨rfl, h5⟩
        have H5 := Lib.hid (H4.out.trans (h5.mono H4.out.size)); clear h5
        go_wp2_with fail
        refine (Verify_any _ _ _).mono ?_
        rintro e x6 ⟨rfl, h6⟩
        rw [HKEY.out, HDX.out]
        have H6 := Lib.hid (H5.out.trans (h6.mono H5.out.size)); clear h6
        go_wp2_with fail
        refine (awake_any _).mono ?_
        rintro e x7 ⟨rfl, h7⟩
        have H7 := Lib.hid (H6.out.trans (h7.mono H6.out.size)); clear h7
        go_wp2_with fail
        go_ret
        exact ⟨rfl, H7.out⟩
end Go.Proofs.YtahfmeopecmpmaaDoor
