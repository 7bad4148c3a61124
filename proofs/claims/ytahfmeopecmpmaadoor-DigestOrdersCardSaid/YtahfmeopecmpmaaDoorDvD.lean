/-
  The law of two changed letters.
-/
import Derived.Test.YtahfmeopecmpmaaDoorDvC
namespace Go.Proofs.YtahfmeopecmpmaaDoor
open Go.RowKit

set_option maxHeartbeats 2000000 in
set_option maxRecDepth 100000 in
theorem law_digestOrders (g s : ByteArray) (z1 z2 : Int) (_w0 : g.size ≤ maxLen) (_w1 : s.size ≤ maxLen) (w2 : (Lit.int .u8 z1).wf = true) (w3 : (Lit.int .u8 z2).wf = true) (w : World) (_hsh : w.ShapedOpen Tryd.prog) :
    Calls Tryd.prog 8 #[.string g, .string s, .int .u8 z1, .int .u8 z2] w fun e w' => e = .returned (.bool true) ∧ Below w.heap.size w w' := by
  simp [Lit.wf, IntKind.min, IntKind.max, IntKind.signed, IntKind.bits] at w2 w3
  obtain ⟨T1, rfl⟩ : ∃ n : Nat, z1 = n := ⟨z1.toNat, by omega⟩
  obtain ⟨T2, rfl⟩ : ∃ n : Nat, z2 = n := ⟨z2.toNat, by omega⟩
  cases hgt0 : genT g.data.toList with
  | false =>
    have HG0 := Lib.hid hgt0; clear hgt0
    go_enter Tryd.func8, Tryd.ntmps8
    go_wp2_with fail
    refine (generator_any _ _).mono ?_
    rintro e x1 ⟨rfl, rfl⟩
    rw [HG0.out]
    go_wp2_with fail
    refine (awake_any _).mono ?_
    rintro e x2 ⟨rfl, h2⟩
    have H2 := Lib.hid h2; clear h2
    go_wp2_with fail
    go_ret
    exact ⟨rfl, H2.out⟩
  | true =>
    have HG0 := Lib.hid hgt0
    cases hbt : bnA 40 [s] with
    | false =>
      have HB := Lib.hid hbt; clear hbt
      go_enter Tryd.func8, Tryd.ntmps8
      go_wp2_with fail
      refine (generator_any _ _).mono ?_
      rintro e x1 ⟨rfl, rfl⟩
      rw [HG0.out]
      go_wp2_with fail
      refine (binary_any 40 _ 1 [s] _ (srow_new _ _ [s]) (by simp)).mono ?_
      rintro e x1 ⟨rfl, h1⟩
      rw [HB.out]
      have H1 := Lib.hid ((below_new w _).trans (h1.mono (below_new w _).size)); clear h1
      go_wp2_with fail
      refine (awake_any _).mono ?_
      rintro e x2 ⟨rfl, h2⟩
      have H2 := Lib.hid (H1.out.trans (h2.mono H1.out.size)); clear h2
      go_wp2_with fail
      go_ret
      exact ⟨rfl, H2.out⟩
    | true =>
      have hs1 := bnA_one hbt
      obtain ⟨hsl, hsb⟩ := (bnT_iff (by omega)).1 hs1
      obtain ⟨hgen, hgl⟩ := genT_iff hgt0
      have HB := Lib.hid hbt; clear hbt hgt0 hs1
      have hlo := hgen.lo
      have e0 : g.data.toList.length = g.size := rfl
      have e1 : s.data.toList.length = s.size := rfl
      obtain ⟨K, hK⟩ : ∃ K, deg g.data.toList = K := ⟨_, rfl⟩
      have hK1 : K + 1 = g.size := by rw [← hK]; unfold deg; omega
      have hKp : 1 ≤ K := by omega
      have hdg : (g.size : Int) - 1 = (K : Int) := by omega
      have hK30 : K ≤ 11 := by omega
      have hap := ap_ok hgen (w := s.data.toList) (by omega) hsb
      have hvf := vf_sum hgen (w := s.data.toList) (by omega) hsb
      obtain ⟨A, hA⟩ : ∃ A, s.data.toList ++ smV g.data.toList s.data.toList = A := ⟨_, rfl⟩
      have hAb : A.all isB = true := by rw [← hA, List.all_append, hsb, smV_bin]; rfl
      have hAl : A.length = s.size + K := by rw [← hA, List.length_append, smV_len, hK, e1]
      rw [hA] at hap hvf
      obtain ⟨AB, hAB⟩ : ∃ AB : ByteArray, (⟨A.toArray⟩ : ByteArray) = AB := ⟨_, rfl⟩
      have hABd : AB.data.toList = A := by rw [← hAB]
      obtain ⟨N, hN⟩ : ∃ N, s.size + K = N := ⟨_, rfl⟩
      rw [hN] at hAl
      have hABs : AB.size = N := by rw [← hAB, ba_len, hAl]
      rw [← hABd] at hvf hAb hAl
      have hNK : K ≤ N := by omega
      have hN51 : N ≤ 51 := by omega
      have hN1 : 1 ≤ N := by omega
      have hd60 : decide ((60 : Int) < (N : Int)) = false := by simp; omega
      have HAP := Lib.hid hap
      have HAB := Lib.hid hAB
      obtain ⟨hoE, hoV, hod⟩ := ord_ok hgen (by omega)
      obtain ⟨O, hO⟩ : ∃ O, orV g.data.toList = O := ⟨_, rfl⟩
      rw [hO] at hoV hod
      have HO := Lib.hid (show orV g.data.toList = O ∧ orE g.data.toList = 0 from ⟨hO, hoE⟩)
      have hd1 : decide ((O : Int) < 1) = false := by simp; omega
      have hd2 : decide ((N : Int) < 1) = false := by simp; omega
      have hd2' : decide (N < 1) = false := by simp; omega
      clear hO hoE hA hAB hap e0 e1
      by_cases h2 : N < 2
      · have hd3 : decide ((N : Int) < 2) = true := by simp; omega
        clear hod hvf hABd hAb hAl hgen hsb hK
        go_enter Tryd.func8, Tryd.ntmps8
        go_wp2_with fail
        refine (generator_any _ _).mono ?_
        rintro e x1 ⟨rfl, rfl⟩
        rw [HG0.out]
        go_wp2_with fail
        refine (binary_any 40 _ 1 [s] _ (srow_new _ _ [s]) (by simp)).mono ?_
        rintro e x1 ⟨rfl, h1⟩
        rw [HB.out]
        have H1 := Lib.hid ((below_new w _).trans (h1.mono (below_new w _).size)); clear h1
        go_wp2_with fail
        refine (Append_any _ _ _).mono ?_
        rintro e x2 ⟨rfl, h2⟩
        rw [HAP.out.1, HAP.out.2, HAB.out]
        have H2 := Lib.hid (H1.out.trans (h2.mono H1.out.size)); clear h2
        go_wp2_with fail
        refine (Order_any _ _).mono ?_
        rintro e x3 ⟨rfl, h3⟩
        rw [HO.out.1, HO.out.2]
        have H3 := Lib.hid (H2.out.trans (h3.mono H2.out.size)); clear h3
        go_wp2_with fail
        refine (awake_any _).mono ?_
        rintro e x4 ⟨rfl, h4⟩
        have H4 := Lib.hid (H3.out.trans (h4.mono H3.out.size)); clear h4
        go_wp2_with fail
        go_ret
        exact ⟨rfl, H4.out⟩
      · have hd3 : decide ((N : Int) < 2) = false := by simp; omega
        obtain ⟨M, hM⟩ : ∃ M, N = M + 1 := ⟨N - 1, by omega⟩
        have hMi : (N : Int) - 1 = (M : Int) := by omega
        obtain ⟨D0, hD0⟩ : ∃ D0, T2 % M = D0 := ⟨_, rfl⟩
        have hD0i : ((T2 : Int)).tmod (M : Int) = (D0 : Int) := by rw [Int.tmod_eq_emod_of_nonneg (by omega), ← hD0, Int.natCast_emod]
        have hD0l : D0 < M := by rw [← hD0]; exact Nat.mod_lt _ (by omega)
        obtain ⟨D, hD⟩ : ∃ D, D0 + 1 = D := ⟨_, rfl⟩
        have hDi : (D0 : Int) + 1 = (D : Int) := by omega
        have hDN : D < N := by omega
        have hD1 : 1 ≤ D := by omega
        obtain ⟨E, hE⟩ : ∃ E, N - D = E := ⟨_, rfl⟩
        have hEi : (N : Int) - (D : Int) = (E : Int) := by omega
        have hE1 : 1 ≤ E := by omega
        obtain ⟨I, hI⟩ : ∃ I, T1 % E = I := ⟨_, rfl⟩
        have hIi : ((T1 : Int)).tmod (E : Int) = (I : Int) := by rw [Int.tmod_eq_emod_of_nonneg (by omega), ← hI, Int.natCast_emod]
        have hIE : I < E := by rw [← hI]; exact Nat.mod_lt _ (by omega)
        obtain ⟨D1, hDD⟩ : ∃ D1, D + 1 = D1 := ⟨_, rfl⟩
        have hDDi : (D : Int) + 1 = (D1 : Int) := by omega
        obtain ⟨BU, hBU⟩ : ∃ BU : ByteArray, (⟨(bu N I D1 []).toArray⟩ : ByteArray) = BU := ⟨_, rfl⟩
        have hBUd : BU.data.toList = bu N I D1 [] := by rw [← hBU]
        have hBUl : BU.data.toList.length = N := by rw [hBUd, bu_len _ (by omega)]
        have hBUs : BU.size = N := hBUl
        have hBUb : BU.data.toList.all isB = true := by rw [hBUd]; exact bu_bin _ _ _ _
        have hxl : (xr AB.data.toList BU.data.toList).length ≤ 65536 := by rw [xr_len]; omega
        have hdX : dck g.data.toList (xr AB.data.toList BU.data.toList) = 0 := dck_gen hgen hxl (xr_bin _ _)
        have hvX := vf_xr hgen hvf (by omega) (by omega) hAb hBUb
        have hkey : vfB g.data.toList (xr AB.data.toList BU.data.toList) = decide (D % O = 0) := by
          rw [Bool.eq_iff_iff, hvX, decide_eq_true_eq, hBUd, vl_bu, dv_pow hgen.odd, ← hDD, vl_two D hD1]
          exact hod D
        have hDOi : ((D : Int)).tmod (O : Int) = ((D % O : Nat) : Int) := by rw [Int.tmod_eq_emod_of_nonneg (by omega), Int.natCast_emod]
        obtain ⟨b, hb⟩ : ∃ b, decide (D % O = 0) = b := ⟨_, rfl⟩
        have hDO : (((D : Int)).tmod (O : Int) == 0) = b := by
          rw [← hb, hDOi, Bool.eq_iff_iff, beq_iff_eq, decide_eq_true_eq]; omega
        have hDO2 : (((D : Int)) % (O : Int) == 0) = b := by
          rw [← hb, Bool.eq_iff_iff, beq_iff_eq, decide_eq_true_eq, ← Int.natCast_emod]; omega
        rw [hb] at hkey
        have HKEY := Lib.hid hkey
        have HDX := Lib.hid hdX
        have HBUR := Lib.hid (fun w => burst_any N I D1 ⟨#[]⟩ w (by omega) (by omega) (by simp [ByteArray.size]))
        have HBU : Hid ((⟨(bu N I D1 (⟨#[]⟩ : ByteArray).data.toList).toArray⟩ : ByteArray) = BU) := Lib.hid hBU
        have HXR := Lib.hid (fun w => Xor_any AB BU w (by omega) (by omega))
        clear hkey hdX hvX hDOi hb hBU hBUd hBUl hBUs hBUb hxl hod hvf hABd hAb hAl hgen hsb hK hM hD0 hD hE hI hDD hN
        go_enter Tryd.func8, Tryd.ntmps8
        go_wp2_with fail
        refine (generator_any _ _).mono ?_
        rintro e x1 ⟨rfl, rfl⟩
        rw [HG0.out]
        go_wp2_with fail
        refine (binary_any 40 _ 1 [s] _ (srow_new _ _ [s]) (by simp)).mono ?_
        rintro e x1 ⟨rfl, h1⟩
        rw [HB.out]
        have H1 := Lib.hid ((below_new w _).trans (h1.mono (below_new w _).size)); clear h1
        go_wp2_with fail
        refine (Append_any _ _ _).mono ?_
        rintro e x2 ⟨rfl, h2⟩
        rw [HAP.out.1, HAP.out.2, HAB.out]
        have H2 := Lib.hid (H1.out.trans (h2.mono H1.out.size)); clear h2
        go_wp2_with fail
        refine (Order_any _ _).mono ?_
        rintro e x3 ⟨rfl, h3⟩
        rw [HO.out.1, HO.out.2]
        have H3 := Lib.hid (H2.out.trans (h3.mono H2.out.size)); clear h3
        go_wp2_with fail
        refine (HBUR.out _).mono ?_
        rintro e x4 ⟨rfl, h4⟩
        rw [HBU.out]
        have H4 := Lib.hid (H3.out.trans (h4.mono H3.out.size)); clear h4
        go_wp2_with fail
        refine (HXR.out _).mono ?_
        rintro e x5 ⟨rfl, h5⟩
        have H5 := Lib.hid (H4.out.trans (h5.mono H4.out.size)); clear h5
        go_wp2_with fail
        refine (Verify_any _ _ _).mono ?_
        rintro e x6 ⟨rfl, h6⟩
        rw [HKEY.out, HDX.out]
        have H6 := Lib.hid (H5.out.trans (h6.mono H5.out.size)); clear h6
        go_wp2_with fail
        refine (awake_any _).mono ?_
        rintro e x7 ⟨rfl, h7⟩
        have H7 := Lib.hid (H6.out.trans (h7.mono H6.out.size)); clear h7
        go_wp2_with fail
        go_ret
        exact ⟨rfl, H7.out⟩
end Go.Proofs.YtahfmeopecmpmaaDoor
