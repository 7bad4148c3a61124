/-
  The law of the digests of sums.
-/
import Derived.Test.YtahfmeopecmpmaaDoorDvA
namespace Go.Proofs.YtahfmeopecmpmaaDoor
open Go.RowKit

set_option maxHeartbeats 2000000 in
set_option maxRecDepth 100000 in
theorem law_digestLinear (g s v : ByteArray) (z : Int) (_w0 : g.size ≤ maxLen) (_w1 : s.size ≤ maxLen) (_w2 : v.size ≤ maxLen) (w3 : (Lit.int .u8 z).wf = true) (w : World) (_hsh : w.ShapedOpen Tryd.prog) :
    Calls Tryd.prog 4 #[.string g, .string s, .string v, .int .u8 z] w fun e w' => e = .returned (.bool true) ∧ Below w.heap.size w w' := by
  simp [Lit.wf, IntKind.min, IntKind.max, IntKind.signed, IntKind.bits] at w3
  obtain ⟨T, rfl⟩ : ∃ n : Nat, z = n := ⟨z.toNat, by omega⟩
  cases hgt0 : genT g.data.toList with
  | false =>
    have HG0 := Lib.hid hgt0; clear hgt0
    go_enter Tryd.func4, Tryd.ntmps4
    go_wp2_with fail
    refine (generator_any _ _).mono ?_
    rintro e x1 ⟨rfl, rfl⟩
    rw [HG0.out]
    go_wp2_with fail
    refine (awake_any _).mono ?_
    rintro e x2 ⟨rfl, h2⟩
    have H2 := Lib.hid h2; clear h2
    go_wp2_with fail
    go_ret
    exact ⟨rfl, H2.out⟩
  | true =>
    have HG0 := Lib.hid hgt0
    cases hbt : bnA 40 [s, v] with
    | false =>
      have HB := Lib.hid hbt; clear hbt
      go_enter Tryd.func4, Tryd.ntmps4
      go_wp2_with fail
      refine (generator_any _ _).mono ?_
      rintro e x1 ⟨rfl, rfl⟩
      rw [HG0.out]
      go_wp2_with fail
      refine (binary_any 40 _ 2 [s, v] _ (srow_new _ _ [s, v]) (by simp)).mono ?_
      rintro e x1 ⟨rfl, h1⟩
      rw [HB.out]
      have H1 := Lib.hid ((below_new w _).trans (h1.mono (below_new w _).size)); clear h1
      go_wp2_with fail
      refine (awake_any _).mono ?_
      rintro e x2 ⟨rfl, h2⟩
      have H2 := Lib.hid (H1.out.trans (h2.mono H1.out.size)); clear h2
      go_wp2_with fail
      go_ret
      exact ⟨rfl, H2.out⟩
    | true =>
      obtain ⟨hs1, ho1⟩ := bnA_two hbt
      obtain ⟨hsl, hsb⟩ := (bnT_iff (by omega)).1 hs1
      obtain ⟨hol, hob⟩ := (bnT_iff (by omega)).1 ho1
      obtain ⟨hgen, hgl⟩ := genT_iff hgt0
      have HB := Lib.hid hbt; clear hbt hgt0 hs1 ho1
      have hlo := hgen.lo
      have e0 : g.data.toList.length = g.size := rfl
      have e1 : s.data.toList.length = s.size := rfl
      have e2 : v.data.toList.length = v.size := rfl
      obtain ⟨K, hK⟩ : ∃ K, deg g.data.toList = K := ⟨_, rfl⟩
      have hK1 : K + 1 = g.size := by rw [← hK]; unfold deg; omega
      have hdg : (g.size : Int) - 1 = (K : Int) := by omega
      have hK30 : K ≤ 30 := by omega
      obtain ⟨N, hN⟩ : ∃ N, min s.size v.size = N := ⟨_, rfl⟩
      have hNi : min (s.size : Int) (v.size : Int) = (N : Int) := by omega
      have hN1 : N ≤ s.size := by omega
      have hN2 : N ≤ v.size := by omega
      have hN3 : N ≤ 40 := by omega
      have hex1 : (s.extract 0 N).data.toList = s.data.toList.take N := Lib.extract_from_zero s N
      have hex2 : (v.extract 0 N).data.toList = v.data.toList.take N := Lib.extract_from_zero v N
      obtain ⟨A, hA⟩ : ∃ A, s.extract 0 N = A := ⟨_, rfl⟩
      obtain ⟨B, hB⟩ : ∃ B, v.extract 0 N = B := ⟨_, rfl⟩
      rw [hA] at hex1
      rw [hB] at hex2
      have hAl : A.data.toList.length = N := by rw [hex1, List.length_take]; omega
      have hBl : B.data.toList.length = N := by rw [hex2, List.length_take]; omega
      have hAb : A.data.toList.all isB = true := by rw [hex1]; exact take_bin _ hsb
      have hBb : B.data.toList.all isB = true := by rw [hex2]; exact take_bin _ hob
      have hAs : A.size = N := hAl
      have hBs : B.size = N := hBl
      obtain ⟨U, hU⟩ : ∃ U, smV g.data.toList A.data.toList = U := ⟨_, rfl⟩
      obtain ⟨V, hV⟩ : ∃ V, smV g.data.toList B.data.toList = V := ⟨_, rfl⟩
      have hUl : U.length = K := by rw [← hU, smV_len, hK]
      have hVl : V.length = K := by rw [← hV, smV_len, hK]
      have hS1 : smO g.data.toList A.data.toList = U ∧ dck g.data.toList A.data.toList = 0 := ⟨by rw [sm_ok hgen (by omega) hAb, hU], dck_gen hgen (by omega) hAb⟩
      have hS2 : smO g.data.toList B.data.toList = V ∧ dck g.data.toList B.data.toList = 0 := ⟨by rw [sm_ok hgen (by omega) hBb, hV], dck_gen hgen (by omega) hBb⟩
      have hXl : (xr A.data.toList B.data.toList).length = N := by rw [xr_len, hAl, hBl, Nat.min_self]
      have hS3 : smO g.data.toList (xr A.data.toList B.data.toList) = xr U V ∧ dck g.data.toList (xr A.data.toList B.data.toList) = 0 :=
        ⟨by rw [sm_ok hgen (by omega) (xr_bin _ _), sm_xr hgen (by omega) hAb hBb, hU, hV], dck_gen hgen (by omega) (xr_bin _ _)⟩
      obtain ⟨Q, hQ⟩ : ∃ Q, T % 20 = Q := ⟨_, rfl⟩
      have hQi : ((T : Int)).tmod 20 = (Q : Int) := by rw [Int.tmod_eq_emod_of_nonneg (by omega)]; omega
      have hQ20 : Q < 20 := by omega
      have HQ64 := Lib.hid (show (wrap64 (T : Int)).tmod 20 = (Q : Int) by rw [IntWalk.wrap64_in _ (by omega)]; exact hQi)
      have HQW := Lib.hid (show (IntKind.i64.wrap (T : Int)).tmod 20 = (Q : Int) by rw [IntWalk.i64_in _ (by omega)]; exact hQi)
      have hQb : (List.replicate Q 48 ++ A.data.toList).all isB = true := by rw [List.all_append, rep48_bin, hAb]; rfl
      have hQl : (List.replicate Q 48 ++ A.data.toList).length ≤ 65536 := by rw [List.length_append, List.length_replicate]; omega
      have hS4 : smO g.data.toList (List.replicate Q 48 ++ A.data.toList) = U ∧ dck g.data.toList (List.replicate Q 48 ++ A.data.toList) = 0 :=
        ⟨by rw [sm_ok hgen hQl hQb, sm_zeros hgen, hU], dck_gen hgen hQl hQb⟩
      have hS5 : smO g.data.toList (List.replicate Q 48) = List.replicate K 48 ∧ dck g.data.toList (List.replicate Q 48) = 0 :=
        ⟨by rw [sm_ok hgen (by rw [List.length_replicate]; omega) (rep48_bin _), sm_none hgen, hK], dck_gen hgen (by rw [List.length_replicate]; omega) (rep48_bin _)⟩
      obtain ⟨ZK, hZK⟩ : ∃ ZK : ByteArray, (⟨(List.replicate K (48 : UInt8)).toArray⟩ : ByteArray) = ZK := ⟨_, rfl⟩
      have HZK := Lib.hid hZK; clear hZK
      have HS1 := Lib.hid hS1
      have HS2 := Lib.hid hS2
      have HS3 := Lib.hid hS3
      have HS4 := Lib.hid hS4
      have HS5 := Lib.hid hS5
      have HX1 := Lib.hid (fun w => Xor_any A B w (by omega) (by omega))
      have HX2 := Lib.hid (fun w => Xor_any (⟨U.toArray⟩ : ByteArray) (⟨V.toArray⟩ : ByteArray) w (by rw [ba_len, ba_len]; omega) (by rw [ba_len]; omega))
      have hov : ¬ 9223372036854775807 < Q + A.size := by omega
      have hov2 : ¬ 9223372036854775807 < Q + N := by omega
      have HHA := Lib.hid hA
      have HHB := Lib.hid hB
      clear hS1 hS2 hS3 hS4 hS5 hQb hQl hQ hXl hU hV hUl hVl hAb hBb hAl hBl hex1 hex2 hN hgen hsb hob e0 e1 e2 hK hAs hBs w3
      go_enter Tryd.func4, Tryd.ntmps4
      go_wp2_with fail
      refine (generator_any _ _).mono ?_
      rintro e x1 ⟨rfl, rfl⟩
      rw [HG0.out]
      go_wp2_with fail
      refine (binary_any 40 _ 2 [s, v] _ (srow_new _ _ [s, v]) (by simp)).mono ?_
      rintro e x1 ⟨rfl, h1⟩
      rw [HB.out]
      have H1 := Lib.hid ((below_new w _).trans (h1.mono (below_new w _).size)); clear h1
      go_wp2_with fail
      refine (Sum_any _ _ _).mono ?_
      rintro e x2 ⟨rfl, h2⟩
      rw [HS1.out.1, HS1.out.2]
      have H2 := Lib.hid (H1.out.trans (h2.mono H1.out.size)); clear h2
      go_wp2_with fail
      refine (Sum_any _ _ _).mono ?_
      rintro e x3 ⟨rfl, h3⟩
      rw [HS2.out.1, HS2.out.2]
      have H3 := Lib.hid (H2.out.trans (h3.mono H2.out.size)); clear h3
      go_wp2_with fail
      go_region_with first | (go_at_call 23; refine (HX1.out _).mono ?_; rintro e x4 ⟨rfl, h4⟩) | (go_at_call 13; refine (Sum_any _ _ _).mono ?_; rintro e x5 ⟨rfl, h5⟩; rw [HS3.out.1, HS3.out.2])
      have H4 := Lib.hid (H3.out.trans ((show Below x3.heap.size x3 x4 from ⟨h4.os, h4.tape, h4.output, h4.size, h4.block⟩).mono H3.out.size)); clear h4
      have H5 := Lib.hid (H4.out.trans ((show Below x4.heap.size x4 x5 from ⟨h5.os, h5.tape, h5.output, h5.size, h5.block⟩).mono H4.out.size)); clear h5
      go_wp2_with fail
      go_region_with first | (go_at_call 24; rw [HQW.out]; refine (Tryd.strings_Repeat ⟨#[48]⟩ Q _ (by omega) (by simp [ByteArray.size]; omega)).mono ?_; rintro e x6 ⟨rfl, h6⟩; rw [show Lib.repeatL (⟨#[48]⟩ : ByteArray).data.toList Q = List.replicate Q 48 from repeatL_one 48 Q]; obtain ⟨Z, hZ⟩ : ∃ Z : ByteArray, (⟨(List.replicate Q (48 : UInt8)).toArray⟩ : ByteArray) = Z := ⟨_, rfl⟩; rw [hZ]; have HZ := Lib.hid (show Z.data.toList = List.replicate Q 48 by rw [← hZ]); have hZs : Z.size = Q := (by rw [← hZ]; simp [ByteArray.size]); clear hZ) | (go_at_call 13; refine (Sum_any _ _ _).mono ?_; rintro e x7 ⟨rfl, h7⟩)
      have H6 := Lib.hid (H5.out.trans ((show Below x5.heap.size x5 x6 from ⟨h6.os, h6.tape, h6.output, h6.size, h6.block⟩).mono H5.out.size)); clear h6
      have H7 := Lib.hid (H6.out.trans ((show Below x6.heap.size x6 x7 from ⟨h7.os, h7.tape, h7.output, h7.size, h7.block⟩).mono H6.out.size)); clear h7
      rw [HZ.out, HS4.out.1, HS4.out.2]
      go_wp2_with fail
      rw [HQ64.out]
      refine (Tryd.strings_Repeat ⟨#[48]⟩ Q _ (by omega) (by simp [ByteArray.size]; omega)).mono ?_
      rintro e x8 ⟨rfl, h8⟩
      rw [show Lib.repeatL (⟨#[48]⟩ : ByteArray).data.toList Q = List.replicate Q 48 from repeatL_one 48 Q]
      have H8 := Lib.hid (H7.out.trans (h8.mono H7.out.size)); clear h8
      obtain ⟨Y, hY⟩ : ∃ Y : ByteArray, (⟨(List.replicate Q (48 : UInt8)).toArray⟩ : ByteArray) = Y := ⟨_, rfl⟩
      rw [hY]
      have HY := Lib.hid (show Y.data.toList = List.replicate Q 48 by rw [← hY])
      have hys : Y.size = Q := by rw [← hY]; simp [ByteArray.size]
      clear hY
      go_wp2_with fail
      refine (Sum_any _ _ _).mono ?_
      rintro e x9 ⟨rfl, h9⟩
      rw [HY.out, HS5.out.1, HS5.out.2, HZK.out]
      have H9 := Lib.hid (H8.out.trans (h9.mono H8.out.size)); clear h9
      go_wp2_with fail
      refine (HX2.out _).mono ?_
      rintro e x10 ⟨rfl, h10⟩
      have H10 := Lib.hid (H9.out.trans (h10.mono H9.out.size)); clear h10
      go_wp2_with fail
      refine (Tryd.strings_Repeat ⟨#[48]⟩ K _ (by omega) (by simp [ByteArray.size]; omega)).mono ?_
      rintro e x11 ⟨rfl, h11⟩
      rw [show Lib.repeatL (⟨#[48]⟩ : ByteArray).data.toList K = List.replicate K 48 from repeatL_one 48 K, HZK.out]
      have H11 := Lib.hid (H10.out.trans (h11.mono H10.out.size)); clear h11
      go_wp2_with fail
      refine (awake_any _).mono ?_
      rintro e x12 ⟨rfl, h12⟩
      have H12 := Lib.hid (H11.out.trans (h12.mono H11.out.size)); clear h12
      go_wp2_with fail
      go_ret
      exact ⟨rfl, H12.out⟩
end Go.Proofs.YtahfmeopecmpmaaDoor
