/-
  The law: digests detect every burst up to their length.
-/
import Derived.Test.YtdogepiddjoemaaTpQ
import Derived.Test.YtdogepiddjoemaaTpC
namespace Go.Proofs.Ytdogepiddjoemaa
open Go.RowKit

theorem ex_app : apO [49, 48, 49, 49] [49, 49, 48, 49] = [49, 49, 48, 49, 48, 48, 49] ∧ apE [49, 48, 49, 49] [49, 49, 48, 49] = 0 := by decide +kernel
theorem tawake_any (w : World) : Calls Try.prog 7 #[] w fun e w' => e = .returned (.bool true) ∧ Below w.heap.size w w' := by
  go_enter Try.func7, Try.ntmps7
  go_wp2_with fail
  refine (Append_any _ _ _).mono ?_
  rintro e w1 ⟨rfl, h1⟩
  rw [show apO (⟨#[49, 48, 49, 49]⟩ : ByteArray).data.toList (⟨#[49, 49, 48, 49]⟩ : ByteArray).data.toList = [49, 49, 48, 49, 48, 48, 49] from ex_app.1, show apE (⟨#[49, 48, 49, 49]⟩ : ByteArray).data.toList (⟨#[49, 49, 48, 49]⟩ : ByteArray).data.toList = 0 from ex_app.2]
  have H1 := Lib.hid h1; clear h1
  go_wp2_with fail
  go_ret
  exact ⟨rfl, H1.out⟩
theorem chk2_of {m r : List UInt8} (h1 : chk 2 m = 0) (h2 : chk 2 r = 0) : chk2 m r = 0 := by rw [chk2, if_pos h1, h2]
theorem ba_len2 (l : List UInt8) : (⟨l.toArray⟩ : ByteArray).size = l.length := by simp [ByteArray.size]
theorem fill_set {N j : Nat} (h : j < N) : (List.replicate j (48 : UInt8) ++ List.replicate (N - j) 0).set j 48 = List.replicate (j + 1) 48 ++ List.replicate (N - (j + 1)) 0 := by
  rw [List.set_append, if_neg (by simp), List.length_replicate, Nat.sub_self, show N - j = (N - (j + 1)) + 1 by omega, List.replicate_succ, List.set_cons_zero, List.replicate_succ', List.append_assoc, List.singleton_append, show N - (j + 1) = N - (j + 1) from rfl]

set_option maxHeartbeats 4000000 in
set_option maxRecDepth 100000 in
theorem law_topBursts (g s : ByteArray) (z1 z2 : Int) (_w0 : g.size ≤ maxLen) (_w1 : s.size ≤ maxLen) (w2 : (Lit.int .u8 z1).wf = true) (w3 : (Lit.int .u16 z2).wf = true) (w : World) :
    Calls Try.prog 3 #[.string g, .string s, .int .u8 z1, .int .u16 z2] w fun e w' => e = .returned (.bool true) ∧ Below w.heap.size w w' := by
  simp [Lit.wf, IntKind.min, IntKind.max, IntKind.signed, IntKind.bits] at w2 w3
  obtain ⟨T1, rfl⟩ : ∃ n : Nat, z1 = n := ⟨z1.toNat, by omega⟩
  obtain ⟨T2, rfl⟩ : ∃ n : Nat, z2 = n := ⟨z2.toNat, by omega⟩
  by_cases h13 : g.size ≤ 13
  · have hd13 : decide ((13 : Int) < (g.size : Int)) = false := by simp; omega
    by_cases hg : gck g.data.toList = 0
    · have HG := Lib.hid hg
      by_cases h40 : s.size ≤ 40
      · have hd40 : decide ((40 : Int) < (s.size : Int)) = false := by simp; omega
        by_cases hs : chk 2 s.data.toList = 0
        · have HS := Lib.hid hs
          have hgen := (gck_iff _).1 hg
          have hsb := ((chk2_iff _).1 hs).2
          have hlo := hgen.lo
          have e0 : g.data.toList.length = g.size := rfl
          have e1 : s.data.toList.length = s.size := rfl
          obtain ⟨K, hK⟩ : ∃ K, deg g.data.toList = K := ⟨_, rfl⟩
          have hK1 : K + 1 = g.size := by rw [← hK]; unfold deg; omega
          have hKp : 1 ≤ K := by omega
          have hK12 : K ≤ 12 := by omega
          have hdg : (g.size : Int) - 1 = (K : Int) := by omega
          have hap := ap_ok hgen (w := s.data.toList) (by omega) hsb
          have hvf := vf_sum hgen (w := s.data.toList) (by omega) hsb
          obtain ⟨A, hA⟩ : ∃ A, s.data.toList ++ smV g.data.toList s.data.toList = A := ⟨_, rfl⟩
          have hAb : A.all isB = true := by rw [← hA, List.all_append, hsb, smV_bin]; rfl
          have hAl : A.length = s.size + K := by rw [← hA, List.length_append, smV_len, hK, e1]
          rw [hA] at hap hvf
          obtain ⟨AB, hAB⟩ : ∃ AB : ByteArray, (⟨A.toArray⟩ : ByteArray) = AB := ⟨_, rfl⟩
          have hABd : AB.data.toList = A := by rw [← hAB]
          obtain ⟨N, hN⟩ : ∃ N, s.size + K = N := ⟨_, rfl⟩
          rw [hN] at hAl
          have hABs : AB.size = N := by rw [← hAB, ba_len2, hAl]
          rw [← hABd] at hvf hAb hAl
          have hNi : (s.size : Int) + (g.size : Int) - 1 = (N : Int) := by omega
          have hN53 : N ≤ 53 := by omega
          have hN1 : 1 ≤ N := by omega
          obtain ⟨I, hI⟩ : ∃ I, T1 % N = I := ⟨_, rfl⟩
          have hIi : ((T1 : Int)).tmod (N : Int) = (I : Int) := by rw [Int.tmod_eq_emod_of_nonneg (by omega), ← hI, Int.natCast_emod]
          have hIi2 : ((T1 : Int)) % (N : Int) = (I : Int) := by rw [← hI, Int.natCast_emod]
          have hIN : I < N := by rw [← hI]; exact Nat.mod_lt _ (by omega)
          obtain ⟨L, hL⟩ : ∃ L, min K (N - I) = L := ⟨_, rfl⟩
          have hLK : L ≤ K := by omega
          have hLN : I + L ≤ N := by omega
          have hLm : ∀ k : Nat, k < L ↔ (k < K ∧ I + k < N) := fun k => by omega
          have hfound := changes_found hgen hvf (by omega) hAb (A := I) (B := T2) (L := L) (by omega) (by omega)
          rw [hAl] at hfound
          obtain ⟨b, hb⟩ : ∃ b, smB T2 L = b := ⟨_, rfl⟩
          rw [hb] at hfound
          have HML := Lib.hid (mb_len T2 L)
          have hchk : chk 2 AB.data.toList = 0 := (chk2_iff _).2 ⟨by omega, hAb⟩
          have hcb := bw_bin (n := N) (A := I) (mb_bin T2 L) L
          have hcl := bw_len (n := N) (A := I) (m := mb T2 L) (j := L) (by rw [HML.out]; omega) (by rw [HML.out]; omega)
          obtain ⟨CB, hCB⟩ : ∃ CB : ByteArray, (⟨(bw N I (mb T2 L) L).toArray⟩ : ByteArray) = CB := ⟨_, rfl⟩
          have hCBd : CB.data.toList = bw N I (mb T2 L) L := by rw [← hCB]
          have hCBs : CB.size = N := by rw [← hCB, ba_len2, hcl]
          have hchk2 : chk 2 CB.data.toList = 0 := by rw [hCBd]; exact (chk2_iff _).2 ⟨by omega, hcb⟩
          have HADD := Lib.hid (fun w => add_ok AB CB w (chk2_of hchk hchk2) (by omega) (by omega))
          rw [← hCBd] at hfound
          have hyl : (addS AB.data.toList CB.data.toList).length = N := by rw [addS_len]; exact hCBs
          have hyb : (addS AB.data.toList CB.data.toList).all isB = true := by
            rw [addS_xr (by rw [hAl, hCBd, hcl]) hAb (by rw [hCBd]; exact hcb)]; exact xr_bin _ _
          have hdy : dck g.data.toList (addS AB.data.toList CB.data.toList) = 0 := dck_gen hgen (by omega) hyb
          have hdA : dck g.data.toList AB.data.toList = 0 := dck_gen hgen (by omega) hAb
          have HAP := Lib.hid hap
          have HAB := Lib.hid hAB
          have HVF := Lib.hid (show _ ∧ _ from ⟨hvf, hdA⟩)
          have HY := Lib.hid (show _ ∧ _ from ⟨hfound, hdy⟩)
          have HCB := Lib.hid hCB
          have HB := Lib.hid hb
          have HLM := Lib.hid hLm
          have HBL := Lib.hid (fun j (hj : j ≤ L) => bw_len (n := N) (A := I) (m := mb T2 L) (j := j) (by rw [HML.out]; exact hj) (by rw [HML.out]; omega))
          have HBS := Lib.hid (fun j (hj : j < L) => bw_set (n := N) (A := I) (m := mb T2 L) (j := j) (by rw [HML.out]; exact hj) (by rw [HML.out]; omega))
          have HBE := Lib.hid (fun j (hj : j < L) => bw_same (n := N) (A := I) (m := mb T2 L) (j := j) (by rw [HML.out]; exact hj) (by rw [HML.out]; omega))
          have HMG := Lib.hid (fun j (hj : j < L) => mb_get T2 L j hj)
          have HB0 := Lib.hid (bw_zero N I (mb T2 L) (by omega))
          have hov : ¬ 9223372036854775807 < s.size + g.size := by omega
          have hd2 : decide ((53 : Int) < (N : Int)) = false := by simp; omega
          clear hap hvf hAb hAl hA hAB hABd hI hL hfound hb hchk hcb hcl hCB hCBd hchk2 hyl hyb hdy hdA hLm hN hK e0 e1 hsb hlo hgen hg hs
          go_enter Try.func3, Try.ntmps3
          go_wp2_with fail
          refine (refGCheck_any _ _).mono ?_
          rintro e x1 ⟨rfl, rfl⟩
          rw [HG.out]
          go_wp2_with fail
          refine (refCheck_any _ _ _).mono ?_
          rintro e x1 ⟨rfl, rfl⟩
          rw [HS.out]
          go_wp2_with fail
          refine (Append_any _ _ _).mono ?_
          rintro e x1 ⟨rfl, h1⟩
          rw [HAP.out.1, HAP.out.2, HAB.out]
          have H1 := Lib.hid h1; clear h1
          go_wp2_with fail
          refine (Verify_any _ _ _).mono ?_
          rintro e x2 ⟨rfl, h2⟩
          rw [HVF.out.1, HVF.out.2]
          have H2 := Lib.hid (H1.out.trans (h2.mono H1.out.size)); clear h2
          go_wp2_with (refine wpList_mkrow _ rfl _ _ rfl 5 (.int .u8 0) 1 Try.underlying31 rfl rfl (N : Int) N rfl rfl (by omega) (by omega) ?_)
          intro w3 hrow hb hz
          have HZ := Lib.hid (show w.heap.size ≤ x2.heap.size from H2.out.size)
          have H3 := Lib.hid (H2.out.trans (hb.mono H2.out.size))
          obtain ⟨B, hB⟩ : ∃ B, x2.heap.size = B := ⟨_, rfl⟩
          rw [hB] at hrow HZ ⊢
          have HR : Hid (Row w3 B 5 (bts (List.replicate 0 48 ++ List.replicate (N - 0) 0))) := Lib.hid (by
            have e : bts (List.replicate 0 48 ++ List.replicate (N - 0) 0) = List.replicate N (.int .u8 0) := by simp [bts]
            rw [e]; exact hrow)
          clear hrow hb hz hB
          go_wp2_with fail
          go_loopw [72] (fun i wr => ∃ j : Nat, j ≤ N ∧ i = .int .i64 j ∧ Row wr B 5 (bts (List.replicate j 48 ++ List.replicate (N - j) 0)) ∧ Below w.heap.size w wr) (fun i _ => N - (intOf i).toNat)
          case atStart => exact ⟨0, by omega, rfl, HR.out, H3.out⟩
          case round =>
            obtain ⟨j, hj, rfl, hrow, hb⟩ := hrel
            have HROW := Lib.hid hrow; clear hrow
            have HBB := Lib.hid hb; clear hb HR H3
            by_cases hlt : j < N
            · have hjd : decide ((j : Int) < (N : Int)) = true := by simp; omega
              have hlen : (bts (List.replicate j (48 : UInt8) ++ List.replicate (N - j) 0)).length = N := by rw [bts_len, List.length_append, List.length_replicate, List.length_replicate]; omega
              have HLN := Lib.hid hlen; clear hlen
              have hcell := HROW.out.cell j
              have hfz := HROW.out.frozen j
              rw [List.getElem?_eq_getElem (by rw [HLN.out]; exact hlt)] at hcell
              have HS2 := Lib.hid (show Row (wr.setCell ⟨B, j, none⟩ (.int .u8 48)) B 5 (bts (List.replicate (j + 1) 48 ++ List.replicate (N - (j + 1)) 0)) by
                have h := HROW.out.set j (.int .u8 48)
                rw [show (Value.int .u8 48) = .int .u8 ((48 : UInt8).toNat : Int) from rfl, bts_set, fill_set hlt] at h
                exact h)
              go_wp2_with fail
              go_roundw
              case rel => exact ⟨j + 1, by omega, by go_num, HS2.out, HBB.out.setCell (p := ⟨B, j, none⟩) HZ.out _⟩
              case measure => simp [intOf]; omega
            · obtain rfl : j = N := by omega
              have hjd : decide ((j : Int) < (j : Int)) = false := by simp
              have HR2 := Lib.hid (show Row wr B 5 (bts (bw j I (mb T2 L) 0)) by
                have h := HROW.out
                rw [Nat.sub_self, List.replicate_zero, List.append_nil] at h
                rw [HB0.out]; exact h)
              clear HROW
              go_wp2_with fail
              go_loopw [17, 18] (fun so kk wr2 => ∃ k : Nat, k ≤ L ∧ so = .bool (smB T2 k) ∧ kk = .int .i64 k ∧ Row wr2 B 5 (bts (bw j I (mb T2 L) k)) ∧ Below w.heap.size w wr2) (fun _ kk _ => L - (intOf kk).toNat)
              case atStart => exact ⟨0, by omega, rfl, rfl, HR2.out, HBB.out⟩
              case round =>
                obtain ⟨k, hk, rfl, rfl, hrow, hb⟩ := hrel
                have HRK := Lib.hid hrow
                have HBK := Lib.hid hb
                clear hrow hb HR2 HBB
                by_cases hkl : k < L
                · obtain ⟨hkK, hkN⟩ := (HLM.out k).1 hkl
                  have hkd : decide ((k : Int) < (K : Int)) = true := by simp; omega
                  have hkd' : decide (k < K) = true := by simp; omega
                  have hkd2 : decide ((I : Int) + (k : Int) < (j : Int)) = true := by simp; omega
                  have hkd2' : decide (I + k < j) = true := by simp; omega
                  have hbit := bit16 k T2 (by omega)
                  have HSN := Lib.hid (smB_next T2 k)
                  by_cases htb : T2.testBit k = true
                  · rw [if_pos htb] at hbit
                    have HLN := Lib.hid (show (bts (bw j I (mb T2 L) k)).length = j by rw [bts_len, HBL.out k hk])
                    have hcell := HRK.out.cell (I + k)
                    have hfz := HRK.out.frozen (I + k)
                    rw [List.getElem?_eq_getElem (by rw [HLN.out]; exact hkN)] at hcell
                    have HX := Lib.hid (show Row (wr.setCell ⟨B, I + k, none⟩ (.int .u8 49)) B 5 (bts (bw j I (mb T2 L) (k + 1))) by
                      have h1 := HBS.out k hkl
                      rw [HMG.out k hkl, if_pos htb] at h1
                      have h := HRK.out.set (I + k) (.int .u8 49)
                      rw [show (Value.int .u8 49) = .int .u8 ((49 : UInt8).toNat : Int) from rfl, bts_set, h1] at h
                      exact h)
                    have HS1 := Lib.hid (show smB T2 (k + 1) = true by rw [HSN.out, htb, Bool.or_true])
                    clear htb
                    go_wp2_with fail
                    go_roundw
                    case rel => exact ⟨k + 1, by omega, by rw [HS1.out], by go_num, HX.out, HBK.out.setCell (p := ⟨B, I + k, none⟩) HZ.out _⟩
                    case measure => simp [intOf]; omega
                  · have htb' : T2.testBit k = false := by simpa using htb
                    rw [if_neg htb] at hbit
                    have HX := Lib.hid (show bw j I (mb T2 L) (k + 1) = bw j I (mb T2 L) k from HBE.out k hkl (by rw [HMG.out k hkl, if_neg htb]))
                    have HS1 := Lib.hid (show smB T2 (k + 1) = smB T2 k by rw [HSN.out, htb', Bool.or_false])
                    clear htb htb'
                    go_wp2_with fail
                    go_roundw
                    case rel => exact ⟨k + 1, by omega, by rw [HS1.out], by go_num, by rw [HX.out]; exact HRK.out, HBK.out⟩
                    case measure => simp [intOf]; omega
                · obtain rfl : k = L := by omega
                  have hcv := run_string_row (P := Try.prog) (w := wr) (src := 31) (dst := 9) (c := j) Try.underlying31 Try.underlying5 Try.underlying9 HRK.out (HBL.out k hk)
                  rw [HCB.out] at hcv
                  have hcase : k = K ∨ (k < K ∧ I + k = j) := by
                    have h1 := HLM.out k
                    have h2 : ¬ (k < K ∧ I + k < j) := fun h => absurd (h1.2 h) (by omega)
                    omega
                  have HBB2 := HB.out
                  rw [HBB2]
                  rcases hcase with hkK | ⟨hkK, hkN⟩
                  · have hkd : decide ((k : Int) < (K : Int)) = false := by simp; omega
                    have hkd' : decide (k < K) = false := by simp; omega
                    clear hkK hkl HBB2
                    go_wp2_with fail
                    refine (HADD.out _).mono ?_
                    rintro e w5 ⟨rfl, h5⟩
                    have H5 := Lib.hid (HBK.out.trans (h5.mono HBK.out.size)); clear h5
                    go_wp2_with fail
                    refine (Verify_any _ _ _).mono ?_
                    rintro e w6 ⟨rfl, h6⟩
                    rw [HY.out.1, HY.out.2]
                    have H6 := Lib.hid (H5.out.trans (h6.mono H5.out.size)); clear h6
                    go_wp2_with fail
                    refine (tawake_any _).mono ?_
                    rintro e w7 ⟨rfl, h7⟩
                    have H7 := Lib.hid (H6.out.trans (h7.mono H6.out.size)); clear h7
                    go_wp2_with fail
                    go_ret
                    exact ⟨rfl, H7.out⟩
                  · have hkd : decide ((k : Int) < (K : Int)) = true := by simp; omega
                    have hkd' : decide (k < K) = true := by simp; omega
                    have hkd2 : decide ((I : Int) + (k : Int) < (j : Int)) = false := by simp; omega
                    have hkd2' : decide (I + k < j) = false := by simp; omega
                    clear hkK hkN hkl HBB2
                    go_wp2_with fail
                    refine (HADD.out _).mono ?_
                    rintro e w5 ⟨rfl, h5⟩
                    have H5 := Lib.hid (HBK.out.trans (h5.mono HBK.out.size)); clear h5
                    go_wp2_with fail
                    refine (Verify_any _ _ _).mono ?_
                    rintro e w6 ⟨rfl, h6⟩
                    rw [HY.out.1, HY.out.2]
                    have H6 := Lib.hid (H5.out.trans (h6.mono H5.out.size)); clear h6
                    go_wp2_with fail
                    refine (tawake_any _).mono ?_
                    rintro e w7 ⟨rfl, h7⟩
                    have H7 := Lib.hid (H6.out.trans (h7.mono H6.out.size)); clear h7
                    go_wp2_with fail
                    go_ret
                    exact ⟨rfl, H7.out⟩
        · have hb : (chk 2 s.data.toList != 0) = true := by simpa using hs
          clear hg hs
          go_enter Try.func3, Try.ntmps3
          go_wp2_with fail
          refine (refGCheck_any _ _).mono ?_
          rintro e x1 ⟨rfl, rfl⟩
          rw [HG.out]
          go_wp2_with fail
          refine (refCheck_any _ _ _).mono ?_
          rintro e x1 ⟨rfl, rfl⟩
          go_wp2_with fail
          refine (tawake_any _).mono ?_
          rintro e w7 ⟨rfl, h7⟩
          have H7 := Lib.hid h7; clear h7
          go_wp2_with fail
          go_ret
          exact ⟨rfl, H7.out⟩
      · have hd40 : decide ((40 : Int) < (s.size : Int)) = true := by simp; omega
        clear hg
        go_enter Try.func3, Try.ntmps3
        go_wp2_with fail
        refine (refGCheck_any _ _).mono ?_
        rintro e x1 ⟨rfl, rfl⟩
        rw [HG.out]
        go_wp2_with fail
        refine (tawake_any _).mono ?_
        rintro e w7 ⟨rfl, h7⟩
        have H7 := Lib.hid h7; clear h7
        go_wp2_with fail
        go_ret
        exact ⟨rfl, H7.out⟩
    · have hb : (gck g.data.toList != 0) = true := by simpa using hg
      clear hg
      go_enter Try.func3, Try.ntmps3
      go_wp2_with fail
      refine (refGCheck_any _ _).mono ?_
      rintro e x1 ⟨rfl, rfl⟩
      go_wp2_with fail
      refine (tawake_any _).mono ?_
      rintro e w7 ⟨rfl, h7⟩
      have H7 := Lib.hid h7; clear h7
      go_wp2_with fail
      go_ret
      exact ⟨rfl, H7.out⟩
  · have hd13 : decide ((13 : Int) < (g.size : Int)) = true := by simp; omega
    go_enter Try.func3, Try.ntmps3
    go_wp2_with fail
    refine (tawake_any _).mono ?_
    rintro e w7 ⟨rfl, h7⟩
    have H7 := Lib.hid h7; clear h7
    go_wp2_with fail
    go_ret
    exact ⟨rfl, H7.out⟩
end Go.Proofs.Ytdogepiddjoemaa
