/-
  The law of Frame and Deframe against their references.
-/
import Derived.Test.YtdalcopbaaabiaaDoorStV
import Derived.Test.YtdalcopbaaabiaaDoorStW
import Derived.Test.YtdalcopbaaabiaaDoorSlA
namespace Go.Proofs.YtdalcopbaaabiaaDoor
open Go.RowKit

set_option maxHeartbeats 1000000 in
set_option maxRecDepth 100000 in
theorem law_stuffingFrames (a : Option Addr) (c : Nat) (ss : List ByteArray) (s : ByteArray) (_w1 : s.size ≤ maxLen) (w : World) (hrow : SRow w a ss) (hlen : ss.length ≤ 9223372036854775807) (hsh : w.ShapedOpen Tryd.prog) :
    Calls Tryd.prog 7 #[.slice a ss.length c, .string s] w fun e w' => e = .returned (.bool true) ∧ Below w.heap.size w w' := by
  have HMX := Lib.hid (mx_of hsh); clear hsh
  have HR := Lib.hid hrow; clear hrow
  have HLN := Lib.hid hlen; clear hlen
  by_cases hg : grS ss = true
  · have HG := Lib.hid hg; clear hg
    go_enter Tryd.func7, Tryd.ntmps7
    go_wp2_with fail
    refine (refGreat_any a c ss _ HR.out HLN.out).mono ?_
    rintro e x1 ⟨rfl, rfl⟩
    rw [HG.out]
    go_wp2_with fail
    refine (awake_any _ HMX.out).mono ?_
    rintro e y ⟨rfl, h9⟩
    have H9 := Lib.hid (h9); clear h9
    go_wp2_with fail
    go_ret
    exact ⟨rfl, H9.out⟩
  · have HG := Lib.hid (show grS ss = false by simpa using hg); clear hg
    by_cases hs : s.size ≤ 400
    · have hd : decide ((400 : Int) < (s.size : Int)) = false := by simp; omega
      obtain ⟨E, hE⟩ : ∃ E, frE ss = E := ⟨_, rfl⟩
      obtain ⟨T, hT⟩ : ∃ T, (⟨(frO ss).toArray⟩ : ByteArray) = T := ⟨_, rfl⟩
      have HE := Lib.hid hE; clear hE
      have HT := Lib.hid hT; clear hT
      by_cases hc : chk 2 s.data.toList = 0
      · have HC := Lib.hid hc; clear hc
        have e0 : s.data.toList.length = s.size := rfl
        have hmem : ∀ x ∈ stL s.data.toList, x.length ≤ 65536 := fun x hx => by have h1 := stL_mem _ _ hx; omega
        obtain ⟨v1, v2⟩ := bas_val _ hmem
        have hln := stL_len s.data.toList
        have hL := List.length_filterMap_le ust5 (stL s.data.toList)
        have hN := List.length_filter_le (fun x => (ust5 x).isNone) (stL s.data.toList)
        obtain ⟨L, hLL⟩ : ∃ L, (stL s.data.toList).filterMap ust5 = L := ⟨_, rfl⟩
        obtain ⟨N, hNN⟩ : ∃ N, ((stL s.data.toList).filter fun x => (ust5 x).isNone).length = N := ⟨_, rfl⟩
        rw [hLL] at hL v1
        rw [hNN] at hN v2
        have V1 := Lib.hid v1; have V2 := Lib.hid v2; have V3 := Lib.hid hLL; have V4 := Lib.hid hNN
        have hLs : L.length ≤ 50 := by omega
        have hNs : N ≤ 50 := by omega
        clear v1 v2 hLL hNN hmem e0 hln hL hN
        go_enter Tryd.func7, Tryd.ntmps7
        go_wp2_with fail
        refine (refGreat_any a c ss _ HR.out HLN.out).mono ?_
        rintro e x1 ⟨rfl, rfl⟩
        rw [HG.out]
        go_wp2_with fail
        refine (Frame_any a c ss _ HR.out HLN.out).mono ?_
        rintro e x1 ⟨rfl, h1⟩
        rw [HT.out, HE.out]
        have HM1 := Lib.hid (HMX.out.below h1 (Nat.le_refl _))
        have HR1 := Lib.hid (HR.out.below h1)
        have B1 := Lib.hid h1; clear h1
        go_wp2_with fail
        refine (refFrame_any a c ss _ HR1.out HLN.out HG.out).mono ?_
        rintro e x2 ⟨rfl, h1⟩
        rw [HT.out, HE.out]
        have HM2 := Lib.hid (HM1.out.below h1 (Nat.le_refl _))
        have B2 := Lib.hid (B1.out.trans (h1.mono B1.out.size)); clear h1
        go_wp2_with fail
        refine (Deframe_in s _ HM2.out (by omega) HC.out).mono ?_
        rintro e x3 ⟨v, rfl, hrow, h1⟩
        rw [V1.out] at hrow
        rw [V2.out]
        obtain ⟨b, d, rfl, hsr⟩ := srow_of_own rfl hrow
        have S1 := Lib.hid hsr; clear hsr hrow
        have HM3 := Lib.hid (HM2.out.below h1 (Nat.le_refl _))
        have B3 := Lib.hid (B2.out.trans (h1.mono B2.out.size)); clear h1
        go_wp2_with fail
        refine (refDeframe_any s _ hs HC.out).mono ?_
        rintro e x4 ⟨v, rfl, hrow, h1⟩
        rw [V3.out] at hrow
        rw [V4.out]
        obtain ⟨b2, d2, rfl, hsr⟩ := srow_of_own rfl hrow
        have S2 := Lib.hid hsr; clear hsr hrow
        have S3 := Lib.hid (S1.out.below h1)
        have HM4 := Lib.hid (HM3.out.below h1 (Nat.le_refl _))
        have B4 := Lib.hid (B3.out.trans (h1.mono B3.out.size)); clear h1
        go_wp2_with fail
        refine (show Calls Tryd.prog 40 #[.slice b L.length d, .slice b2 L.length d2] _ _ from by
          have he := equalS_any b b2 d d2 (L.map fun x => (⟨x.toArray⟩ : ByteArray)) (L.map fun x => (⟨x.toArray⟩ : ByteArray)) _ S3.out S2.out (by rw [List.length_map]; omega) (by rw [List.length_map]; omega)
          rw [List.length_map, decide_eq_true rfl] at he
          exact he).mono ?_
        rintro e x5 ⟨rfl, n, rfl⟩
        have HM5 := Lib.hid (HM4.out.drewN n)
        have B5 := Lib.hid (below_drewN B4.out n)
        go_wp2_with fail
        refine (awake_any _ HM5.out).mono ?_
        rintro e y ⟨rfl, h9⟩
        have H9 := Lib.hid (B5.out.trans (h9.mono B5.out.size)); clear h9
        go_wp2_with fail
        go_ret
        exact ⟨rfl, H9.out⟩
      · have _ := hc
        go_enter Tryd.func7, Tryd.ntmps7
        go_wp2_with fail
        refine (refGreat_any a c ss _ HR.out HLN.out).mono ?_
        rintro e x1 ⟨rfl, rfl⟩
        rw [HG.out]
        go_wp2_with fail
        refine (Frame_any a c ss _ HR.out HLN.out).mono ?_
        rintro e x1 ⟨rfl, h1⟩
        rw [HT.out, HE.out]
        have HM1 := Lib.hid (HMX.out.below h1 (Nat.le_refl _))
        have HR1 := Lib.hid (HR.out.below h1)
        have B1 := Lib.hid h1; clear h1
        go_wp2_with fail
        refine (refFrame_any a c ss _ HR1.out HLN.out HG.out).mono ?_
        rintro e x2 ⟨rfl, h1⟩
        rw [HT.out, HE.out]
        have HM2 := Lib.hid (HM1.out.below h1 (Nat.le_refl _))
        have B2 := Lib.hid (B1.out.trans (h1.mono B1.out.size)); clear h1
        go_wp2_with fail
        refine (Deframe_bad s _ hc).mono ?_
        rintro e x3 ⟨rfl, h1⟩
        have HM3 := Lib.hid (HM2.out.below h1 (Nat.le_refl _))
        have B3 := Lib.hid (B2.out.trans (h1.mono B2.out.size)); clear h1
        go_wp2_with fail
        refine (refDeframe_bad s _ hc).mono ?_
        rintro e x4 ⟨⟨b2, d2, rfl⟩, h1⟩
        have HM4 := Lib.hid (HM3.out.below h1 (Nat.le_refl _))
        have B4 := Lib.hid (B3.out.trans (h1.mono B3.out.size)); clear h1
        go_wp2_with fail
        refine (Tryd.slices_Equal_string_empty none b2 0 0 d2 _ (by omega)).mono ?_
        rintro e x5 ⟨rfl, rfl⟩
        go_wp2_with fail
        refine (awake_any _ HM4.out).mono ?_
        rintro e y ⟨rfl, h9⟩
        have H9 := Lib.hid (B4.out.trans (h9.mono B4.out.size)); clear h9
        go_wp2_with fail
        go_ret
        exact ⟨rfl, H9.out⟩
    · have hd : decide ((400 : Int) < (s.size : Int)) = true := by simp; omega
      go_enter Tryd.func7, Tryd.ntmps7
      go_wp2_with fail
      refine (refGreat_any a c ss _ HR.out HLN.out).mono ?_
      rintro e x1 ⟨rfl, rfl⟩
      rw [HG.out]
      go_wp2_with fail
      refine (awake_any _ HMX.out).mono ?_
      rintro e y ⟨rfl, h9⟩
      have H9 := Lib.hid (h9); clear h9
      go_wp2_with fail
      go_ret
      exact ⟨rfl, H9.out⟩
end Go.Proofs.YtdalcopbaaabiaaDoor
