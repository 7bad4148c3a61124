/-
  The contracts of Append and Verify.
-/
import Derived.Test.YtdogepiddjoemaaDgF
namespace Go.Proofs.Ytdogepiddjoemaa
open Go.RowKit

theorem smV_len (g w : List UInt8) : (smV g w).length = deg g := by rw [smV, tx_len]

set_option maxHeartbeats 1000000 in
set_option maxRecDepth 100000 in
theorem Append_any (g s : ByteArray) (w : World) : Calls Try.prog 8 #[.string g, .string s] w fun e w' => e = .returned (.tuple #[.string ⟨(apO g.data.toList s.data.toList).toArray⟩, .int .i64 (apE g.data.toList s.data.toList)]) ∧ Below w.heap.size w w' := by
  by_cases h : dck g.data.toList s.data.toList = 0
  · obtain ⟨hg, hl, hb⟩ := dck_ok h
    have HO := Lib.hid (show smO g.data.toList s.data.toList = smV g.data.toList s.data.toList by rw [smO, if_pos h])
    have HE := Lib.hid (show apE g.data.toList s.data.toList = if s.data.toList.length + deg g.data.toList ≤ 65536 then 0 else 4 by rw [apE, if_pos h])
    have H := Lib.hid h; clear h
    have hd32 := hg.deg_le
    have hsl := smV_len g.data.toList s.data.toList
    have e1 : s.data.toList.length = s.size := rfl
    obtain ⟨V, hV⟩ : ∃ V, smV g.data.toList s.data.toList = V := ⟨_, rfl⟩
    rw [hV] at HO hsl
    rw [← hsl] at HE hd32
    have hvs : (⟨V.toArray⟩ : ByteArray).size = V.length := by simp [ByteArray.size]
    by_cases hf : s.size + V.length ≤ 65536
    · have HE2 := Lib.hid (show apE g.data.toList s.data.toList = 0 by rw [HE.out, if_pos (by omega)])
      have HA := Lib.hid (show s ++ (⟨V.toArray⟩ : ByteArray) = ⟨(apO g.data.toList s.data.toList).toArray⟩ by
        rw [apO, if_pos HE2.out, hV]; apply ByteArray.ext; apply Array.ext'; rw [Go.Joins.data_append])
      have hd : decide ((65536 : Int) < (s.size : Int) + (V.length : Int)) = false := by simp; omega
      have hov : ¬ 9223372036854775807 < s.size + V.length := by omega
      have hov2 : ¬ 9223372036854775807 < s.size + (⟨V.toArray⟩ : ByteArray).size := by omega
      clear hV hsl hl hb hg e1 HE
      go_enter Try.func8, Try.ntmps8
      go_wp2_with fail
      refine (Sum_any _ _ _).mono ?_
      rintro e w1 ⟨rfl, h1⟩
      rw [HO.out, H.out]
      have H1 := Lib.hid h1; clear h1
      go_wp2_with fail
      go_ret2
      exact ⟨by rw [← HA.out, HE2.out]; rfl, H1.out⟩
    · have HE2 := Lib.hid (show apE g.data.toList s.data.toList = 4 by rw [HE.out, if_neg (by omega)])
      have HA := Lib.hid (show apO g.data.toList s.data.toList = [] by rw [apO, if_neg (by rw [HE2.out]; decide)])
      have hd : decide ((65536 : Int) < (s.size : Int) + (V.length : Int)) = true := by simp; omega
      clear hV hsl hb hg HE
      go_enter Try.func8, Try.ntmps8
      go_wp2_with fail
      refine (Sum_any _ _ _).mono ?_
      rintro e w1 ⟨rfl, h1⟩
      rw [HO.out, H.out]
      have H1 := Lib.hid h1; clear h1
      go_wp2_with fail
      go_ret2
      exact ⟨by rw [HA.out, HE2.out]; rfl, H1.out⟩
  · have HE := Lib.hid (show apE g.data.toList s.data.toList = dck g.data.toList s.data.toList by rw [apE, if_neg h])
    have HO := Lib.hid (show apO g.data.toList s.data.toList = [] by rw [apO, HE.out, if_neg h])
    have hb : (dck g.data.toList s.data.toList != 0) = true := by simpa using h
    clear h
    go_enter Try.func8, Try.ntmps8
    go_wp2_with fail
    refine (Sum_any _ _ _).mono ?_
    rintro e w1 ⟨rfl, h1⟩
    have H1 := Lib.hid h1; clear h1
    go_wp2_with fail
    go_ret2
    exact ⟨by rw [HO.out, HE.out]; rfl, H1.out⟩

set_option maxHeartbeats 1000000 in
set_option maxRecDepth 100000 in
theorem Verify_any (g s : ByteArray) (w : World) : Calls Try.prog 9 #[.string g, .string s] w fun e w' => e = .returned (.tuple #[.bool (vfB g.data.toList s.data.toList), .int .i64 (dck g.data.toList s.data.toList)]) ∧ Below w.heap.size w w' := by
  by_cases h : dck g.data.toList s.data.toList = 0
  · obtain ⟨hg, hl, hb⟩ := dck_ok h
    have HV := Lib.hid (show vfB g.data.toList s.data.toList = (decide (deg g.data.toList ≤ s.data.toList.length) && decide (rm (deg g.data.toList) (vl g.data.toList) s.data.toList = 0)) by rw [vfB, if_pos h])
    have H := Lib.hid h; clear h
    have e0 : g.data.toList.length = g.size := rfl
    have e1 : s.data.toList.length = s.size := rfl
    have hlo := hg.lo
    have hd : deg g.data.toList + 1 = g.size := by unfold deg; omega
    have hd32 := hg.deg_le
    have hk : (g.size : Int) - 1 = (deg g.data.toList : Int) := by omega
    have HG := Lib.hid hg
    have HB := Lib.hid hb
    have HRM := Lib.hid (rem_any g s)
    rw [e1] at HV
    obtain ⟨R, hR⟩ : ∃ R, rm (deg g.data.toList) (vl g.data.toList) s.data.toList = R := ⟨_, rfl⟩
    have HR := Lib.hid hR
    rw [hR] at HV
    obtain ⟨K, hK⟩ : ∃ K, deg g.data.toList = K := ⟨_, rfl⟩
    rw [hK] at hk hd32 HV
    have hss : s.size ≤ 65536 := by omega
    have HRM := Lib.hid (fun w => rem_any g s w hg (by omega) hb)
    clear hK hd hlo e0 hg hb hl hR
    by_cases hle : K ≤ s.size
    · have hd1 : decide ((K : Int) ≤ (s.size : Int)) = true := by simp; omega
      by_cases hz : R = 0
      · have HV2 := Lib.hid (show vfB g.data.toList s.data.toList = true by rw [HV.out, decide_eq_true hle, decide_eq_true hz]; rfl)
        subst hz
        go_enter Try.func9, Try.ntmps9
        go_wp2_with fail
        refine (dcheck_any _ _ _).mono ?_
        rintro e w1 ⟨rfl, n, rfl⟩
        rw [H.out]
        have H1 := Lib.hid (below_drewN (Below.refl w.heap.size w) n)
        go_wp2_with fail
        refine (HRM.out _).mono ?_
        rintro e w2 ⟨rfl, h2⟩
        rw [HR.out]
        have H2 := Lib.hid (H1.out.trans (h2.mono H1.out.size)); clear h2
        go_wp2_with fail
        go_ret2
        exact ⟨by rw [HV2.out, H.out]; rfl, H2.out⟩
      · have HV2 := Lib.hid (show vfB g.data.toList s.data.toList = false by rw [HV.out, decide_eq_false hz, Bool.and_false])
        have hzz : ((R : Int) == 0) = false := by simp; omega
        clear hz
        go_enter Try.func9, Try.ntmps9
        go_wp2_with fail
        refine (dcheck_any _ _ _).mono ?_
        rintro e w1 ⟨rfl, n, rfl⟩
        rw [H.out]
        have H1 := Lib.hid (below_drewN (Below.refl w.heap.size w) n)
        go_wp2_with fail
        refine (HRM.out _).mono ?_
        rintro e w2 ⟨rfl, h2⟩
        rw [HR.out]
        have H2 := Lib.hid (H1.out.trans (h2.mono H1.out.size)); clear h2
        go_wp2_with fail
        go_ret2
        exact ⟨by rw [HV2.out, H.out]; rfl, H2.out⟩
    · have hd1 : decide ((K : Int) ≤ (s.size : Int)) = false := by simp; omega
      have HV2 := Lib.hid (show vfB g.data.toList s.data.toList = false by rw [HV.out, decide_eq_false hle]; rfl)
      go_enter Try.func9, Try.ntmps9
      go_wp2_with fail
      refine (dcheck_any _ _ _).mono ?_
      rintro e w1 ⟨rfl, n, rfl⟩
      rw [H.out]
      have H1 := Lib.hid (below_drewN (Below.refl w.heap.size w) n)
      go_wp2_with fail
      go_ret2
      exact ⟨by rw [HV2.out, H.out]; rfl, H1.out⟩
  · have HO := Lib.hid (show vfB g.data.toList s.data.toList = false by rw [vfB, if_neg h])
    have hb : (dck g.data.toList s.data.toList != 0) = true := by simpa using h
    clear h
    go_enter Try.func9, Try.ntmps9
    go_wp2_with fail
    refine (dcheck_any _ _ _).mono ?_
    rintro e w1 ⟨rfl, n, rfl⟩
    have H1 := Lib.hid (below_drewN (Below.refl w.heap.size w) n)
    go_wp2_with fail
    go_ret2
    exact ⟨by rw [HO.out]; rfl, H1.out⟩
end Go.Proofs.Ytdogepiddjoemaa
