/-
  The contracts of the references sum, Sum, Append, Verify and Divide.
-/
import Derived.Test.YtahfmeopecmpmaaDoorRfB
import Derived.Test.YtahfmeopecmpmaaDoorDgO
namespace Go.Proofs.YtahfmeopecmpmaaDoor
open Go.RowKit

theorem Gen.ne {g : List UInt8} (hg : Gen g) : g ≠ [] := fun h => by have := hg.lo; rw [h] at this; simp at this
theorem Gen.isLed {g : List UInt8} (hg : Gen g) : led g := .inr hg.fst
theorem Gen.rest {g : List UInt8} (hg : Gen g) {w : List UInt8} (hw : w.all isB = true) :
    led (trm (dR g w (stp g w))) ∧ (trm (dR g w (stp g w))).all isB = true ∧ (∃ q, vl w = cl q (vl g) ^^^ vl (trm (dR g w (stp g w)))) ∧ (trm (dR g w (stp g w))).length ≤ deg g := by
  have hs := trm_self hg.isLed
  obtain ⟨_, _, h3, h4, h5, h6⟩ := dv_ok hg.bin hw (by rw [hs]; exact hg.ne)
  unfold rsO at h3 h4 h5 h6
  rw [hs] at h3 h4 h5 h6
  exact ⟨h3, h4, ⟨_, h5⟩, by unfold deg; omega⟩
theorem rest_sm {g w : List UInt8} (hg : Gen g) (hw : w.all isB = true) : pad (trm (dR g (w ++ List.replicate (deg g) 48) (stp g (w ++ List.replicate (deg g) 48)))) (deg g) = smV g w := by
  obtain ⟨h1, h2, ⟨q, h3⟩, h4⟩ := hg.rest (w := w ++ List.replicate (deg g) 48) (by rw [List.all_append, hw, rep48_bin]; rfl)
  rw [sm_iff hg _ _ (pad_len h4) (pad_bin _ h2), vl_pad]
  rw [vl_app', vl_rep, Nat.xor_zero, List.length_replicate] at h3
  rw [h3, Nat.xor_assoc, Nat.xor_self, Nat.xor_zero]
  exact ⟨q, rfl⟩
theorem rest_nil {g w : List UInt8} (hg : Gen g) (hw : w.all isB = true) : trm (dR g w (stp g w)) = [] ↔ rm (deg g) (vl g) w = 0 := by
  obtain ⟨h1, h2, ⟨q, h3⟩, h4⟩ := hg.rest hw
  rw [hg.rm_zero, h3, dv_iff _ ⟨q, rfl⟩]
  constructor
  · intro h; rw [h]; exact dv_zero _
  · intro h
    refine led_nil h1 (dv_small hg.rng.1 hg.rng.2 (Nat.lt_of_lt_of_le (vl_lt _) (Nat.pow_le_pow_right (by omega) h4)) h)

set_option maxHeartbeats 1000000 in
set_option maxRecDepth 100000 in
theorem rsum_any (g s : ByteArray) (w : World) (hg : Gen g.data.toList) (hsb : s.data.toList.all isB = true) (hs6 : s.size ≤ 65536) :
    Calls Tryd.prog 41 #[.string g, .string s] w fun e w' => e = .returned (.string ⟨(smV g.data.toList s.data.toList).toArray⟩) ∧ Below w.heap.size w w' := by
  have hlo := hg.lo
  have hhi := hg.hi
  have e0 : g.data.toList.length = g.size := rfl
  have HSM := Lib.hid (rest_sm hg hsb)
  obtain ⟨K, hK⟩ : ∃ K, deg g.data.toList = K := ⟨_, rfl⟩
  have hK1 : K + 1 = g.size := by rw [← hK]; unfold deg; omega
  have hK32 : K ≤ 32 := by omega
  have hk : (g.size : Int) - 1 = (K : Int) := by omega
  rw [hK] at HSM
  have hb2 : (s.data.toList ++ List.replicate K 48).all isB = true := by rw [List.all_append, hsb, rep48_bin]; rfl
  have HDV := fun (t : ByteArray) (ht : t.data.toList = s.data.toList ++ List.replicate K 48) (hts : t.size ≤ 140000) w => rdivide_any g t w hg.bin (by omega) (by rw [ht]; exact hb2) (by omega) hts
  have HDV := Lib.hid HDV
  clear hg hsb hlo e0 hK hb2
  go_enter Tryd.func41, Tryd.ntmps41
  go_wp2_with fail
  refine (Zeros_any K _ (by omega)).mono ?_
  rintro e x1 ⟨rfl, h1⟩
  have H1 := Lib.hid h1; clear h1
  obtain ⟨Z, hZ⟩ : ∃ Z : ByteArray, (⟨(List.replicate K (48 : UInt8)).toArray⟩ : ByteArray) = Z := ⟨_, rfl⟩
  rw [hZ]
  have hZs : Z.size = K := by rw [← hZ]; simp [ByteArray.size]
  have HZ := Lib.hid (show (s ++ Z).data.toList = s.data.toList ++ List.replicate K 48 by rw [Go.Joins.data_append, ← hZ])
  have HZ2 := Lib.hid (show (s ++ Z).size ≤ 140000 by rw [ByteArray.size_append, hZs]; omega)
  have hov : ¬ 9223372036854775807 < s.size + K := by omega
  have hov2 : ¬ 9223372036854775807 < s.size + Z.size := by omega
  clear hZ
  go_wp2_with fail
  refine (HDV.out (s ++ Z) HZ.out HZ2.out _).mono ?_
  rintro e x2 ⟨rfl, h2⟩
  rw [HZ.out]
  have H2 := Lib.hid (H1.out.trans (h2.mono H1.out.size)); clear h2
  go_wp2_with fail
  refine (Pad_any _ K _ (by omega)).mono ?_
  rintro e x3 ⟨rfl, rfl⟩
  go_wp2_with fail
  go_ret
  exact ⟨by rw [← HSM.out]; rfl, H2.out⟩

theorem rSum_any (g s : ByteArray) (w : World) : Calls Tryd.prog 14 #[.string g, .string s] w fun e w' => e = .returned (.tuple #[.string ⟨(smO g.data.toList s.data.toList).toArray⟩, .int .i64 (dck g.data.toList s.data.toList)]) ∧ Below w.heap.size w w' := by
  by_cases h : dck g.data.toList s.data.toList = 0
  · obtain ⟨hg, hl, hb⟩ := dck_ok h
    have HO := Lib.hid (show smO g.data.toList s.data.toList = smV g.data.toList s.data.toList by rw [smO, if_pos h])
    have HS := Lib.hid (fun w => rsum_any g s w hg hb hl)
    have H := Lib.hid h; clear h hg hl hb
    go_enter Tryd.func14, Tryd.ntmps14
    go_wp2_with fail
    refine (refDcheck_any _ _ _).mono ?_
    rintro e x1 ⟨rfl, rfl⟩
    rw [H.out]
    go_wp2_with fail
    refine (HS.out _).mono ?_
    rintro e x2 ⟨rfl, h2⟩
    have H2 := Lib.hid h2; clear h2
    go_wp2_with fail
    go_ret2
    exact ⟨by rw [HO.out, H.out]; rfl, H2.out⟩
  · have HO := Lib.hid (show smO g.data.toList s.data.toList = [] by rw [smO, if_neg h])
    have hb : (dck g.data.toList s.data.toList != 0) = true := by simpa using h
    clear h
    go_enter Tryd.func14, Tryd.ntmps14
    go_wp2_with fail
    refine (refDcheck_any _ _ _).mono ?_
    rintro e x1 ⟨rfl, rfl⟩
    go_wp2_with fail
    go_ret2
    exact ⟨by rw [HO.out]; rfl, Below.refl _ _⟩

set_option maxHeartbeats 1000000 in
theorem rAppend_any (g s : ByteArray) (w : World) : Calls Tryd.prog 16 #[.string g, .string s] w fun e w' => e = .returned (.tuple #[.string ⟨(apO g.data.toList s.data.toList).toArray⟩, .int .i64 (apE g.data.toList s.data.toList)]) ∧ Below w.heap.size w w' := by
  by_cases h : dck g.data.toList s.data.toList = 0
  · obtain ⟨hg, hl, hb⟩ := dck_ok h
    have hlo := hg.lo
    have hhi := hg.hi
    have e0 : g.data.toList.length = g.size := rfl
    have e1 : s.data.toList.length = s.size := rfl
    have hE : apE g.data.toList s.data.toList = if s.data.toList.length + deg g.data.toList ≤ 65536 then 0 else 4 := by rw [apE, if_pos h]
    have HS := Lib.hid (fun w => rsum_any g s w hg hb hl)
    have hsl := smV_len g.data.toList s.data.toList
    obtain ⟨V, hV⟩ : ∃ V, smV g.data.toList s.data.toList = V := ⟨_, rfl⟩
    rw [hV] at HS hsl
    obtain ⟨K, hK⟩ : ∃ K, deg g.data.toList = K := ⟨_, rfl⟩
    have hK1 : K + 1 = g.size := by rw [← hK]; unfold deg; omega
    have hK32 : K ≤ 32 := by omega
    rw [hK] at hE hsl
    obtain ⟨N, hN⟩ : ∃ N, s.size + K = N := ⟨_, rfl⟩
    have hNi : (s.size : Int) + (g.size : Int) - 1 = (N : Int) := by omega
    have hss : s.size ≤ 65536 := hl
    have H := Lib.hid h
    by_cases hf : N ≤ 65536
    · have HE := Lib.hid (show apE g.data.toList s.data.toList = 0 by rw [hE, if_pos (by omega)])
      have HA := Lib.hid (show s ++ (⟨V.toArray⟩ : ByteArray) = ⟨(apO g.data.toList s.data.toList).toArray⟩ by
        rw [apO, if_pos HE.out, hV]; apply ByteArray.ext; apply Array.ext'; rw [Go.Joins.data_append])
      have hd : decide ((65536 : Int) < (N : Int)) = false := by simp; omega
      have hov : ¬ 9223372036854775807 < s.size + V.length := by omega
      clear h hg hl hb hV hE hK hN hlo e0 e1 hsl
      go_enter Tryd.func16, Tryd.ntmps16
      go_wp2_with fail
      refine (refDcheck_any _ _ _).mono ?_
      rintro e x1 ⟨rfl, rfl⟩
      rw [H.out]
      go_wp2_with fail
      refine (HS.out _).mono ?_
      rintro e x2 ⟨rfl, h2⟩
      have H2 := Lib.hid h2; clear h2
      go_wp2_with fail
      go_ret2
      exact ⟨by rw [← HA.out, HE.out]; rfl, H2.out⟩
    · have HE := Lib.hid (show apE g.data.toList s.data.toList = 4 by rw [hE, if_neg (by omega)])
      have HA := Lib.hid (show apO g.data.toList s.data.toList = [] by rw [apO, if_neg (by rw [HE.out]; decide)])
      have hd : decide ((65536 : Int) < (N : Int)) = true := by simp; omega
      clear h hg hl hb hV hE hK hN hlo e0 e1 hsl
      go_enter Tryd.func16, Tryd.ntmps16
      go_wp2_with fail
      refine (refDcheck_any _ _ _).mono ?_
      rintro e x1 ⟨rfl, rfl⟩
      rw [H.out]
      go_wp2_with fail
      go_ret2
      exact ⟨by rw [HA.out, HE.out]; rfl, Below.refl _ _⟩
  · have HE := Lib.hid (show apE g.data.toList s.data.toList = dck g.data.toList s.data.toList by rw [apE, if_neg h])
    have HO := Lib.hid (show apO g.data.toList s.data.toList = [] by rw [apO, HE.out, if_neg h])
    have hb : (dck g.data.toList s.data.toList != 0) = true := by simpa using h
    clear h
    go_enter Tryd.func16, Tryd.ntmps16
    go_wp2_with fail
    refine (refDcheck_any _ _ _).mono ?_
    rintro e x1 ⟨rfl, rfl⟩
    go_wp2_with fail
    go_ret2
    exact ⟨by rw [HO.out, HE.out]; rfl, Below.refl _ _⟩

set_option maxHeartbeats 1000000 in
theorem rVerify_any (g s : ByteArray) (w : World) : Calls Tryd.prog 18 #[.string g, .string s] w fun e w' => e = .returned (.tuple #[.bool (vfB g.data.toList s.data.toList), .int .i64 (dck g.data.toList s.data.toList)]) ∧ Below w.heap.size w w' := by
  by_cases h : dck g.data.toList s.data.toList = 0
  · obtain ⟨hg, hl, hb⟩ := dck_ok h
    have hlo := hg.lo
    have hhi := hg.hi
    have e0 : g.data.toList.length = g.size := rfl
    have hss : s.size ≤ 65536 := hl
    have hV : vfB g.data.toList s.data.toList = (decide (deg g.data.toList ≤ s.size) && decide (rm (deg g.data.toList) (vl g.data.toList) s.data.toList = 0)) := vf_eq hg hl hb
    have hnil := rest_nil hg hb
    have HD := Lib.hid (fun w => rdivide_any g s w hg.bin (by omega) hb (by omega) (by omega))
    obtain ⟨R, hR⟩ : ∃ R, trm (dR g.data.toList s.data.toList (stp g.data.toList s.data.toList)) = R := ⟨_, rfl⟩
    rw [hR] at hnil HD
    obtain ⟨K, hK⟩ : ∃ K, deg g.data.toList = K := ⟨_, rfl⟩
    have hK1 : K + 1 = g.size := by rw [← hK]; unfold deg; omega
    have hK32 : K ≤ 32 := by omega
    have hk : (g.size : Int) - 1 = (K : Int) := by omega
    rw [hK] at hV hnil
    have H := Lib.hid h
    by_cases hz : R = []
    · rw [decide_eq_true (hnil.1 hz), Bool.and_true] at hV
      subst hz
      by_cases hle : K ≤ s.size
      · have hd : decide ((K : Int) ≤ (s.size : Int)) = true := by simp; omega
        have HV := Lib.hid (show vfB g.data.toList s.data.toList = true by rw [hV, decide_eq_true hle])
        clear h hg hl hb hV hK hlo e0 hnil hR
        go_enter Tryd.func18, Tryd.ntmps18
        go_wp2_with fail
        refine (refDcheck_any _ _ _).mono ?_
        rintro e x1 ⟨rfl, rfl⟩
        rw [H.out]
        go_wp2_with fail
        refine (HD.out _).mono ?_
        rintro e x2 ⟨rfl, h2⟩
        have H2 := Lib.hid h2; clear h2
        go_wp2_with fail
        go_ret2
        exact ⟨by rw [HV.out, H.out]; rfl, H2.out⟩
      · have hd : decide ((K : Int) ≤ (s.size : Int)) = false := by simp; omega
        have HV := Lib.hid (show vfB g.data.toList s.data.toList = false by rw [hV, decide_eq_false hle])
        clear h hg hl hb hV hK hlo e0 hnil hR
        go_enter Tryd.func18, Tryd.ntmps18
        go_wp2_with fail
        refine (refDcheck_any _ _ _).mono ?_
        rintro e x1 ⟨rfl, rfl⟩
        rw [H.out]
        go_wp2_with fail
        refine (HD.out _).mono ?_
        rintro e x2 ⟨rfl, h2⟩
        have H2 := Lib.hid h2; clear h2
        go_wp2_with fail
        go_ret2
        exact ⟨by rw [HV.out, H.out]; rfl, H2.out⟩
    · have HV := Lib.hid (show vfB g.data.toList s.data.toList = false by rw [hV, decide_eq_false (fun h => hz (hnil.2 h)), Bool.and_false])
      obtain ⟨RB, hRB⟩ : ∃ RB : ByteArray, (⟨R.toArray⟩ : ByteArray) = RB := ⟨_, rfl⟩
      have hRe : RB.toList.isEmpty = false := by
        rw [ByteArray.toList_eq RB, ← hRB]
        cases R with
        | nil => exact absurd rfl hz
        | cons a t => rfl
      have HRB := Lib.hid hRB
      clear h hg hl hb hV hK hlo e0 hnil hR hRB hz
      go_enter Tryd.func18, Tryd.ntmps18
      go_wp2_with fail
      refine (refDcheck_any _ _ _).mono ?_
      rintro e x1 ⟨rfl, rfl⟩
      rw [H.out]
      go_wp2_with fail
      refine (HD.out _).mono ?_
      rintro e x2 ⟨rfl, h2⟩
      rw [HRB.out]
      have H2 := Lib.hid h2; clear h2
      go_wp2_with fail
      go_ret2
      exact ⟨by rw [HV.out, H.out]; rfl, H2.out⟩
  · have HO := Lib.hid (show vfB g.data.toList s.data.toList = false by rw [vfB, if_neg h])
    have hb : (dck g.data.toList s.data.toList != 0) = true := by simpa using h
    clear h
    go_enter Tryd.func18, Tryd.ntmps18
    go_wp2_with fail
    refine (refDcheck_any _ _ _).mono ?_
    rintro e x1 ⟨rfl, rfl⟩
    go_wp2_with fail
    go_ret2
    exact ⟨by rw [HO.out]; rfl, Below.refl _ _⟩
end Go.Proofs.YtahfmeopecmpmaaDoor
