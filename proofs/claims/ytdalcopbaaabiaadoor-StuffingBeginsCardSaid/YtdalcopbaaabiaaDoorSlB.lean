/-
  The law of the beginnings of stuffed and padded words.
-/
import Derived.Test.YtdalcopbaaabiaaDoorSlA
namespace Go.Proofs.YtdalcopbaaabiaaDoor
open Go.RowKit

theorem hasPre_any {x y : List UInt8} (h : x <+: y) (w : World) : Calls Tryd.prog 19 #[.string ⟨y.toArray⟩, .string ⟨x.toArray⟩] w fun e w' => e = .returned (.bool true) ∧ w = w' :=
  (Tryd.strings_HasPrefix _ _ w).mono fun e w' ⟨he, hw⟩ => ⟨by
    rw [he, show Lib.hasPrefix (⟨y.toArray⟩ : ByteArray).data.toList (⟨x.toArray⟩ : ByteArray).data.toList = true from List.isPrefixOf_iff_prefix.2 h], hw.symm⟩
theorem all_take {l : List UInt8} (h : l.all isB = true) (k : Nat) : (l.take k).all isB = true := by
  rw [List.all_eq_true] at h ⊢
  exact fun x hx => h x (List.mem_of_mem_take hx)

set_option maxHeartbeats 1000000 in
set_option maxRecDepth 100000 in
theorem law_stuffingBegins (a0 a1 a2 : Int) (s : ByteArray) (w0 : (Lit.int .u8 a0).wf = true) (w1 : (Lit.int .u8 a1).wf = true) (w2 : (Lit.int .u8 a2).wf = true) (_w3 : s.size ≤ maxLen) (w : World) (hsh : w.ShapedOpen Tryd.prog) :
    Calls Tryd.prog 4 #[.int .u8 a0, .int .u8 a1, .int .u8 a2, .string s] w fun e w' => e = .returned (.bool true) ∧ Below w.heap.size w w' := by
  have HMX := Lib.hid (mx_of hsh); clear hsh
  have HW0 := Lib.hid w0
  have HW1 := Lib.hid w1
  clear w0 w1
  simp [Lit.wf, IntKind.min, IntKind.max, IntKind.signed, IntKind.bits] at w2
  obtain ⟨n, rfl⟩ : ∃ n : Nat, a2 = n := ⟨a2.toNat, by omega⟩
  by_cases hbin : binT s.data.toList = true
  · obtain ⟨hl, hall⟩ : s.size ≤ 60 ∧ s.data.toList.all isB = true := by
      simp only [binT, Bool.and_eq_true, decide_eq_true_eq] at hbin
      exact ⟨hbin.1, ((chk2_iff _).1 hbin.2).2⟩
    have HB := Lib.hid hbin
    have HA := Lib.hid hall; clear hbin hall
    have ek : ((n : Int)).tmod ((s.size : Int) + 1) = ((n % (s.size + 1) : Nat) : Int) := by
      rw [Int.tmod_eq_emod_of_nonneg (by omega), Int.natCast_emod, Int.natCast_add]; rfl
    have hkle : n % (s.size + 1) ≤ s.size := by have := Nat.mod_lt n (show 0 < s.size + 1 by omega); omega
    obtain ⟨K, hK⟩ : ∃ K, n % (s.size + 1) = K := ⟨_, rfl⟩
    rw [hK] at ek hkle
    clear hK
    go_enter Tryd.func4, Tryd.ntmps4
    go_wp2_with fail
    refine (binary_any _ _).mono ?_
    rintro e x1 ⟨rfl, h1⟩
    rw [HB.out]
    have HM1 := Lib.hid (HMX.out.below h1 (Nat.le_refl _))
    have H1 := Lib.hid h1; clear h1
    go_wp2_with fail
    refine (numbers_any _ _ HW0.out HW1.out _).mono ?_
    rintro e x2 ⟨⟨A, B, hAB, hB, rfl⟩, rfl⟩
    have ev : (s.extract 0 K).data.toList = s.data.toList.take K := Lib.extract_from_zero s K
    have e0 : s.data.toList.length = s.size := rfl
    have e1 : (s.data.toList.take K).length ≤ 60 := by rw [List.length_take]; omega
    have ha2 := all_take HA.out K
    have hpre : s.data.toList.take K <+: s.data.toList := List.take_prefix _ _
    have PV1 := st_small (k := B) (l := s.data.toList.take K) (by omega) (by omega) e1 ha2
    have PV2 := pd_small (d := A) (l := s.data.toList.take K) (by omega) (by omega) ha2
    have PV3 := bo_small (d := A) (k := B) (l := s.data.toList.take K) hAB hB e1 ha2
    rw [← ev] at PV1 PV2 PV3
    have P1 := Lib.hid PV1
    have P2 := Lib.hid PV2
    have P3 := Lib.hid PV3
    have Q1 := Lib.hid (st_small (k := B) (l := s.data.toList) (by omega) (by omega) hl HA.out)
    have Q2 := Lib.hid (pd_small (d := A) (l := s.data.toList) (by omega) (by omega) HA.out)
    have Q3 := Lib.hid (bo_small (d := A) (k := B) (l := s.data.toList) hAB hB hl HA.out)
    have R1 : stf 48 49 B 0 (s.data.toList.take K) <+: stf 48 49 B 0 s.data.toList := by
      obtain ⟨r, hr⟩ := hpre
      have := stf_prefix 48 49 B r (s.data.toList.take K) 0
      rwa [hr] at this
    have R2 : padL A (s.data.toList.take K) <+: padL A s.data.toList := padL_prefix A hpre
    have R3 : padL A (stf 48 49 (B - A) 0 (s.data.toList.take K)) <+: padL A (stf 48 49 (B - A) 0 s.data.toList) := by
      obtain ⟨r, hr⟩ := hpre
      have := stf_prefix 48 49 (B - A) r (s.data.toList.take K) 0
      rw [hr] at this
      exact padL_prefix A this
    have R1 := Lib.hid R1
    have R2 := Lib.hid R2
    have R3 := Lib.hid R3
    clear PV1 PV2 PV3 ev e0 e1 ha2 hpre
    go_wp2_with fail
    refine (Stuff_any _ _ _).mono ?_
    rintro e x2 ⟨rfl, hh⟩
    rw [P1.out.1, P1.out.2]
    have HM2 := Lib.hid (HM1.out.below hh (Nat.le_refl _))
    have H2 := Lib.hid (H1.out.trans (hh.mono H1.out.size)); clear hh
    go_wp2_with fail
    refine (Stuff_any _ _ _).mono ?_
    rintro e x3 ⟨rfl, hh⟩
    rw [Q1.out.1, Q1.out.2]
    have HM3 := Lib.hid (HM2.out.below hh (Nat.le_refl _))
    have H3 := Lib.hid (H2.out.trans (hh.mono H2.out.size)); clear hh
    go_wp2_with fail
    refine (Pad_any _ _ _ HM3.out).mono ?_
    rintro e x4 ⟨rfl, hh⟩
    rw [P2.out.1, P2.out.2]
    have HM4 := Lib.hid (HM3.out.below hh (Nat.le_refl _))
    have H4 := Lib.hid (H3.out.trans (hh.mono H3.out.size)); clear hh
    go_wp2_with fail
    refine (Pad_any _ _ _ HM4.out).mono ?_
    rintro e x5 ⟨rfl, hh⟩
    rw [Q2.out.1, Q2.out.2]
    have HM5 := Lib.hid (HM4.out.below hh (Nat.le_refl _))
    have H5 := Lib.hid (H4.out.trans (hh.mono H4.out.size)); clear hh
    go_wp2_with fail
    refine (Both_any _ _ _ _ HM5.out).mono ?_
    rintro e x6 ⟨rfl, hh⟩
    rw [P3.out.1, P3.out.2]
    have HM6 := Lib.hid (HM5.out.below hh (Nat.le_refl _))
    have H6 := Lib.hid (H5.out.trans (hh.mono H5.out.size)); clear hh
    go_wp2_with fail
    refine (Both_any _ _ _ _ HM6.out).mono ?_
    rintro e x7 ⟨rfl, hh⟩
    rw [Q3.out.1, Q3.out.2]
    have HM7 := Lib.hid (HM6.out.below hh (Nat.le_refl _))
    have H7 := Lib.hid (H6.out.trans (hh.mono H6.out.size)); clear hh
    go_wp2_with fail
    refine (hasPre_any R1.out _).mono ?_
    rintro e x9 ⟨rfl, rfl⟩
    go_wp2_with fail
    refine (hasPre_any R2.out _).mono ?_
    rintro e x9 ⟨rfl, rfl⟩
    go_wp2_with fail
    refine (hasPre_any R3.out _).mono ?_
    rintro e x9 ⟨rfl, rfl⟩
    go_wp2_with fail
    refine (awake_any _ HM7.out).mono ?_
    rintro e x10 ⟨rfl, h7⟩
    have H10 := Lib.hid (H7.out.trans (h7.mono H7.out.size)); clear h7
    go_wp2_with fail
    go_ret
    exact ⟨rfl, H10.out⟩
  · have HB := Lib.hid (show binT s.data.toList = false by simpa using hbin)
    clear hbin
    go_enter Tryd.func4, Tryd.ntmps4
    go_wp2_with fail
    refine (binary_any _ _).mono ?_
    rintro e x1 ⟨rfl, h1⟩
    rw [HB.out]
    have HM1 := Lib.hid (HMX.out.below h1 (Nat.le_refl _))
    have H1 := Lib.hid h1; clear h1
    go_wp2_with fail
    refine (awake_any _ HM1.out).mono ?_
    rintro e x2 ⟨rfl, h2⟩
    have H2 := Lib.hid (H1.out.trans (h2.mono H1.out.size)); clear h2
    go_wp2_with fail
    go_ret
    exact ⟨rfl, H2.out⟩
end Go.Proofs.YtdalcopbaaabiaaDoor
