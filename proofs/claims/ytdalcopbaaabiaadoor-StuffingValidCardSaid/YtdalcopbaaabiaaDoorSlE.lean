/-
  The law of the runs of stuffed words.
-/
import Derived.Test.YtdalcopbaaabiaaDoorStM
import Derived.Test.YtdalcopbaaabiaaDoorSlA
import Derived.Test.YtdalcopbaaabiaaDoorRnGs
namespace Go.Proofs.YtdalcopbaaabiaaDoor
open Go.RowKit

theorem rnS_bound (l : List UInt8) (B : Nat) (h : ∀ k, k ≤ l.length → zrun l k ≤ B) : ∀ k, k + 1 ≤ l.length → ∃ ini n, rnS l (k + 1) = ini ++ [(l.getD k 0, n)] ∧ (l.getD k 0 = 48 → n = zrun l (k + 1)) ∧ ∀ p ∈ ini, p.1 = 48 → p.2 ≤ B
  | 0, _ => ⟨[], 1, by rw [rnS_new l 0 (.inl rfl)]; rfl, fun h0 => by rw [zrun, if_pos h0]; rfl, fun p hp => by cases hp⟩
  | k + 1, hk => by
    obtain ⟨ini, n, h1, h2, h3⟩ := rnS_bound l B h k (by omega)
    by_cases he : l.getD (k + 1) 0 = l.getD k 0
    · refine ⟨ini, n + 1, ?_, fun h0 => ?_, h3⟩
      · rw [rnS, if_pos ⟨by omega, by simpa using he⟩, h1, bump_snoc, he]
      · rw [zrun, if_pos h0, h2 (by rw [← he]; exact h0)]
    · refine ⟨ini ++ [(l.getD k 0, n)], 1, ?_, fun h0 => ?_, fun p hp hp0 => ?_⟩
      · rw [rnS_new l (k + 1) (.inr (by simpa using he)), h1]
      · have hz : zrun l (k + 1) = 0 := by rw [zrun, if_neg (by rw [← h0]; exact fun e => he e.symm)]
        rw [zrun, if_pos h0, hz]
      · rcases List.mem_append.1 hp with hp | hp
        · exact h3 p hp hp0
        · obtain rfl : p = (l.getD k 0, n) := by simpa using hp
          rw [h2 hp0]; exact h _ (by omega)
theorem rnS_all (l : List UInt8) (B : Nat) (h : ∀ k, k ≤ l.length → zrun l k ≤ B) : ∀ p ∈ rnS l l.length, p.1 = 48 → p.2 ≤ B := by
  rcases hl : l.length with _ | k
  · intro p hp; rw [rnS] at hp; cases hp
  · obtain ⟨ini, n, h1, h2, h3⟩ := rnS_bound l B h k (by omega)
    intro p hp hp0
    rw [h1] at hp
    rcases List.mem_append.1 hp with hp | hp
    · exact h3 p hp hp0
    · obtain rfl : p = (l.getD k 0, n) := by simpa using hp
      rw [h2 hp0]; exact h _ (by omega)
theorem digit0_fin : ∀ n : Fin 256, digit (UInt8.ofNat n.val) = 0 → UInt8.ofNat n.val = 48 := by decide +kernel
theorem digit0 {c : UInt8} (h : digit c = 0) : c = 48 := by
  have := digit0_fin ⟨c.toNat, c.toNat_lt⟩
  simp only [UInt8.ofNat_toNat] at this
  exact this h
theorem isB16_fin : ∀ n : Fin 256, isB (UInt8.ofNat n.val) = true → isLet 16 (UInt8.ofNat n.val) = true := by decide +kernel
theorem isB16 {c : UInt8} (h : isB c = true) : isLet 16 c = true := by
  have := isB16_fin ⟨c.toNat, c.toNat_lt⟩
  simp only [UInt8.ofNat_toNat] at this
  exact this h
theorem chk16_of2 {l : List UInt8} (h : chk 2 l = 0) : chk 16 l = 0 := by
  obtain ⟨h1, h2⟩ := (chk2_iff l).1 h
  rw [chk, if_neg (by omega), if_neg (by omega), if_pos]
  rw [List.all_eq_true] at h2 ⊢
  exact fun x hx => isB16 (h2 x hx)
theorem mxL_le (t : Int) (l : List (Int × Int)) (B : Int) (hB : 0 ≤ B) (h : ∀ p ∈ l, p.1 = t → p.2 ≤ B) : ∀ k, k ≤ l.length → mxL t l k ≤ B ∧ 0 ≤ mxL t l k
  | 0, _ => ⟨hB, Int.le_refl _⟩
  | k + 1, hk => by
    obtain ⟨ih, ih2⟩ := mxL_le t l B hB h k (by omega)
    rw [mxL]
    split
    · rename_i hp
      have hm : l.getD k (0, 0) ∈ l := by rw [getD_pair (by omega)]; exact List.getElem_mem _
      have := h _ hm hp
      omega
    · exact ⟨ih, ih2⟩
theorem lg_bound {B : Nat} (hB : 0 < B) {l : List UInt8} (hc : chk 2 (stf 48 49 B 0 l) = 0) : lgE 0 (stf 48 49 B 0 l) = 0 ∧ lgV 0 (stf 48 49 B 0 l) ≤ B ∧ 0 ≤ lgV 0 (stf 48 49 B 0 l) := by
  obtain ⟨h1, h2⟩ := lg_in (t := 0) (chk16_of2 hc) (by omega)
  have := mxL_le 0 (rp (stf 48 49 B 0 l) (stf 48 49 B 0 l).length) (B : Int) (by omega) (fun p hp hp0 => by
    simp only [rp, List.mem_map] at hp
    obtain ⟨q, hq, rfl⟩ := hp
    have := rnS_all (stf 48 49 B 0 l) B (fun k hk => zrun_stf B hB l k hk) q hq (digit0 hp0)
    simp; omega) _ (Nat.le_refl _)
  exact ⟨h1, by rw [h2]; exact this.1, by rw [h2]; exact this.2⟩

set_option maxHeartbeats 1000000 in
set_option maxRecDepth 100000 in
theorem law_stuffingValid (a0 a1 : Int) (s : ByteArray) (w0 : (Lit.int .u8 a0).wf = true) (w1 : (Lit.int .u8 a1).wf = true) (_w2 : s.size ≤ maxLen) (w : World) (hsh : w.ShapedOpen Tryd.prog) :
    Calls Tryd.prog 9 #[.int .u8 a0, .int .u8 a1, .string s] w fun e w' => e = .returned (.bool true) ∧ Below w.heap.size w w' := by
  have HMX := Lib.hid (mx_of hsh); clear hsh
  have HW0 := Lib.hid w0
  have HW1 := Lib.hid w1
  clear w0 w1
  by_cases hbin : binT s.data.toList = true
  · obtain ⟨hl, hall⟩ : s.size ≤ 60 ∧ s.data.toList.all isB = true := by
      simp only [binT, Bool.and_eq_true, decide_eq_true_eq] at hbin
      exact ⟨hbin.1, ((chk2_iff _).1 hbin.2).2⟩
    have HB := Lib.hid hbin
    have HA := Lib.hid hall; clear hbin hall
    go_enter Tryd.func9, Tryd.ntmps9
    go_wp2_with fail
    refine (binary_any _ _).mono ?_
    rintro e x1 ⟨rfl, h1⟩
    rw [HB.out]
    have HM1 := Lib.hid (HMX.out.below h1 (Nat.le_refl _))
    have H1 := Lib.hid h1; clear h1
    go_wp2_with fail
    refine (numbers_any _ _ HW0.out HW1.out _).mono ?_
    rintro e x2 ⟨⟨A, B, hAB, hB, rfl⟩, rfl⟩
    have e0 : s.data.toList.length = s.size := rfl
    have P1 := Lib.hid (st_mid (k := B) (l := s.data.toList) (by omega) (by omega) hl (chk2_small (by omega) HA.out))
    have P2 := Lib.hid (lg_bound (B := B) (l := s.data.toList) (by omega) P1.out.2.2.2)
    have P3 := Lib.hid (bo_small (d := A) (k := B) (l := s.data.toList) hAB hB hl HA.out)
    have hlen4 := stf_len 48 49 (B - A) s.data.toList 0
    have P4 := Lib.hid (show chk 2 (padL A (stf 48 49 (B - A) 0 s.data.toList)) = 0 from chk2_small (padL_small (by omega) (by omega)) (padL_all A _ (stf_all 48 49 (B - A) isB (by decide) _ 0 HA.out)))
    have P5 := Lib.hid (show vld A B 0 false (padL A (stf 48 49 (B - A) 0 s.data.toList)) = true from vld_both A B hAB s.data.toList 0 false (by omega) HA.out)
    clear e0 hlen4
    obtain ⟨X, hX⟩ : ∃ X, stf 48 49 B 0 s.data.toList = X := ⟨_, rfl⟩
    obtain ⟨Y, hY⟩ : ∃ Y, padL A (stf 48 49 (B - A) 0 s.data.toList) = Y := ⟨_, rfl⟩
    rw [hX] at P1 P2
    rw [hY] at P3 P4 P5
    have h5 := P2.out.2.1
    have h6 := P2.out.2.2
    obtain ⟨v, hv⟩ : ∃ v, lgV 0 X = v := ⟨_, rfl⟩
    rw [hv] at h5 h6
    have HV := Lib.hid hv
    clear hX hY hv
    go_wp2_with fail
    refine (Stuff_any _ _ _).mono ?_
    rintro e x2 ⟨rfl, h2⟩
    rw [P1.out.1, P1.out.2.1]
    have HM2 := Lib.hid (HM1.out.below h2 (Nat.le_refl _))
    have H2 := Lib.hid (H1.out.trans (h2.mono H1.out.size)); clear h2
    go_wp2_with fail
    refine (Longest_any _ _ _).mono ?_
    rintro e x3 ⟨rfl, h3⟩
    rw [show lgV 0 (⟨X.toArray⟩ : ByteArray).data.toList = v from HV.out, show lgE 0 (⟨X.toArray⟩ : ByteArray).data.toList = 0 from P2.out.1]
    have HM3 := Lib.hid (HM2.out.below h3 (Nat.le_refl _))
    have H3 := Lib.hid (H2.out.trans (h3.mono H2.out.size)); clear h3
    go_wp2_with fail
    refine (Both_any _ _ _ _ HM3.out).mono ?_
    rintro e x4 ⟨rfl, h4⟩
    rw [P3.out.1, P3.out.2]
    have HM4 := Lib.hid (HM3.out.below h4 (Nat.le_refl _))
    have H4 := Lib.hid (H3.out.trans (h4.mono H3.out.size)); clear h4
    go_wp2_with fail
    refine (rlValid_any A B ⟨Y.toArray⟩ (by omega) (by omega) P4.out P5.out _).mono ?_
    rintro e x5 ⟨rfl, n, rfl⟩
    have HM5 := Lib.hid (HM4.out.drewN n)
    have H5 := Lib.hid (below_drewN H4.out n)
    go_wp2_with fail
    refine (awake_any _ HM5.out).mono ?_
    rintro e x7 ⟨rfl, h7⟩
    have H7 := Lib.hid (H5.out.trans (h7.mono H5.out.size)); clear h7
    go_wp2_with fail
    go_ret
    exact ⟨rfl, H7.out⟩
  · have HB := Lib.hid (show binT s.data.toList = false by simpa using hbin)
    clear hbin
    go_enter Tryd.func9, Tryd.ntmps9
    go_wp2_with fail
    refine (binary_any _ _).mono ?_
    rintro e x1 ⟨rfl, h1⟩
    rw [HB.out]
    have HM1 := Lib.hid (HMX.out.below h1 (Nat.le_refl _))
    have H1 := Lib.hid h1; clear h1
    go_wp2_with fail
    refine (awake_any _ HM1.out).mono ?_
    rintro e x2 ⟨rfl, h2⟩
    have H2 := Lib.hid (H1.out.trans (h2.mono H1.out.size)); clear h2
    go_wp2_with fail
    go_ret
    exact ⟨rfl, H2.out⟩
end Go.Proofs.YtdalcopbaaabiaaDoor
