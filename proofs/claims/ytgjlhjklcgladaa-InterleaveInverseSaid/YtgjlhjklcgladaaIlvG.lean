/-
  InterleaveInverse returns true for every input: the walk.
-/
import Derived.Test.YtgjlhjklcgladaaIlvP
import Derived.OpenShut
namespace Go.Proofs.Ytgjlhjklcgladaa
open Go.RowKit

set_option maxHeartbeats 1000000 in
theorem law_interleaveInverse (a0 : Int) (s : ByteArray) (w0 : (Lit.int .u8 a0).wf = true) (hs : s.size ≤ maxLen) (w : World) :
    Calls Try.prog 3 #[.int .u8 a0, .string s] w fun e w' => e = .returned (.bool true) ∧ Below w.heap.size w w' := by
  have hbd := bounds_u8 w0
  have hs' := hs
  unfold maxLen at hs'
  obtain ⟨h0, h255⟩ := hbd
  have r1 : 1 ≤ 1 + a0 % 12 := by omega
  have r2 : 1 + a0 % 12 ≤ 12 := by omega
  by_cases hf : fineB s.data.toList = true
  · have HF := Lib.hid hf; clear hf
    by_cases hl : s.size = 0
    · have hl' : ((s.size : Int) == 0) = true := by simp [hl]
      clear hl w0
      go_enter Try.func3, Try.ntmps3
      go_wp2_with (first | (go_at_call 10; refine (fine_yes _ _ HF.out).mono ?_; rintro e w' ⟨rfl, rfl⟩) | (go_at_call 11; refine (awake_any _).mono ?_; rintro e w' ⟨rfl, hb⟩))
      go_ret
      exact ⟨rfl, hb⟩
    · have hl' : ((s.size : Int) == 0) = false := by simp [hl]
      by_cases hm : (s.size : Int) % (1 + a0 % 12) = 0
      · have hm' : ((s.size : Int) % (1 + a0 % 12) != 0) = false := by simp [hm]
        have hf := HF.out
        unfold fineB at hf
        rw [Bool.and_eq_true, decide_eq_true_eq, beq_iff_eq] at hf
        obtain ⟨f1, f2⟩ := hf
        have hsz : s.size ≤ 60 := f1
        obtain ⟨k1, n1, k2, k3, k4, k5, k6, k7⟩ := inv_all (1 + a0 % 12) s.data.toList f2 (show 1 ≤ s.size by omega) r1 (by omega) hm
        obtain ⟨a, ha⟩ : ∃ a : ByteArray, a = ⟨(blkS (1 + a0 % 12) s.data.toList).toArray⟩ := ⟨_, rfl⟩
        obtain ⟨c, hc⟩ : ∃ c : ByteArray, c = ⟨(ublS (1 + a0 % 12) s.data.toList).toArray⟩ := ⟨_, rfl⟩
        have hal : a.data.toList = blkS (1 + a0 % 12) s.data.toList := by rw [ha]
        have hcl : c.data.toList = ublS (1 + a0 % 12) s.data.toList := by rw [hc]
        have hasz : a.size = s.size := by
          show a.data.size = _
          rw [← Array.length_toList, hal, n1]; rfl
        have hcsz : c.size ≤ 60 := by
          show c.data.size ≤ _
          rw [← Array.length_toList, hcl, ublS, if_neg (by simp [k1]), takeL_len]; exact hsz
        have hsb : (⟨s.data.toList.toArray⟩ : ByteArray) = s := by simp
        have c1 := fun w => blockB_any (1 + a0 % 12) s w hs
        have c2 := fun w => unblockB_any (1 + a0 % 12) a w (by unfold maxLen; omega)
        have c3 := fun w => unblockB_any (1 + a0 % 12) s w hs
        have c4 := fun w => blockB_any (1 + a0 % 12) c w (by unfold maxLen; omega)
        have c5 := fun w => blockB_any ((s.size : Int) / (1 + a0 % 12)) a w (by unfold maxLen; omega)
        rw [nz_len] at k6 k7
        simp only [k1, ← ha] at c1
        simp only [hal, k2, k3, hsb] at c2
        simp only [k1, ← hc] at c3
        simp only [hcl, k4, k5, hsb] at c4
        simp only [hal, k6, k7, hsb] at c5
        have q0 : 0 ≤ (s.size : Int) / (1 + a0 % 12) := Int.ediv_nonneg (by omega) (by omega)
        have q1 : (s.size : Int) / (1 + a0 % 12) ≤ 60 := Int.le_trans (Int.ediv_le_self _ (by omega)) (by omega)
        have C1 := Lib.hid c1; have C2 := Lib.hid c2; have C3 := Lib.hid c3; have C4 := Lib.hid c4; have C5 := Lib.hid c5
        have HA := Lib.hid hasz
        clear hl hm k1 n1 k2 k3 k4 k5 k6 k7 ha hc hal hcl hsb c1 c2 c3 c4 c5 f1 f2 w0 hasz
        go_enter Try.func3, Try.ntmps3
        go_wp2_with (go_at_call 10; refine (fine_yes _ _ HF.out).mono ?_; rintro e w' ⟨rfl, rfl⟩)
        refine (C1.out _).mono ?_
        rintro e w1 ⟨rfl, h1⟩
        have H1 := Lib.hid h1; clear h1
        go_wp2_with fail
        refine (C2.out _).mono ?_
        rintro e w2 ⟨rfl, h2⟩
        have H2 := Lib.hid h2; clear h2
        go_wp2_with fail
        refine (C3.out _).mono ?_
        rintro e w3 ⟨rfl, h3⟩
        have H3 := Lib.hid h3; clear h3
        go_wp2_with fail
        refine (C4.out _).mono ?_
        rintro e w4 ⟨rfl, h4⟩
        have H4 := Lib.hid h4; clear h4
        go_wp2_with fail
        refine (C5.out _).mono ?_
        rintro e w5 ⟨rfl, h5⟩
        have H5 := Lib.hid h5; clear h5
        have hasz' := HA.out
        go_wp2_with fail
        refine (awake_any _).mono ?_
        rintro e w6 ⟨rfl, h6⟩
        have H6 := Lib.hid h6; clear h6
        go_wp2_with fail
        go_ret
        exact ⟨rfl, ext_trans H1.out (ext_trans H2.out (ext_trans H3.out (ext_trans H4.out (ext_trans H5.out H6.out))))⟩
      · have hm' : ((s.size : Int) % (1 + a0 % 12) != 0) = true := by simp [hm]
        clear hl hm w0
        go_enter Try.func3, Try.ntmps3
        go_wp2_with (first | (go_at_call 10; refine (fine_yes _ _ HF.out).mono ?_; rintro e w' ⟨rfl, rfl⟩) | (go_at_call 11; refine (awake_any _).mono ?_; rintro e w' ⟨rfl, hb⟩))
        go_ret
        exact ⟨rfl, hb⟩
  · have hf' : fineB s.data.toList = false := by simpa using hf
    have HF := Lib.hid hf'; clear hf hf' w0
    go_enter Try.func3, Try.ntmps3
    go_wp2_with (first | (go_at_call 10; refine (fine_no _ _ HF.out).mono ?_; rintro e w' ⟨rfl, rfl⟩) | (go_at_call 11; refine (awake_any _).mono ?_; rintro e w' ⟨rfl, hb⟩))
    go_ret
    exact ⟨rfl, hb⟩
end Go.Proofs.Ytgjlhjklcgladaa
