/-
  InterleaveWords returns true for every input: the walk.
-/
import Derived.Test.YtgjlhjklcgladaaIlvF
import Derived.Test.YtgjlhjklcgladaaIlvU
import Derived.OpenShut
namespace Go.Proofs.Ytgjlhjklcgladaa
open Go.RowKit

set_option maxRecDepth 100000 in
set_option maxHeartbeats 2000000 in
theorem words_a (n : Int) (s : ByteArray) (hs : s.size ≤ maxLen) (w : World) (HG : Hid (greatB s.size = false)) (h1 : n ≤ 20) :
    Calls Try.prog 6 #[.int .i64 n, .string s] w fun e w' => e = .returned (.bool true) ∧ Below w.heap.size w w' := by
  have hs' := hs
  unfold maxLen at hs'
  have HS := Lib.hid hs; clear hs
  have g1 : decide (20 < n) = false := by rw [decide_eq_false_iff_not]; omega
  go_enter Try.func6, Try.ntmps6
  go_wp2_with (go_at_call 16; refine (great_any _ _ HS.out).mono ?_; rintro e w' ⟨rfl, rfl⟩; rw [HG.out])
  refine (blockB_any n s _ HS.out).mono ?_
  rintro e w1 ⟨rfl, h1⟩
  have H1 := Lib.hid h1; clear h1
  go_wp2_with fail
  refine (refBlock_any n s _ HS.out).mono ?_
  rintro e w2 ⟨rfl, h2⟩
  have H2 := Lib.hid h2; clear h2
  go_wp2_with fail
  refine (unblockB_any n s _ HS.out).mono ?_
  rintro e w3 ⟨rfl, h3⟩
  have H3 := Lib.hid h3; clear h3
  go_wp2_with fail
  refine (refUnblock_any n s _ HS.out).mono ?_
  rintro e w4 ⟨rfl, h4⟩
  have H4 := Lib.hid h4; clear h4
  go_wp2_with fail
  refine (delay_any n s _ HS.out).mono ?_
  rintro e w5 ⟨rfl, h5⟩
  have H5 := Lib.hid h5; clear h5
  go_wp2_with fail
  refine (refDelay_any n s _).mono ?_
  rintro e w6 ⟨rfl, h6⟩
  have H6 := Lib.hid h6; clear h6
  go_wp2_with fail
  refine (undelay_any n s _ HS.out).mono ?_
  rintro e w7 ⟨rfl, h7⟩
  have H7 := Lib.hid h7; clear h7
  go_wp2_with fail
  refine (refUndelay_any n s _).mono ?_
  rintro e w8 ⟨rfl, h8⟩
  have H8 := Lib.hid h8; clear h8
  go_wp2_with fail
  refine (awake_any _).mono ?_
  rintro e w9 ⟨rfl, h9⟩
  have H9 := Lib.hid h9; clear h9
  go_wp2_with fail
  go_ret
  exact ⟨rfl, ext_trans H1.out (ext_trans H2.out (ext_trans H3.out (ext_trans H4.out (ext_trans H5.out (ext_trans H6.out (ext_trans H7.out (ext_trans H8.out H9.out)))))))⟩

set_option maxRecDepth 100000 in
set_option maxHeartbeats 2000000 in
theorem words_b (n : Int) (s : ByteArray) (hs : s.size ≤ maxLen) (w : World) (HG : Hid (greatB s.size = false)) (h1 : 20 < n) (h2 : 4096 < n) :
    Calls Try.prog 6 #[.int .i64 n, .string s] w fun e w' => e = .returned (.bool true) ∧ Below w.heap.size w w' := by
  have hs' := hs
  unfold maxLen at hs'
  have HS := Lib.hid hs; clear hs
  have g1 : decide (20 < n) = true := by rw [decide_eq_true_iff]; omega
  have g2 : decide (n ≤ 4096) = false := by rw [decide_eq_false_iff_not]; omega
  go_enter Try.func6, Try.ntmps6
  go_wp2_with (go_at_call 16; refine (great_any _ _ HS.out).mono ?_; rintro e w' ⟨rfl, rfl⟩; rw [HG.out])
  refine (blockB_any n s _ HS.out).mono ?_
  rintro e w1 ⟨rfl, h1⟩
  have H1 := Lib.hid h1; clear h1
  go_wp2_with fail
  refine (refBlock_any n s _ HS.out).mono ?_
  rintro e w2 ⟨rfl, h2⟩
  have H2 := Lib.hid h2; clear h2
  go_wp2_with fail
  refine (unblockB_any n s _ HS.out).mono ?_
  rintro e w3 ⟨rfl, h3⟩
  have H3 := Lib.hid h3; clear h3
  go_wp2_with fail
  refine (refUnblock_any n s _ HS.out).mono ?_
  rintro e w4 ⟨rfl, h4⟩
  have H4 := Lib.hid h4; clear h4
  go_wp2_with fail
  refine (delay_any n s _ HS.out).mono ?_
  rintro e w5 ⟨rfl, h5⟩
  have H5 := Lib.hid h5; clear h5
  go_wp2_with fail
  refine (refDelay_any n s _).mono ?_
  rintro e w6 ⟨rfl, h6⟩
  have H6 := Lib.hid h6; clear h6
  go_wp2_with fail
  refine (undelay_any n s _ HS.out).mono ?_
  rintro e w7 ⟨rfl, h7⟩
  have H7 := Lib.hid h7; clear h7
  go_wp2_with fail
  refine (refUndelay_any n s _).mono ?_
  rintro e w8 ⟨rfl, h8⟩
  have H8 := Lib.hid h8; clear h8
  go_wp2_with fail
  refine (awake_any _).mono ?_
  rintro e w9 ⟨rfl, h9⟩
  have H9 := Lib.hid h9; clear h9
  go_wp2_with fail
  go_ret
  exact ⟨rfl, ext_trans H1.out (ext_trans H2.out (ext_trans H3.out (ext_trans H4.out (ext_trans H5.out (ext_trans H6.out (ext_trans H7.out (ext_trans H8.out H9.out)))))))⟩

set_option maxRecDepth 100000 in
set_option maxHeartbeats 2000000 in
theorem words_c (n : Int) (s : ByteArray) (hs : s.size ≤ maxLen) (w : World) (HG : Hid (greatB s.size = false)) (h1 : 20 < n) (h2 : n ≤ 4096) (h3 : 65536 < s.size) :
    Calls Try.prog 6 #[.int .i64 n, .string s] w fun e w' => e = .returned (.bool true) ∧ Below w.heap.size w w' := by
  have hs' := hs
  unfold maxLen at hs'
  have HS := Lib.hid hs; clear hs
  have g1 : decide (20 < n) = true := by rw [decide_eq_true_iff]; omega
  have g2 : decide (n ≤ 4096) = true := by rw [decide_eq_true_iff]; omega
  have g3 : decide ((s.size : Int) ≤ 65536) = false := by rw [decide_eq_false_iff_not]; omega
  go_enter Try.func6, Try.ntmps6
  go_wp2_with (go_at_call 16; refine (great_any _ _ HS.out).mono ?_; rintro e w' ⟨rfl, rfl⟩; rw [HG.out])
  refine (blockB_any n s _ HS.out).mono ?_
  rintro e w1 ⟨rfl, h1⟩
  have H1 := Lib.hid h1; clear h1
  go_wp2_with fail
  refine (refBlock_any n s _ HS.out).mono ?_
  rintro e w2 ⟨rfl, h2⟩
  have H2 := Lib.hid h2; clear h2
  go_wp2_with fail
  refine (unblockB_any n s _ HS.out).mono ?_
  rintro e w3 ⟨rfl, h3⟩
  have H3 := Lib.hid h3; clear h3
  go_wp2_with fail
  refine (refUnblock_any n s _ HS.out).mono ?_
  rintro e w4 ⟨rfl, h4⟩
  have H4 := Lib.hid h4; clear h4
  go_wp2_with fail
  refine (delay_any n s _ HS.out).mono ?_
  rintro e w5 ⟨rfl, h5⟩
  have H5 := Lib.hid h5; clear h5
  go_wp2_with fail
  refine (refDelay_any n s _).mono ?_
  rintro e w6 ⟨rfl, h6⟩
  have H6 := Lib.hid h6; clear h6
  go_wp2_with fail
  refine (undelay_any n s _ HS.out).mono ?_
  rintro e w7 ⟨rfl, h7⟩
  have H7 := Lib.hid h7; clear h7
  go_wp2_with fail
  refine (refUndelay_any n s _).mono ?_
  rintro e w8 ⟨rfl, h8⟩
  have H8 := Lib.hid h8; clear h8
  go_wp2_with fail
  refine (awake_any _).mono ?_
  rintro e w9 ⟨rfl, h9⟩
  have H9 := Lib.hid h9; clear h9
  go_wp2_with fail
  go_ret
  exact ⟨rfl, ext_trans H1.out (ext_trans H2.out (ext_trans H3.out (ext_trans H4.out (ext_trans H5.out (ext_trans H6.out (ext_trans H7.out (ext_trans H8.out H9.out)))))))⟩

set_option maxRecDepth 100000 in
set_option maxHeartbeats 1000000 in
theorem law_interleaveWords (n : Int) (s : ByteArray) (_w0 : (Lit.int .i64 n).wf = true) (hs : s.size ≤ maxLen) (w : World) :
    Calls Try.prog 6 #[.int .i64 n, .string s] w fun e w' => e = .returned (.bool true) ∧ Below w.heap.size w w' := by
  by_cases hg : greatB s.size = true
  · have HG := Lib.hid hg; clear hg
    have HS := Lib.hid hs; clear hs
    go_enter Try.func6, Try.ntmps6
    go_wp2_with (first | (go_at_call 16; refine (great_any _ _ HS.out).mono ?_; rintro e w' ⟨rfl, rfl⟩; rw [HG.out]) | (go_at_call 11; refine (awake_any _).mono ?_; rintro e w' ⟨rfl, hb⟩))
    go_ret
    exact ⟨rfl, hb⟩
  · have hg' : greatB s.size = false := by simpa using hg
    have HG := Lib.hid hg'; clear hg hg'
    by_cases h1 : n ≤ 20
    · exact words_a n s hs w HG h1
    by_cases h2 : 4096 < n
    · exact words_b n s hs w HG (by omega) h2
    by_cases h3 : 65536 < s.size
    · exact words_c n s hs w HG (by omega) (by omega) h3
    have g1 : decide (20 < n) = true := by rw [decide_eq_true_iff]; omega
    have g2 : decide (n ≤ 4096) = true := by rw [decide_eq_true_iff]; omega
    have g3 : decide ((s.size : Int) ≤ 65536) = true := by rw [decide_eq_true_iff]; omega
    have HS := Lib.hid hs; clear hs h1 h2 h3
    go_enter Try.func6, Try.ntmps6
    go_wp2_with (first | (go_at_call 16; refine (great_any _ _ HS.out).mono ?_; rintro e w' ⟨rfl, rfl⟩; rw [HG.out]) | (go_at_call 11; refine (awake_any _).mono ?_; rintro e w' ⟨rfl, hb⟩))
    go_ret
    exact ⟨rfl, hb⟩
end Go.Proofs.Ytgjlhjklcgladaa
