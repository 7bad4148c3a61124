/-
  InterleaveNumbers returns true for every input: the walk.
-/
import Derived.Test.YtgjlhjklcgladaaIlwB
import Derived.Test.YtgjlhjklcgladaaIlvF
import Derived.OpenShut
namespace Go.Proofs.Ytgjlhjklcgladaa
open Go.RowKit

theorem chk_all2 : (List.range 61).all (fun n => (List.range 61).all fun r => decide (r < 13) || decide (n < r) || chkOne r n) = true := by decide +kernel

theorem ord_facts2 (r n : Nat) (hr : 1 ≤ r) (hn : 1 ≤ n) (hn2 : n ≤ 60) (hd : n % r = 0) :
    1 ≤ ordR r n ∧ ordR r n ≤ n ∧ (∀ j, j ≤ n → 1 ≤ (ordK (posn (n / r) r) n j).2 ∧ (ordK (posn (n / r) r) n j).2 ≤ 1000000) ∧
      ∀ j, j < ordR r n → same n (atK (posn (n / r) r) n (j + 1)) = decide (j + 1 = ordR r n) := by
  by_cases h12 : r ≤ 12
  · exact ord_facts r n hr h12 hn hn2 hd
  have hrn : r ≤ n := Nat.le_of_dvd hn (Nat.dvd_of_mod_eq_zero hd)
  have h := chk_all2
  rw [List.all_eq_true] at h
  have h2 := h n (List.mem_range.2 (by omega))
  rw [List.all_eq_true] at h2
  have h3 := h2 r (List.mem_range.2 (by omega))
  rw [decide_eq_false (show ¬ r < 13 by omega), decide_eq_false (show ¬ n < r by omega), Bool.false_or, Bool.false_or] at h3
  unfold chkOne at h3
  have e3 : (n % r != 0) = false := by rw [bne_eq_false_iff_eq]; exact hd
  rw [e3, Bool.false_or, List.any_eq_true] at h3
  obtain ⟨N, hN, h4⟩ := h3
  simp only [Bool.and_eq_true, decide_eq_true_eq] at h4
  obtain ⟨a1, a2, a3, a4⟩ := h4
  have o := ordOk_get (posn (n / r) r) n N n 0 a3 a1 (by omega)
  rw [Nat.zero_add] at o
  have hR : ordR r n = N := o.1
  rw [hR]
  refine ⟨a1, a2, fun j hj => o.2 j (Nat.zero_le _) hj, fun j hj => ?_⟩
  exact okFrom_get _ _ _ N 0 a4 j (Nat.zero_le _) (by omega)

theorem some_of_calls {P : Program} {f : FuncId} {args : Array Value} {w : World} {R : Ending → World → Prop} (h : Calls P f args w R) : ∃ e w', R e w' := by
  obtain ⟨e, w', _, hR, _⟩ := h []
  exact ⟨e, w', hR⟩

theorem spread_val (r n b : Nat) (w0 : World) (hf : fitsE r n = 0) (hn : n ≤ 4096) (hb1 : 1 ≤ b) (hb2 : b ≤ n) :
    ∃ a : Nat, IsSpread (posn (n / r) r) n b a ∧
      ∀ w, Calls Try.prog 24 #[.int .i64 r, .int .i64 n, .int .i64 b] w fun e w' => e = .returned (.tuple #[.int .i64 a, .int .i64 0]) ∧ Below w.heap.size w w' := by
  obtain ⟨_, _, a, ha, -⟩ := some_of_calls (spread_ok r n b w0 hf hn hb1 hb2)
  refine ⟨a, ha, fun w => (spread_ok r n b w hf hn hb1 hb2).mono fun e w' ⟨a', ha', he, hb⟩ => ?_⟩
  rw [ha'.unique ha] at he
  exact ⟨he, hb⟩

theorem spreads_all (rows n burst : Int) (w0 : World) : ∃ v : Int,
    (∀ w, Calls Try.prog 24 #[.int .i64 rows, .int .i64 n, .int .i64 burst] w fun e w' => e = .returned (.tuple #[.int .i64 v, .int .i64 (spdE rows n burst)]) ∧ Below w.heap.size w w') ∧
    (∀ w, Calls Try.prog 25 #[.int .i64 rows, .int .i64 n, .int .i64 burst] w fun e w' => e = .returned (.tuple #[.int .i64 v, .int .i64 (spdE rows n burst)]) ∧ Below w.heap.size w w') := by
  by_cases hE : spdE rows n burst = 0
  · have hf : fitsE rows n = 0 := by
      by_cases h : fitsE rows n = 0
      · exact h
      · rw [spdE_fits h] at hE; exact hE
    have h2 := hE
    rw [spdE, if_neg (by simp [hf])] at h2
    by_cases hb : burst < 1 ∨ n < burst
    · rw [if_pos hb] at h2; omega
    rw [if_neg hb] at h2
    by_cases h4 : 4096 < n
    · rw [if_pos h4] at h2; omega
    obtain ⟨f1, f2, f3, f4, f5⟩ := fits_ok hf
    obtain ⟨r, rfl⟩ := Int.eq_ofNat_of_zero_le (show 0 ≤ rows by omega)
    obtain ⟨m, rfl⟩ := Int.eq_ofNat_of_zero_le (show 0 ≤ n by omega)
    obtain ⟨b, rfl⟩ := Int.eq_ofNat_of_zero_le (show 0 ≤ burst by omega)
    obtain ⟨a, ha, hc⟩ := spread_val r m b w0 hf (by omega) (by omega) (by omega)
    refine ⟨a, fun w => by rw [hE]; exact hc w, fun w => ?_⟩
    rw [hE]
    refine (refSpread_ok r m b w hf (by omega) (by omega) (by omega)).mono fun e w' ⟨a', ha', he, hb⟩ => ?_
    rw [ha'.unique ha] at he
    exact ⟨he, hb⟩
  · exact ⟨0, fun w => spread_not rows n burst w hE, fun w => refSpread_not rows n burst w hE⟩

theorem orders_all (rows n : Int) (hn : n ≤ 60 ∨ 4096 < n) : ∃ v : Int,
    (∀ w, Calls Try.prog 15 #[.int .i64 rows, .int .i64 n] w fun e w' => e = .returned (.tuple #[.int .i64 v, .int .i64 (ordE rows n)]) ∧ Below w.heap.size w w') ∧
    (∀ w, Calls Try.prog 26 #[.int .i64 rows, .int .i64 n] w fun e w' => e = .returned (.tuple #[.int .i64 v, .int .i64 (ordE rows n)]) ∧ Below w.heap.size w w') := by
  by_cases hE : ordE rows n = 0
  · have hf : fitsE rows n = 0 := by
      by_cases h : fitsE rows n = 0
      · exact h
      · rw [ordE, if_pos h] at hE; exact hE
    have h2 := hE
    rw [ordE, if_neg (by simp [hf])] at h2
    by_cases h4 : 4096 < n
    · rw [if_pos h4] at h2; omega
    obtain ⟨f1, f2, f3, f4, f5⟩ := fits_ok hf
    obtain ⟨r, rfl⟩ := Int.eq_ofNat_of_zero_le (show 0 ≤ rows by omega)
    obtain ⟨m, rfl⟩ := Int.eq_ofNat_of_zero_le (show 0 ≤ n by omega)
    have hd : m % r = 0 := by exact_mod_cast f5
    obtain ⟨o1, o2, o3, o4⟩ := ord_facts2 r m (by omega) (by omega) (by omega) hd
    refine ⟨(ordR r m : Nat), fun w => ?_, fun w => ?_⟩
    · rw [hE]; exact order_ok r m w hf (by omega) o3
    · rw [hE]; exact refOrder_ok r m (ordR r m) w hf (by omega) o1 (by omega) o4
  · exact ⟨0, fun w => order_not rows n w hE, fun w => refOrder_not rows n w hE⟩

set_option maxRecDepth 100000 in
set_option maxHeartbeats 2000000 in
theorem numbers_a (rows n i burst : Int) (w : World) (hn : n ≤ 60) :
    Calls Try.prog 8 #[.int .i64 rows, .int .i64 n, .int .i64 i, .int .i64 burst] w fun e w' => e = .returned (.bool true) ∧ Below w.heap.size w w' := by
  obtain ⟨v, s1, s2⟩ := spreads_all rows n burst w
  obtain ⟨u, o1, o2⟩ := orders_all rows n (by omega)
  have S1 := Lib.hid s1; have S2 := Lib.hid s2; have O1 := Lib.hid o1; have O2 := Lib.hid o2; clear s1 s2 o1 o2
  have g1 : decide (60 < n) = false := by rw [decide_eq_false_iff_not]; omega
  go_enter Try.func8, Try.ntmps8
  go_wp2_with fail
  refine (position_any rows n i _).mono ?_
  rintro e w1 ⟨rfl, h1⟩
  have H1 := Lib.hid h1; clear h1
  go_wp2_with fail
  refine (refPosition_any rows n i _).mono ?_
  rintro e w2 ⟨rfl, h2⟩
  have H2 : Hid (Below w1.heap.size w1 w2) := Lib.hid (by obtain ⟨m, rfl⟩ := h2; exact below_ofN _)
  clear h2
  go_wp2_with fail
  refine (S1.out _).mono ?_
  rintro e w3 ⟨rfl, h3⟩
  have H3 := Lib.hid h3; clear h3
  go_wp2_with fail
  refine (S2.out _).mono ?_
  rintro e w4 ⟨rfl, h4⟩
  have H4 := Lib.hid h4; clear h4
  go_wp2_with fail
  refine (O1.out _).mono ?_
  rintro e w5 ⟨rfl, h5⟩
  have H5 := Lib.hid h5; clear h5
  go_wp2_with fail
  refine (O2.out _).mono ?_
  rintro e w6 ⟨rfl, h6⟩
  have H6 := Lib.hid h6; clear h6
  go_wp2_with fail
  refine (awake_any _).mono ?_
  rintro e w9 ⟨rfl, h9⟩
  have H9 := Lib.hid h9; clear h9
  go_wp2_with fail
  go_ret
  exact ⟨rfl, ext_trans H1.out (ext_trans H2.out (ext_trans H3.out (ext_trans H4.out (ext_trans H5.out (ext_trans H6.out H9.out)))))⟩

set_option maxRecDepth 100000 in
set_option maxHeartbeats 2000000 in
theorem numbers_b (rows n i burst : Int) (w : World) (hn : 4096 < n) :
    Calls Try.prog 8 #[.int .i64 rows, .int .i64 n, .int .i64 i, .int .i64 burst] w fun e w' => e = .returned (.bool true) ∧ Below w.heap.size w w' := by
  obtain ⟨v, s1, s2⟩ := spreads_all rows n burst w
  obtain ⟨u, o1, o2⟩ := orders_all rows n (by omega)
  have S1 := Lib.hid s1; have S2 := Lib.hid s2; have O1 := Lib.hid o1; have O2 := Lib.hid o2; clear s1 s2 o1 o2
  have g1 : decide (60 < n) = true := by rw [decide_eq_true_iff]; omega
  have g2 : decide (n ≤ 4096) = false := by rw [decide_eq_false_iff_not]; omega
  go_enter Try.func8, Try.ntmps8
  go_wp2_with fail
  refine (position_any rows n i _).mono ?_
  rintro e w1 ⟨rfl, h1⟩
  have H1 := Lib.hid h1; clear h1
  go_wp2_with fail
  refine (refPosition_any rows n i _).mono ?_
  rintro e w2 ⟨rfl, h2⟩
  have H2 : Hid (Below w1.heap.size w1 w2) := Lib.hid (by obtain ⟨m, rfl⟩ := h2; exact below_ofN _)
  clear h2
  go_wp2_with fail
  refine (S1.out _).mono ?_
  rintro e w3 ⟨rfl, h3⟩
  have H3 := Lib.hid h3; clear h3
  go_wp2_with fail
  refine (S2.out _).mono ?_
  rintro e w4 ⟨rfl, h4⟩
  have H4 := Lib.hid h4; clear h4
  go_wp2_with fail
  refine (O1.out _).mono ?_
  rintro e w5 ⟨rfl, h5⟩
  have H5 := Lib.hid h5; clear h5
  go_wp2_with fail
  refine (O2.out _).mono ?_
  rintro e w6 ⟨rfl, h6⟩
  have H6 := Lib.hid h6; clear h6
  go_wp2_with fail
  refine (awake_any _).mono ?_
  rintro e w9 ⟨rfl, h9⟩
  have H9 := Lib.hid h9; clear h9
  go_wp2_with fail
  go_ret
  exact ⟨rfl, ext_trans H1.out (ext_trans H2.out (ext_trans H3.out (ext_trans H4.out (ext_trans H5.out (ext_trans H6.out H9.out)))))⟩

set_option maxRecDepth 100000 in
set_option maxHeartbeats 1000000 in
theorem law_interleaveNumbers (rows n i burst : Int) (_w0 : (Lit.int .i64 rows).wf = true) (_w1 : (Lit.int .i64 n).wf = true) (_w2 : (Lit.int .i64 i).wf = true) (_w3 : (Lit.int .i64 burst).wf = true) (w : World) :
    Calls Try.prog 8 #[.int .i64 rows, .int .i64 n, .int .i64 i, .int .i64 burst] w fun e w' => e = .returned (.bool true) ∧ Below w.heap.size w w' := by
  by_cases h1 : n ≤ 60
  · exact numbers_a rows n i burst w h1
  by_cases h2 : 4096 < n
  · exact numbers_b rows n i burst w h2
  have g1 : decide (60 < n) = true := by rw [decide_eq_true_iff]; omega
  have g2 : decide (n ≤ 4096) = true := by rw [decide_eq_true_iff]; omega
  clear h1 h2 _w0 _w1 _w2 _w3
  go_enter Try.func8, Try.ntmps8
  go_wp2_with (go_at_call 11; refine (awake_any _).mono ?_; rintro e w' ⟨rfl, hb⟩)
  go_ret
  exact ⟨rfl, hb⟩
end Go.Proofs.Ytgjlhjklcgladaa
