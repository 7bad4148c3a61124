/-
  InterleaveSpreads returns true for every input: the walk.
-/
import Derived.Test.YtgjlhjklcgladaaIlwD
namespace Go.Proofs.Ytgjlhjklcgladaa
open Go.RowKit

theorem spreads_facts (a0 a1 a2 : Int) (w0 : World) (r c k n : Nat) (hr : a0 % 10 = (r : Int)) (hc : a1 % 6 = (c : Int)) (hnn : (1 + (r : Int)) * (1 + (c : Int)) = (n : Int)) (hk : a2 % (n : Int) = (k : Int)) :
    1 ≤ n ∧ n ≤ 60 ∧ k < n ∧ ∃ v : Nat, 1 ≤ v ∧ v ≤ k + 1 ∧ (2 ≤ c → k ≤ r → v = 1) ∧
      (∀ w, Calls Try.prog 24 #[.int .i64 (1 + (r : Int)), .int .i64 n, .int .i64 (1 + (k : Int))] w fun e w' => e = .returned (.tuple #[.int .i64 v, .int .i64 0]) ∧ Below w.heap.size w w') ∧
      (∀ w, Calls Try.prog 24 #[.int .i64 (1 + (r : Int)), .int .i64 n, .int .i64 n] w fun e w' => e = .returned (.tuple #[.int .i64 n, .int .i64 0]) ∧ Below w.heap.size w w') ∧
      (k + 1 < n → ∃ u : Nat, v ≤ u ∧ ∀ w, Calls Try.prog 24 #[.int .i64 (1 + (r : Int)), .int .i64 n, .int .i64 (1 + (k : Int) + 1)] w fun e w' => e = .returned (.tuple #[.int .i64 u, .int .i64 0]) ∧ Below w.heap.size w w') := by
  have hN : (r + 1) * (c + 1) = n := by
    have h : (((r + 1) * (c + 1) : Nat) : Int) = (n : Int) := by rw [← hnn]; push_cast; rw [Int.add_comm (r : Int), Int.add_comm (c : Int)]
    exact Int.ofNat.inj h
  have n1 : 1 ≤ n := by rw [← hN]; exact Nat.mul_pos (by omega) (by omega)
  have n2 : n ≤ 60 := by
    have : (r + 1) * (c + 1) ≤ 10 * 6 := Nat.mul_le_mul (by omega) (by omega)
    omega
  have hkn : k < n := by have := Int.emod_lt_of_pos a2 (show 0 < (n : Int) by omega); omega
  have er : ((r + 1 : Nat) : Int) = 1 + (r : Int) := by omega
  have ek : ((k + 1 : Nat) : Int) = 1 + (k : Int) := by omega
  have ek2 : ((k + 1 + 1 : Nat) : Int) = 1 + (k : Int) + 1 := by omega
  have hmod : n % (r + 1) = 0 := by rw [← hN]; exact Nat.mul_mod_right _ _
  have hf : fitsE ((r + 1 : Nat) : Int) (n : Int) = 0 := by
    have h : (n : Int) % ((r + 1 : Nat) : Int) = 0 := by exact_mod_cast hmod
    rw [fitsE, if_neg (by omega), if_neg (by rw [h]; simp)]
  have hdiv : n / (r + 1) = c + 1 := by rw [← hN, Nat.mul_div_cancel_left _ (by omega)]
  have hlt : ∀ i, i < n → posn (n / (r + 1)) (r + 1) i < n := fun i hi => posn_le _ _ _ _ (by omega) (by rw [hdiv, Nat.mul_comm]; exact hN.symm) hi
  have hinv : ∀ i, i < n → posn (r + 1) (n / (r + 1)) (posn (n / (r + 1)) (r + 1) i) = i := fun i hi => posn_inv _ _ _ (by omega) (by omega) (by rw [hdiv, Nat.mul_comm, hN]; exact hi)
  have hinj : ∀ i, i < n → ∀ j, j < n → posn (n / (r + 1)) (r + 1) i = posn (n / (r + 1)) (r + 1) j → i = j := fun i hi j hj h => by rw [← hinv i hi, ← hinv j hj, h]
  obtain ⟨v, hv, c1⟩ := spread_val (r + 1) n (k + 1) w0 hf (by omega) (by omega) (by omega)
  obtain ⟨u, hu, c2⟩ := spread_val (r + 1) n n w0 hf (by omega) (by omega) (by omega)
  have hun := spread_all _ n u hlt hu
  subst hun
  rw [er, ek] at c1
  rw [er] at c2
  refine ⟨n1, n2, hkn, v, spread_one _ _ _ _ n1 (by omega) hv, spread_le _ _ _ _ hinj hv, fun h3 hkr => ?_, c1, c2, fun hk2 => ?_⟩
  · have h1 := spread_one _ _ _ _ n1 (by omega) hv
    have h2 : v ≤ 1 := spread_rows (c + 1) (r + 1) (k + 1) v (by omega) (by omega) (by omega) (by rw [hN]; rw [hdiv] at hv; exact hv)
    omega
  · obtain ⟨x, hx, c3⟩ := spread_val (r + 1) u (k + 1 + 1) w0 hf (by omega) (by omega) (by omega)
    rw [er, ek2] at c3
    exact ⟨x, spread_mono _ _ _ _ _ hv hx, c3⟩

set_option maxRecDepth 100000 in
set_option maxHeartbeats 2000000 in
theorem spreads_dlz (a0 a1 a2 : Int) (w : World) (r c k n : Nat) (hr : a0 % 10 = (r : Int)) (hc : a1 % 6 = (c : Int)) (hnn : (1 + (r : Int)) * (1 + (c : Int)) = (n : Int)) (hk : a2 % (n : Int) = (k : Int)) (b0 : 0 ≤ a0 ∧ a0 ≤ 255) (b1 : 0 ≤ a1 ∧ a1 ≤ 255) (b2 : 0 ≤ a2 ∧ a2 ≤ 255) (h3 : c < 2) (hlt : n ≤ k + 1) :
    Calls Try.prog 9 #[.int .u8 a0, .int .u8 a1, .int .u8 a2] w fun e w' => e = .returned (.bool true) ∧ Below w.heap.size w w' := by
  obtain ⟨hn1, hn2, hkn, v, v1, v2, v3, s1, s2, s3⟩ := spreads_facts a0 a1 a2 w r c k n hr hc hnn hk
  have S1 := Lib.hid s1; have S2 := Lib.hid s2; have S3 := Lib.hid s3; have V3 := Lib.hid v3; clear s1 s2 s3 v3
  have hr9 : r ≤ 9 := by omega
  have hc5 : c ≤ 5 := by omega
  have v1' : ¬ (v : Int) < 1 := by omega
  have v2' : (v : Int) ≤ 1 + (k : Int) := by omega
  have g1 : decide ((3 : Int) ≤ 1 + (c : Int)) = false := by rw [decide_eq_false_iff_not]; omega
  have g4 : (1 + (k : Int) == (n : Int)) = true := by rw [beq_iff_eq]; omega
  clear S3 V3
  go_enter Try.func9, Try.ntmps9
  go_wp2_with fail
  refine (S1.out _).mono ?_
  rintro e w1 ⟨rfl, h1⟩
  have H1 := Lib.hid h1; clear h1
  go_wp2_with fail
  refine (S2.out _).mono ?_
  rintro e w2 ⟨rfl, h2⟩
  have H2 := Lib.hid h2; clear h2
  go_wp2_with fail
  refine (awake_any _).mono ?_
  rintro e w9 ⟨rfl, h9⟩
  have H9 := Lib.hid h9; clear h9
  go_wp2_with fail
  go_ret
  exact ⟨rfl, ext_trans H1.out (ext_trans H2.out H9.out)⟩

set_option maxRecDepth 100000 in
set_option maxHeartbeats 2000000 in
theorem spreads_dly (a0 a1 a2 : Int) (w : World) (r c k n : Nat) (hr : a0 % 10 = (r : Int)) (hc : a1 % 6 = (c : Int)) (hnn : (1 + (r : Int)) * (1 + (c : Int)) = (n : Int)) (hk : a2 % (n : Int) = (k : Int)) (b0 : 0 ≤ a0 ∧ a0 ≤ 255) (b1 : 0 ≤ a1 ∧ a1 ≤ 255) (b2 : 0 ≤ a2 ∧ a2 ≤ 255) (h3 : c < 2) (hlt : k + 1 < n) :
    Calls Try.prog 9 #[.int .u8 a0, .int .u8 a1, .int .u8 a2] w fun e w' => e = .returned (.bool true) ∧ Below w.heap.size w w' := by
  obtain ⟨hn1, hn2, hkn, v, v1, v2, v3, s1, s2, s3⟩ := spreads_facts a0 a1 a2 w r c k n hr hc hnn hk
  have S1 := Lib.hid s1; have S2 := Lib.hid s2; have S3 := Lib.hid s3; have V3 := Lib.hid v3; clear s1 s2 s3 v3
  have hr9 : r ≤ 9 := by omega
  have hc5 : c ≤ 5 := by omega
  have v1' : ¬ (v : Int) < 1 := by omega
  have v2' : (v : Int) ≤ 1 + (k : Int) := by omega
  have g1 : decide ((3 : Int) ≤ 1 + (c : Int)) = false := by rw [decide_eq_false_iff_not]; omega
  have g4 : (1 + (k : Int) == (n : Int)) = false := by rw [beq_eq_false_iff_ne]; omega
  have HS4 := Lib.hid (S3.out hlt)
  clear S3 V3
  go_enter Try.func9, Try.ntmps9
  go_wp2_with fail
  refine (S1.out _).mono ?_
  rintro e w1 ⟨rfl, h1⟩
  have H1 := Lib.hid h1; clear h1
  go_wp2_with fail
  refine (S2.out _).mono ?_
  rintro e w2 ⟨rfl, h2⟩
  have H2 := Lib.hid h2; clear h2
  go_wp2_with fail
  obtain ⟨u, hu, S4⟩ := HS4.out
  have hu' : (v : Int) ≤ (u : Int) := by omega
  refine (S4 _).mono ?_
  clear S4
  rintro e w3 ⟨rfl, h3⟩
  have H3 := Lib.hid h3; clear h3
  go_wp2_with fail
  refine (awake_any _).mono ?_
  rintro e w9 ⟨rfl, h9⟩
  have H9 := Lib.hid h9; clear h9
  go_wp2_with fail
  go_ret
  exact ⟨rfl, ext_trans H1.out (ext_trans H2.out (ext_trans H3.out H9.out))⟩

set_option maxRecDepth 100000 in
set_option maxHeartbeats 2000000 in
theorem spreads_clz (a0 a1 a2 : Int) (w : World) (r c k n : Nat) (hr : a0 % 10 = (r : Int)) (hc : a1 % 6 = (c : Int)) (hnn : (1 + (r : Int)) * (1 + (c : Int)) = (n : Int)) (hk : a2 % (n : Int) = (k : Int)) (b0 : 0 ≤ a0 ∧ a0 ≤ 255) (b1 : 0 ≤ a1 ∧ a1 ≤ 255) (b2 : 0 ≤ a2 ∧ a2 ≤ 255) (h3 : 2 ≤ c) (hkr : r < k) (hlt : n ≤ k + 1) :
    Calls Try.prog 9 #[.int .u8 a0, .int .u8 a1, .int .u8 a2] w fun e w' => e = .returned (.bool true) ∧ Below w.heap.size w w' := by
  obtain ⟨hn1, hn2, hkn, v, v1, v2, v3, s1, s2, s3⟩ := spreads_facts a0 a1 a2 w r c k n hr hc hnn hk
  have S1 := Lib.hid s1; have S2 := Lib.hid s2; have S3 := Lib.hid s3; have V3 := Lib.hid v3; clear s1 s2 s3 v3
  have hr9 : r ≤ 9 := by omega
  have hc5 : c ≤ 5 := by omega
  have v1' : ¬ (v : Int) < 1 := by omega
  have v2' : (v : Int) ≤ 1 + (k : Int) := by omega
  have g1 : decide ((3 : Int) ≤ 1 + (c : Int)) = true := by rw [decide_eq_true_iff]; omega
  have g2 : decide (1 + (k : Int) ≤ 1 + (r : Int)) = false := by rw [decide_eq_false_iff_not]; omega
  have g4 : (1 + (k : Int) == (n : Int)) = true := by rw [beq_iff_eq]; omega
  clear S3 V3
  go_enter Try.func9, Try.ntmps9
  go_wp2_with fail
  refine (S1.out _).mono ?_
  rintro e w1 ⟨rfl, h1⟩
  have H1 := Lib.hid h1; clear h1
  go_wp2_with fail
  refine (S2.out _).mono ?_
  rintro e w2 ⟨rfl, h2⟩
  have H2 := Lib.hid h2; clear h2
  go_wp2_with fail
  refine (awake_any _).mono ?_
  rintro e w9 ⟨rfl, h9⟩
  have H9 := Lib.hid h9; clear h9
  go_wp2_with fail
  go_ret
  exact ⟨rfl, ext_trans H1.out (ext_trans H2.out H9.out)⟩

set_option maxRecDepth 100000 in
set_option maxHeartbeats 2000000 in
theorem spreads_cly (a0 a1 a2 : Int) (w : World) (r c k n : Nat) (hr : a0 % 10 = (r : Int)) (hc : a1 % 6 = (c : Int)) (hnn : (1 + (r : Int)) * (1 + (c : Int)) = (n : Int)) (hk : a2 % (n : Int) = (k : Int)) (b0 : 0 ≤ a0 ∧ a0 ≤ 255) (b1 : 0 ≤ a1 ∧ a1 ≤ 255) (b2 : 0 ≤ a2 ∧ a2 ≤ 255) (h3 : 2 ≤ c) (hkr : r < k) (hlt : k + 1 < n) :
    Calls Try.prog 9 #[.int .u8 a0, .int .u8 a1, .int .u8 a2] w fun e w' => e = .returned (.bool true) ∧ Below w.heap.size w w' := by
  obtain ⟨hn1, hn2, hkn, v, v1, v2, v3, s1, s2, s3⟩ := spreads_facts a0 a1 a2 w r c k n hr hc hnn hk
  have S1 := Lib.hid s1; have S2 := Lib.hid s2; have S3 := Lib.hid s3; have V3 := Lib.hid v3; clear s1 s2 s3 v3
  have hr9 : r ≤ 9 := by omega
  have hc5 : c ≤ 5 := by omega
  have v1' : ¬ (v : Int) < 1 := by omega
  have v2' : (v : Int) ≤ 1 + (k : Int) := by omega
  have g1 : decide ((3 : Int) ≤ 1 + (c : Int)) = true := by rw [decide_eq_true_iff]; omega
  have g2 : decide (1 + (k : Int) ≤ 1 + (r : Int)) = false := by rw [decide_eq_false_iff_not]; omega
  have g4 : (1 + (k : Int) == (n : Int)) = false := by rw [beq_eq_false_iff_ne]; omega
  have HS4 := Lib.hid (S3.out hlt)
  clear S3 V3
  go_enter Try.func9, Try.ntmps9
  go_wp2_with fail
  refine (S1.out _).mono ?_
  rintro e w1 ⟨rfl, h1⟩
  have H1 := Lib.hid h1; clear h1
  go_wp2_with fail
  refine (S2.out _).mono ?_
  rintro e w2 ⟨rfl, h2⟩
  have H2 := Lib.hid h2; clear h2
  go_wp2_with fail
  obtain ⟨u, hu, S4⟩ := HS4.out
  have hu' : (v : Int) ≤ (u : Int) := by omega
  refine (S4 _).mono ?_
  clear S4
  rintro e w3 ⟨rfl, h3⟩
  have H3 := Lib.hid h3; clear h3
  go_wp2_with fail
  refine (awake_any _).mono ?_
  rintro e w9 ⟨rfl, h9⟩
  have H9 := Lib.hid h9; clear h9
  go_wp2_with fail
  go_ret
  exact ⟨rfl, ext_trans H1.out (ext_trans H2.out (ext_trans H3.out H9.out))⟩

set_option maxRecDepth 100000 in
set_option maxHeartbeats 2000000 in
theorem spreads_ckz (a0 a1 a2 : Int) (w : World) (r c k n : Nat) (hr : a0 % 10 = (r : Int)) (hc : a1 % 6 = (c : Int)) (hnn : (1 + (r : Int)) * (1 + (c : Int)) = (n : Int)) (hk : a2 % (n : Int) = (k : Int)) (b0 : 0 ≤ a0 ∧ a0 ≤ 255) (b1 : 0 ≤ a1 ∧ a1 ≤ 255) (b2 : 0 ≤ a2 ∧ a2 ≤ 255) (h3 : 2 ≤ c) (hkr : k ≤ r) (hlt : n ≤ k + 1) :
    Calls Try.prog 9 #[.int .u8 a0, .int .u8 a1, .int .u8 a2] w fun e w' => e = .returned (.bool true) ∧ Below w.heap.size w w' := by
  obtain ⟨hn1, hn2, hkn, v, v1, v2, v3, s1, s2, s3⟩ := spreads_facts a0 a1 a2 w r c k n hr hc hnn hk
  have S1 := Lib.hid s1; have S2 := Lib.hid s2; have S3 := Lib.hid s3; have V3 := Lib.hid v3; clear s1 s2 s3 v3
  have hr9 : r ≤ 9 := by omega
  have hc5 : c ≤ 5 := by omega
  have v1' : ¬ (v : Int) < 1 := by omega
  have v2' : (v : Int) ≤ 1 + (k : Int) := by omega
  have g1 : decide ((3 : Int) ≤ 1 + (c : Int)) = true := by rw [decide_eq_true_iff]; omega
  have g2 : decide (1 + (k : Int) ≤ 1 + (r : Int)) = true := by rw [decide_eq_true_iff]; omega
  have g3 : ((v : Int) != 1) = false := by rw [bne_eq_false_iff_eq, V3.out h3 hkr]; rfl
  have g4 : (1 + (k : Int) == (n : Int)) = true := by rw [beq_iff_eq]; omega
  clear S3 V3
  go_enter Try.func9, Try.ntmps9
  go_wp2_with fail
  refine (S1.out _).mono ?_
  rintro e w1 ⟨rfl, h1⟩
  have H1 := Lib.hid h1; clear h1
  go_wp2_with fail
  refine (S2.out _).mono ?_
  rintro e w2 ⟨rfl, h2⟩
  have H2 := Lib.hid h2; clear h2
  go_wp2_with fail
  refine (awake_any _).mono ?_
  rintro e w9 ⟨rfl, h9⟩
  have H9 := Lib.hid h9; clear h9
  go_wp2_with fail
  go_ret
  exact ⟨rfl, ext_trans H1.out (ext_trans H2.out H9.out)⟩

set_option maxRecDepth 100000 in
set_option maxHeartbeats 2000000 in
theorem spreads_cky (a0 a1 a2 : Int) (w : World) (r c k n : Nat) (hr : a0 % 10 = (r : Int)) (hc : a1 % 6 = (c : Int)) (hnn : (1 + (r : Int)) * (1 + (c : Int)) = (n : Int)) (hk : a2 % (n : Int) = (k : Int)) (b0 : 0 ≤ a0 ∧ a0 ≤ 255) (b1 : 0 ≤ a1 ∧ a1 ≤ 255) (b2 : 0 ≤ a2 ∧ a2 ≤ 255) (h3 : 2 ≤ c) (hkr : k ≤ r) (hlt : k + 1 < n) :
    Calls Try.prog 9 #[.int .u8 a0, .int .u8 a1, .int .u8 a2] w fun e w' => e = .returned (.bool true) ∧ Below w.heap.size w w' := by
  obtain ⟨hn1, hn2, hkn, v, v1, v2, v3, s1, s2, s3⟩ := spreads_facts a0 a1 a2 w r c k n hr hc hnn hk
  have S1 := Lib.hid s1; have S2 := Lib.hid s2; have S3 := Lib.hid s3; have V3 := Lib.hid v3; clear s1 s2 s3 v3
  have hr9 : r ≤ 9 := by omega
  have hc5 : c ≤ 5 := by omega
  have v1' : ¬ (v : Int) < 1 := by omega
  have v2' : (v : Int) ≤ 1 + (k : Int) := by omega
  have g1 : decide ((3 : Int) ≤ 1 + (c : Int)) = true := by rw [decide_eq_true_iff]; omega
  have g2 : decide (1 + (k : Int) ≤ 1 + (r : Int)) = true := by rw [decide_eq_true_iff]; omega
  have g3 : ((v : Int) != 1) = false := by rw [bne_eq_false_iff_eq, V3.out h3 hkr]; rfl
  have g4 : (1 + (k : Int) == (n : Int)) = false := by rw [beq_eq_false_iff_ne]; omega
  have HS4 := Lib.hid (S3.out hlt)
  clear S3 V3
  go_enter Try.func9, Try.ntmps9
  go_wp2_with fail
  refine (S1.out _).mono ?_
  rintro e w1 ⟨rfl, h1⟩
  have H1 := Lib.hid h1; clear h1
  go_wp2_with fail
  refine (S2.out _).mono ?_
  rintro e w2 ⟨rfl, h2⟩
  have H2 := Lib.hid h2; clear h2
  go_wp2_with fail
  obtain ⟨u, hu, S4⟩ := HS4.out
  have hu' : (v : Int) ≤ (u : Int) := by omega
  refine (S4 _).mono ?_
  clear S4
  rintro e w3 ⟨rfl, h3⟩
  have H3 := Lib.hid h3; clear h3
  go_wp2_with fail
  refine (awake_any _).mono ?_
  rintro e w9 ⟨rfl, h9⟩
  have H9 := Lib.hid h9; clear h9
  go_wp2_with fail
  go_ret
  exact ⟨rfl, ext_trans H1.out (ext_trans H2.out (ext_trans H3.out H9.out))⟩

theorem law_interleaveSpreads (a0 a1 a2 : Int) (w0 : (Lit.int .u8 a0).wf = true) (w1 : (Lit.int .u8 a1).wf = true) (w2 : (Lit.int .u8 a2).wf = true) (w : World) :
    Calls Try.prog 9 #[.int .u8 a0, .int .u8 a1, .int .u8 a2] w fun e w' => e = .returned (.bool true) ∧ Below w.heap.size w w' := by
  have b0 := bounds_u8 w0
  have b1 := bounds_u8 w1
  have b2 := bounds_u8 w2
  obtain ⟨r, hr⟩ : ∃ r : Nat, a0 % 10 = (r : Int) := ⟨(a0 % 10).toNat, by omega⟩
  obtain ⟨c, hc⟩ : ∃ c : Nat, a1 % 6 = (c : Int) := ⟨(a1 % 6).toNat, by omega⟩
  have hnn : (1 + (r : Int)) * (1 + (c : Int)) = (((1 + r) * (1 + c) : Nat) : Int) := by push_cast; rfl
  have hn1 : 1 ≤ (1 + r) * (1 + c) := Nat.mul_pos (by omega) (by omega)
  generalize (1 + r) * (1 + c) = n at *
  obtain ⟨k, hk⟩ : ∃ k : Nat, a2 % (n : Int) = (k : Int) := ⟨(a2 % (n : Int)).toNat, by have := Int.emod_nonneg a2 (show (n : Int) ≠ 0 by omega); omega⟩
  by_cases h3 : c < 2
  · by_cases hl : n ≤ k + 1
    · exact spreads_dlz a0 a1 a2 w r c k n hr hc hnn hk b0 b1 b2 h3 hl
    · exact spreads_dly a0 a1 a2 w r c k n hr hc hnn hk b0 b1 b2 h3 (by omega)
  · by_cases hkr : k ≤ r
    · by_cases hl : n ≤ k + 1
      · exact spreads_ckz a0 a1 a2 w r c k n hr hc hnn hk b0 b1 b2 (by omega) hkr hl
      · exact spreads_cky a0 a1 a2 w r c k n hr hc hnn hk b0 b1 b2 (by omega) hkr (by omega)
    · by_cases hl : n ≤ k + 1
      · exact spreads_clz a0 a1 a2 w r c k n hr hc hnn hk b0 b1 b2 (by omega) (by omega) hl
      · exact spreads_cly a0 a1 a2 w r c k n hr hc hnn hk b0 b1 b2 (by omega) (by omega) (by omega)
end Go.Proofs.Ytgjlhjklcgladaa
