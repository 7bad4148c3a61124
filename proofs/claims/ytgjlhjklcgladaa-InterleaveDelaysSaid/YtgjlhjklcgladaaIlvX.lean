/-
  InterleaveDelays returns true for every input: the walk.
-/
import Derived.Test.YtgjlhjklcgladaaIlvW
import Derived.OpenShut
import Derived.Lib.Split
import Derived.Lib.IndexBytes
import Derived.Lib.SmallJoins
namespace Go.Proofs.Ytgjlhjklcgladaa
open Go.RowKit

theorem letters_ok : ∀ m, m < 16 → isLet 16 (letters.getD m 0) = true := by decide +kernel
theorem spliced (b : ByteArray) (k m : Nat) (hk : k < b.size) (hm : m < 16) :
    (b.extract 0 k ++ (⟨#[48, 49, 50, 51, 52, 53, 54, 55, 56, 57, 97, 98, 99, 100, 101, 102]⟩ : ByteArray).extract m (m + 1) ++ b.extract (k + 1) b.size).data.toList = b.data.toList.set k (letters.getD m 0) := by
  have e : ((⟨#[48, 49, 50, 51, 52, 53, 54, 55, 56, 57, 97, 98, 99, 100, 101, 102]⟩ : ByteArray).extract m (m + 1)).data.toList = [letters.getD m 0] := by
    have : ∀ m, m < 16 → ((⟨#[48, 49, 50, 51, 52, 53, 54, 55, 56, 57, 97, 98, 99, 100, 101, 102]⟩ : ByteArray).extract m (m + 1)).data.toList = [letters.getD m 0] := by decide +kernel
    exact this m hm
  have hk' : k < b.data.toList.length := hk
  simp only [ByteArray.data_append, Array.toList_append]
  rw [e, Lib.extract_from_zero, Lib.extract_to_end, List.set_eq_take_append_cons_drop, if_pos hk']
  simp
theorem bytes_of (l : List UInt8) (b : ByteArray) (h : l = b.data.toList) : (⟨l.toArray⟩ : ByteArray) = b := by
  subst h; cases b; rfl

set_option maxRecDepth 100000 in
set_option maxHeartbeats 2000000 in
theorem delays_in (a0 : Int) (s : ByteArray) (a2 a3 : Int) (h0 : 0 ≤ a0 ∧ a0 ≤ 255) (h2 : 0 ≤ a2 ∧ a2 ≤ 255) (h3 : 0 ≤ a3 ∧ a3 ≤ 255) (hs : s.size ≤ maxLen) (w : World) (HF : Hid (fineB s.data.toList = true)) (hpos : 1 ≤ (s.size : Int) + 6 * (a0 % 21)) (st m k : Nat) (hst : a0 % 21 = (st : Int)) (hm : a3 % 16 = (m : Int)) (hk : a2 % ((s.size + 6 * st : Nat) : Int) = (k : Int)) (i : Nat) (hi : (i : Int) = (k : Int) - 3 * (st : Int) * ((k : Int) % 3)) (hil : i < s.size) :
    Calls Try.prog 7 #[.int .u8 a0, .string s, .int .u8 a2, .int .u8 a3] w fun e w' => e = .returned (.bool true) ∧ Below w.heap.size w w' := by
  have hf := HF.out
  unfold fineB at hf
  rw [Bool.and_eq_true, decide_eq_true_eq, beq_iff_eq] at hf
  obtain ⟨f1, f2⟩ := hf
  have hsz : s.size ≤ 60 := f1
  have HS := Lib.hid hs; clear hs
  have hst20 : st ≤ 20 := by omega
  have hm16 : m < 16 := by omega
  obtain ⟨d1, d2, d3, d4, d5⟩ := delay_facts st s.data.toList f2 hsz hst20
  obtain ⟨b1, b2⟩ := undelay_back st s.data.toList f2 hsz hst20
  obtain ⟨a, ha⟩ : ∃ a : ByteArray, a = ⟨(dlyS st s.data.toList).toArray⟩ := ⟨_, rfl⟩
  have hal : a.data.toList = dlyS st s.data.toList := by rw [ha]
  have hasz : a.size = s.size + 6 * st := by
    show a.data.size = _
    rw [← Array.length_toList, hal, d3]; rfl
  have hsb : (⟨s.data.toList.toArray⟩ : ByteArray) = s := by simp
  have c1 := fun w => delay_any st s w HS.out
  have c2 := fun w => undelay_any st a w (by unfold maxLen; omega)
  simp only [d1, ← ha] at c1
  simp only [hal, b1, b2, hsb] at c2
  rw [← hasz] at hk
  have hka : k < a.size := by have := Int.emod_lt_of_pos a2 (show 0 < (a.size : Int) by omega); omega
  have C1 := Lib.hid c1; have C2 := Lib.hid c2; have HA := Lib.hid hasz; have HAL := Lib.hid hal; have F2 := Lib.hid f2
  have hne : ((a.size : Int) != (s.size : Int) + 6 * (st : Int)) = false := by rw [hasz]; simp
  have hnz : ((a.size : Int) == 0) = false := by rw [beq_eq_false_iff_ne]; omega
  have hap : 1 ≤ a.size := by omega
  have hat : a.size ≤ 180 := by omega
  have hpos' : 0 ≤ 3 * (st : Int) * ((k : Int) % 3) := by
    have h : ((0 : Nat) : Int) ≤ ((3 * st * (k % 3) : Nat) : Int) := Int.ofNat_le.2 (Nat.zero_le _)
    exact h
  have hmax' : 3 * (st : Int) * ((k : Int) % 3) ≤ 120 := by
    have h2 : 3 * st * (k % 3) ≤ 60 * 2 := Nat.mul_le_mul (by omega) (by omega)
    have h : ((3 * st * (k % 3) : Nat) : Int) ≤ ((60 * 2 : Nat) : Int) := Int.ofNat_le.2 h2
    exact h
  have hch := spliced a k m hka hm16
  rw [hal] at hch
  obtain ⟨u1, u2, u3⟩ := undelay_changed st s.data.toList f2 hsz hst20 k (letters.getD m 0) (by rw [nz_len]; omega) (letters_ok m hm16)
  have hchs : (a.extract 0 k ++ (⟨#[48, 49, 50, 51, 52, 53, 54, 55, 56, 57, 97, 98, 99, 100, 101, 102]⟩ : ByteArray).extract m (m + 1) ++ a.extract (k + 1) a.size).size ≤ maxLen := by
    show ((a.extract 0 k ++ (⟨#[48, 49, 50, 51, 52, 53, 54, 55, 56, 57, 97, 98, 99, 100, 101, 102]⟩ : ByteArray).extract m (m + 1) ++ a.extract (k + 1) a.size)).data.size ≤ _
    rw [← Array.length_toList, hch, List.length_set, d3, nz_len]; unfold maxLen; omega
  have c3 := fun w => undelay_any st (a.extract 0 k ++ (⟨#[48, 49, 50, 51, 52, 53, 54, 55, 56, 57, 97, 98, 99, 100, 101, 102]⟩ : ByteArray).extract m (m + 1) ++ a.extract (k + 1) a.size) w hchs
  have hw := u2 i hi (by rw [nz_len]; exact hil)
  have hsp := spliced s i m hil hm16
  simp only [hch, u1, hw, bytes_of _ _ hsp.symm] at c3
  have C3 := Lib.hid c3; clear c3 hch u1 u2 u3 hchs hw hsp
  have hi' : (k : Int) - 3 * (st : Int) * ((k : Int) % 3) = (i : Int) := hi.symm
  have d8 : decide (0 ≤ (k : Int) - 3 * (st : Int) * ((k : Int) % 3)) = true := by rw [decide_eq_true_iff]; omega
  clear hi
  clear d1 d2 d3 d4 d5 b1 b2 ha hal hasz hsb c1 c2 f1 f2 hpos
  go_enter Try.func7, Try.ntmps7
  go_wp2_with (go_at_call 10; refine (fine_yes _ _ HF.out).mono ?_; rintro e w' ⟨rfl, rfl⟩)
  refine (C1.out _).mono ?_
  rintro e w1 ⟨rfl, h1⟩
  have H1 := Lib.hid h1; clear h1
  go_wp2_with fail
  refine (C2.out _).mono ?_
  rintro e w2 ⟨rfl, h2⟩
  have H2 := Lib.hid h2; clear h2
  go_wp2_with fail

  go_quiet (fail)
  go_wp2_with fail
  refine (C3.out _).mono ?_
  rintro e w3 ⟨rfl, h3⟩
  have H3 := Lib.hid h3; clear h3
  go_wp2_with fail
  go_quiet (fail)
  go_wp2_with fail
  refine (awake_any _).mono ?_
  rintro e w4 ⟨rfl, h4⟩
  have H4 := Lib.hid h4; clear h4
  go_wp2_with fail
  go_ret
  exact ⟨rfl, ext_trans H1.out (ext_trans H2.out (ext_trans (below_ofN _) (ext_trans H3.out (ext_trans (below_ofN _) H4.out))))⟩

set_option maxRecDepth 100000 in
set_option maxHeartbeats 2000000 in
theorem delays_neg (a0 : Int) (s : ByteArray) (a2 a3 : Int) (h0 : 0 ≤ a0 ∧ a0 ≤ 255) (h2 : 0 ≤ a2 ∧ a2 ≤ 255) (h3 : 0 ≤ a3 ∧ a3 ≤ 255) (hs : s.size ≤ maxLen) (w : World) (HF : Hid (fineB s.data.toList = true)) (hpos : 1 ≤ (s.size : Int) + 6 * (a0 % 21)) (st m k : Nat) (hst : a0 % 21 = (st : Int)) (hm : a3 % 16 = (m : Int)) (hk : a2 % ((s.size + 6 * st : Nat) : Int) = (k : Int)) (hneg : (k : Int) - 3 * (st : Int) * ((k : Int) % 3) < 0) :
    Calls Try.prog 7 #[.int .u8 a0, .string s, .int .u8 a2, .int .u8 a3] w fun e w' => e = .returned (.bool true) ∧ Below w.heap.size w w' := by
  have hf := HF.out
  unfold fineB at hf
  rw [Bool.and_eq_true, decide_eq_true_eq, beq_iff_eq] at hf
  obtain ⟨f1, f2⟩ := hf
  have hsz : s.size ≤ 60 := f1
  have HS := Lib.hid hs; clear hs
  have hst20 : st ≤ 20 := by omega
  have hm16 : m < 16 := by omega
  obtain ⟨d1, d2, d3, d4, d5⟩ := delay_facts st s.data.toList f2 hsz hst20
  obtain ⟨b1, b2⟩ := undelay_back st s.data.toList f2 hsz hst20
  obtain ⟨a, ha⟩ : ∃ a : ByteArray, a = ⟨(dlyS st s.data.toList).toArray⟩ := ⟨_, rfl⟩
  have hal : a.data.toList = dlyS st s.data.toList := by rw [ha]
  have hasz : a.size = s.size + 6 * st := by
    show a.data.size = _
    rw [← Array.length_toList, hal, d3]; rfl
  have hsb : (⟨s.data.toList.toArray⟩ : ByteArray) = s := by simp
  have c1 := fun w => delay_any st s w HS.out
  have c2 := fun w => undelay_any st a w (by unfold maxLen; omega)
  simp only [d1, ← ha] at c1
  simp only [hal, b1, b2, hsb] at c2
  rw [← hasz] at hk
  have hka : k < a.size := by have := Int.emod_lt_of_pos a2 (show 0 < (a.size : Int) by omega); omega
  have C1 := Lib.hid c1; have C2 := Lib.hid c2; have HA := Lib.hid hasz; have HAL := Lib.hid hal; have F2 := Lib.hid f2
  have hne : ((a.size : Int) != (s.size : Int) + 6 * (st : Int)) = false := by rw [hasz]; simp
  have hnz : ((a.size : Int) == 0) = false := by rw [beq_eq_false_iff_ne]; omega
  have hap : 1 ≤ a.size := by omega
  have hat : a.size ≤ 180 := by omega
  have hpos' : 0 ≤ 3 * (st : Int) * ((k : Int) % 3) := by
    have h : ((0 : Nat) : Int) ≤ ((3 * st * (k % 3) : Nat) : Int) := Int.ofNat_le.2 (Nat.zero_le _)
    exact h
  have hmax' : 3 * (st : Int) * ((k : Int) % 3) ≤ 120 := by
    have h2 : 3 * st * (k % 3) ≤ 60 * 2 := Nat.mul_le_mul (by omega) (by omega)
    have h : ((3 * st * (k % 3) : Nat) : Int) ≤ ((60 * 2 : Nat) : Int) := Int.ofNat_le.2 h2
    exact h
  have hno : ¬ (0 ≤ (k : Int) - 3 * (st : Int) * ((k : Int) % 3) ∧ (k : Int) - 3 * (st : Int) * ((k : Int) % 3) < s.size) := by omega
  have hch := spliced a k m hka hm16
  rw [hal] at hch
  obtain ⟨u1, u2, u3⟩ := undelay_changed st s.data.toList f2 hsz hst20 k (letters.getD m 0) (by rw [nz_len]; omega) (letters_ok m hm16)
  have hchs : (a.extract 0 k ++ (⟨#[48, 49, 50, 51, 52, 53, 54, 55, 56, 57, 97, 98, 99, 100, 101, 102]⟩ : ByteArray).extract m (m + 1) ++ a.extract (k + 1) a.size).size ≤ maxLen := by
    show ((a.extract 0 k ++ (⟨#[48, 49, 50, 51, 52, 53, 54, 55, 56, 57, 97, 98, 99, 100, 101, 102]⟩ : ByteArray).extract m (m + 1) ++ a.extract (k + 1) a.size)).data.size ≤ _
    rw [← Array.length_toList, hch, List.length_set, d3, nz_len]; unfold maxLen; omega
  have c3 := fun w => undelay_any st (a.extract 0 k ++ (⟨#[48, 49, 50, 51, 52, 53, 54, 55, 56, 57, 97, 98, 99, 100, 101, 102]⟩ : ByteArray).extract m (m + 1) ++ a.extract (k + 1) a.size) w hchs
  have hw := u3 (by rw [nz_len]; exact hno)
  simp only [hch, u1, hw, hsb] at c3
  have C3 := Lib.hid c3; clear c3 hch u1 u2 u3 hchs hw
  have d8 : decide (0 ≤ (k : Int) - 3 * (st : Int) * ((k : Int) % 3)) = false := by rw [decide_eq_false_iff_not]; omega
  clear hno
  clear d1 d2 d3 d4 d5 b1 b2 ha hal hasz hsb c1 c2 f1 f2 hpos
  go_enter Try.func7, Try.ntmps7
  go_wp2_with (go_at_call 10; refine (fine_yes _ _ HF.out).mono ?_; rintro e w' ⟨rfl, rfl⟩)
  refine (C1.out _).mono ?_
  rintro e w1 ⟨rfl, h1⟩
  have H1 := Lib.hid h1; clear h1
  go_wp2_with fail
  refine (C2.out _).mono ?_
  rintro e w2 ⟨rfl, h2⟩
  have H2 := Lib.hid h2; clear h2
  go_wp2_with fail

  go_quiet (fail)
  go_wp2_with fail
  refine (C3.out _).mono ?_
  rintro e w3 ⟨rfl, h3⟩
  have H3 := Lib.hid h3; clear h3
  go_wp2_with fail
  refine (awake_any _).mono ?_
  rintro e w4 ⟨rfl, h4⟩
  have H4 := Lib.hid h4; clear h4
  go_wp2_with fail
  go_ret
  exact ⟨rfl, ext_trans H1.out (ext_trans H2.out (ext_trans (below_ofN _) (ext_trans H3.out H4.out)))⟩

set_option maxRecDepth 100000 in
set_option maxHeartbeats 2000000 in
theorem delays_far (a0 : Int) (s : ByteArray) (a2 a3 : Int) (h0 : 0 ≤ a0 ∧ a0 ≤ 255) (h2 : 0 ≤ a2 ∧ a2 ≤ 255) (h3 : 0 ≤ a3 ∧ a3 ≤ 255) (hs : s.size ≤ maxLen) (w : World) (HF : Hid (fineB s.data.toList = true)) (hpos : 1 ≤ (s.size : Int) + 6 * (a0 % 21)) (st m k : Nat) (hst : a0 % 21 = (st : Int)) (hm : a3 % 16 = (m : Int)) (hk : a2 % ((s.size + 6 * st : Nat) : Int) = (k : Int)) (hfar : (s.size : Int) ≤ (k : Int) - 3 * (st : Int) * ((k : Int) % 3)) :
    Calls Try.prog 7 #[.int .u8 a0, .string s, .int .u8 a2, .int .u8 a3] w fun e w' => e = .returned (.bool true) ∧ Below w.heap.size w w' := by
  have hf := HF.out
  unfold fineB at hf
  rw [Bool.and_eq_true, decide_eq_true_eq, beq_iff_eq] at hf
  obtain ⟨f1, f2⟩ := hf
  have hsz : s.size ≤ 60 := f1
  have HS := Lib.hid hs; clear hs
  have hst20 : st ≤ 20 := by omega
  have hm16 : m < 16 := by omega
  obtain ⟨d1, d2, d3, d4, d5⟩ := delay_facts st s.data.toList f2 hsz hst20
  obtain ⟨b1, b2⟩ := undelay_back st s.data.toList f2 hsz hst20
  obtain ⟨a, ha⟩ : ∃ a : ByteArray, a = ⟨(dlyS st s.data.toList).toArray⟩ := ⟨_, rfl⟩
  have hal : a.data.toList = dlyS st s.data.toList := by rw [ha]
  have hasz : a.size = s.size + 6 * st := by
    show a.data.size = _
    rw [← Array.length_toList, hal, d3]; rfl
  have hsb : (⟨s.data.toList.toArray⟩ : ByteArray) = s := by simp
  have c1 := fun w => delay_any st s w HS.out
  have c2 := fun w => undelay_any st a w (by unfold maxLen; omega)
  simp only [d1, ← ha] at c1
  simp only [hal, b1, b2, hsb] at c2
  rw [← hasz] at hk
  have hka : k < a.size := by have := Int.emod_lt_of_pos a2 (show 0 < (a.size : Int) by omega); omega
  have C1 := Lib.hid c1; have C2 := Lib.hid c2; have HA := Lib.hid hasz; have HAL := Lib.hid hal; have F2 := Lib.hid f2
  have hne : ((a.size : Int) != (s.size : Int) + 6 * (st : Int)) = false := by rw [hasz]; simp
  have hnz : ((a.size : Int) == 0) = false := by rw [beq_eq_false_iff_ne]; omega
  have hap : 1 ≤ a.size := by omega
  have hat : a.size ≤ 180 := by omega
  have hpos' : 0 ≤ 3 * (st : Int) * ((k : Int) % 3) := by
    have h : ((0 : Nat) : Int) ≤ ((3 * st * (k % 3) : Nat) : Int) := Int.ofNat_le.2 (Nat.zero_le _)
    exact h
  have hmax' : 3 * (st : Int) * ((k : Int) % 3) ≤ 120 := by
    have h2 : 3 * st * (k % 3) ≤ 60 * 2 := Nat.mul_le_mul (by omega) (by omega)
    have h : ((3 * st * (k % 3) : Nat) : Int) ≤ ((60 * 2 : Nat) : Int) := Int.ofNat_le.2 h2
    exact h
  have hno : ¬ (0 ≤ (k : Int) - 3 * (st : Int) * ((k : Int) % 3) ∧ (k : Int) - 3 * (st : Int) * ((k : Int) % 3) < s.size) := by omega
  have hch := spliced a k m hka hm16
  rw [hal] at hch
  obtain ⟨u1, u2, u3⟩ := undelay_changed st s.data.toList f2 hsz hst20 k (letters.getD m 0) (by rw [nz_len]; omega) (letters_ok m hm16)
  have hchs : (a.extract 0 k ++ (⟨#[48, 49, 50, 51, 52, 53, 54, 55, 56, 57, 97, 98, 99, 100, 101, 102]⟩ : ByteArray).extract m (m + 1) ++ a.extract (k + 1) a.size).size ≤ maxLen := by
    show ((a.extract 0 k ++ (⟨#[48, 49, 50, 51, 52, 53, 54, 55, 56, 57, 97, 98, 99, 100, 101, 102]⟩ : ByteArray).extract m (m + 1) ++ a.extract (k + 1) a.size)).data.size ≤ _
    rw [← Array.length_toList, hch, List.length_set, d3, nz_len]; unfold maxLen; omega
  have c3 := fun w => undelay_any st (a.extract 0 k ++ (⟨#[48, 49, 50, 51, 52, 53, 54, 55, 56, 57, 97, 98, 99, 100, 101, 102]⟩ : ByteArray).extract m (m + 1) ++ a.extract (k + 1) a.size) w hchs
  have hw := u3 (by rw [nz_len]; exact hno)
  simp only [hch, u1, hw, hsb] at c3
  have C3 := Lib.hid c3; clear c3 hch u1 u2 u3 hchs hw
  have d8 : decide (0 ≤ (k : Int) - 3 * (st : Int) * ((k : Int) % 3)) = true := by rw [decide_eq_true_iff]; omega
  have d9 : decide ((k : Int) - 3 * (st : Int) * ((k : Int) % 3) < (s.size : Int)) = false := by rw [decide_eq_false_iff_not]; omega
  clear hno
  clear d1 d2 d3 d4 d5 b1 b2 ha hal hasz hsb c1 c2 f1 f2 hpos
  go_enter Try.func7, Try.ntmps7
  go_wp2_with (go_at_call 10; refine (fine_yes _ _ HF.out).mono ?_; rintro e w' ⟨rfl, rfl⟩)
  refine (C1.out _).mono ?_
  rintro e w1 ⟨rfl, h1⟩
  have H1 := Lib.hid h1; clear h1
  go_wp2_with fail
  refine (C2.out _).mono ?_
  rintro e w2 ⟨rfl, h2⟩
  have H2 := Lib.hid h2; clear h2
  go_wp2_with fail

  go_quiet (fail)
  go_wp2_with fail
  refine (C3.out _).mono ?_
  rintro e w3 ⟨rfl, h3⟩
  have H3 := Lib.hid h3; clear h3
  go_wp2_with fail
  refine (awake_any _).mono ?_
  rintro e w4 ⟨rfl, h4⟩
  have H4 := Lib.hid h4; clear h4
  go_wp2_with fail
  go_ret
  exact ⟨rfl, ext_trans H1.out (ext_trans H2.out (ext_trans (below_ofN _) (ext_trans H3.out H4.out)))⟩

set_option maxRecDepth 100000 in
set_option maxHeartbeats 1000000 in
theorem law_interleaveDelays (a0 : Int) (s : ByteArray) (a2 a3 : Int) (w0 : (Lit.int .u8 a0).wf = true) (hs : s.size ≤ maxLen) (w2 : (Lit.int .u8 a2).wf = true) (w3 : (Lit.int .u8 a3).wf = true) (w : World) :
    Calls Try.prog 7 #[.int .u8 a0, .string s, .int .u8 a2, .int .u8 a3] w fun e w' => e = .returned (.bool true) ∧ Below w.heap.size w w' := by
  have b0 := bounds_u8 w0
  have b2 := bounds_u8 w2
  have b3 := bounds_u8 w3
  by_cases hf : fineB s.data.toList = true
  · have HF := Lib.hid hf; clear hf
    obtain ⟨st, hst⟩ : ∃ st : Nat, a0 % 21 = (st : Int) := ⟨(a0 % 21).toNat, by omega⟩
    obtain ⟨m, hm⟩ : ∃ m : Nat, a3 % 16 = (m : Int) := ⟨(a3 % 16).toNat, by omega⟩
    by_cases hpos : 1 ≤ (s.size : Int) + 6 * (a0 % 21)
    · have hnz : 0 < ((s.size + 6 * st : Nat) : Int) := by omega
      obtain ⟨k, hk⟩ : ∃ k : Nat, a2 % ((s.size + 6 * st : Nat) : Int) = (k : Int) := ⟨(a2 % ((s.size + 6 * st : Nat) : Int)).toNat, by have := Int.emod_nonneg a2 (show ((s.size + 6 * st : Nat) : Int) ≠ 0 by omega); omega⟩
      by_cases hneg : (k : Int) - 3 * (st : Int) * ((k : Int) % 3) < 0
      · exact delays_neg a0 s a2 a3 b0 b2 b3 hs w HF hpos st m k hst hm hk hneg
      by_cases hfar : (s.size : Int) ≤ (k : Int) - 3 * (st : Int) * ((k : Int) % 3)
      · exact delays_far a0 s a2 a3 b0 b2 b3 hs w HF hpos st m k hst hm hk hfar
      · obtain ⟨i, hi⟩ := Int.eq_ofNat_of_zero_le (show 0 ≤ (k : Int) - 3 * (st : Int) * ((k : Int) % 3) by omega)
        exact delays_in a0 s a2 a3 b0 b2 b3 hs w HF hpos st m k hst hm hk i hi.symm (by omega)
    · have hst0 : st = 0 := by omega
      have hs0 : s.size = 0 := by omega
      subst hst0
      have hf := HF.out
      unfold fineB at hf
      rw [Bool.and_eq_true, decide_eq_true_eq, beq_iff_eq] at hf
      obtain ⟨f1, f2⟩ := hf
      have he : s = ByteArray.empty := by
        have : s.data.toList = [] := List.eq_nil_of_length_eq_zero hs0
        rw [← bytes_of _ s this.symm]; rfl
      subst he
      have c1 := fun w => delay_any 0 ByteArray.empty w (by decide)
      have c2 := fun w => undelay_any 0 ByteArray.empty w (by decide)
      simp only [show dlyS 0 ByteArray.empty.data.toList = [] by decide +kernel, show dlyE 0 ByteArray.empty.data.toList = 0 by decide +kernel, bytes_of [] ByteArray.empty rfl] at c1
      simp only [show udlS 0 ByteArray.empty.data.toList = [] by decide +kernel, show udlE 0 ByteArray.empty.data.toList = 0 by decide +kernel, bytes_of [] ByteArray.empty rfl] at c2
      have C1 := Lib.hid c1; have C2 := Lib.hid c2; clear c1 c2 f1 f2 hs0 w0 w2 w3
      go_enter Try.func7, Try.ntmps7
      go_wp2_with (go_at_call 10; refine (fine_yes _ _ HF.out).mono ?_; rintro e w' ⟨rfl, rfl⟩)
      refine (C1.out _).mono ?_
      rintro e w1 ⟨rfl, h1⟩
      have H1 := Lib.hid h1; clear h1
      go_wp2_with fail
      refine (C2.out _).mono ?_
      rintro e w2 ⟨rfl, h2⟩
      have H2 := Lib.hid h2; clear h2
      go_wp2_with fail
      refine (awake_any _).mono ?_
      rintro e w4 ⟨rfl, h4⟩
      have H4 := Lib.hid h4; clear h4
      go_wp2_with fail
      go_ret
      exact ⟨rfl, ext_trans H1.out (ext_trans H2.out H4.out)⟩
  · have hf' : fineB s.data.toList = false := by simpa using hf
    have HF := Lib.hid hf'; clear hf hf' w0 w2 w3
    go_enter Try.func7, Try.ntmps7
    go_wp2_with (first | (go_at_call 10; refine (fine_no _ _ HF.out).mono ?_; rintro e w' ⟨rfl, rfl⟩) | (go_at_call 11; refine (awake_any _).mono ?_; rintro e w' ⟨rfl, hb⟩))
    go_ret
    exact ⟨rfl, hb⟩
end Go.Proofs.Ytgjlhjklcgladaa
