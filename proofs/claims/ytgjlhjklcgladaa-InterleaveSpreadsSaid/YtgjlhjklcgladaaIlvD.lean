/-
  The contracts of Block, Unblock, Delay, Undelay and Position of package interleave.
-/
import Derived.Test.YtgjlhjklcgladaaIlvC
namespace Go.Proofs.Ytgjlhjklcgladaa
open Go.RowKit

def blkS (rows : Int) (l : List UInt8) : List UInt8 := if ckBlock rows l ≠ 0 then [] else putL l l.length (posn (l.length / rows.toNat) rows.toNat)
def ublS (rows : Int) (l : List UInt8) : List UInt8 := if ckBlock rows l ≠ 0 then [] else takeL l (posn (l.length / rows.toNat) rows.toNat) l.length
def ckDelay (step : Int) (l : List UInt8) : Int := if chk 16 l ≠ 0 then chk 16 l else if step < 0 ∨ 4096 < step then 2 else 0
def dlyE (step : Int) (l : List UInt8) : Int := if ckDelay step l ≠ 0 then ckDelay step l else if 65536 < (l.length : Int) + 6 * step then 4 else 0
def udlE (step : Int) (l : List UInt8) : Int := if ckDelay step l ≠ 0 then ckDelay step l else if (l.length : Int) < 6 * step then 11 else 0
def dlyS (step : Int) (l : List UInt8) : List UInt8 := if dlyE step l ≠ 0 then [] else putL l (l.length + 6 * step.toNat) (brn step.toNat)
def udlS (step : Int) (l : List UInt8) : List UInt8 := if udlE step l ≠ 0 then [] else takeL l (brn step.toNat) (l.length - 6 * step.toNat)

theorem chk_len {l : List UInt8} (h : chk 16 l = 0) : l.length ≤ 65536 := by
  unfold chk at h
  rw [if_neg (by omega)] at h
  by_cases h2 : 65536 < l.length
  · rw [if_pos h2] at h; omega
  · omega
theorem ckBlock_ok {rows : Int} {l : List UInt8} (h : ckBlock rows l = 0) : chk 16 l = 0 ∧ 1 ≤ rows ∧ rows ≤ 65536 ∧ (l.length : Int) % rows = 0 := by
  unfold ckBlock at h
  by_cases h1 : chk 16 l = 0
  · rw [if_neg (by simp [h1])] at h
    by_cases h2 : rows < 1 ∨ 65536 < rows
    · rw [if_pos h2] at h; omega
    · rw [if_neg h2] at h
      by_cases h3 : (l.length : Int) % rows = 0
      · exact ⟨h1, by omega, by omega, h3⟩
      · rw [if_pos h3] at h; omega
  · rw [if_pos h1] at h; omega
theorem div_parts {n r : Nat} (hn : 1 ≤ n) (hm : (n : Int) % (r : Int) = 0) : 1 ≤ n / r ∧ n = n / r * r := by
  have h : n % r = 0 := by omega
  have h2 := Nat.div_add_mod n r
  rw [h, Nat.add_zero, Nat.mul_comm] at h2
  refine ⟨?_, h2.symm⟩
  rcases Nat.eq_zero_or_pos (n / r) with h0 | h0
  · rw [h0] at h2; omega
  · exact h0

set_option maxHeartbeats 400000 in
theorem blockB_any (rows : Int) (s : ByteArray) (w : World) (hs : s.size ≤ maxLen) :
    Calls Try.prog 12 #[.int .i64 rows, .string s] w fun e w' =>
      e = .returned (.tuple #[.string ⟨(blkS rows s.data.toList).toArray⟩, .int .i64 (ckBlock rows s.data.toList)]) ∧ Below w.heap.size w w' := by
  by_cases hc : ckBlock rows s.data.toList = 0
  · obtain ⟨hk, hr1, hr2, hm⟩ := ckBlock_ok hc
    have hlen := chk_len hk
    rw [Array.length_toList] at hlen hm
    have hsz : s.size ≤ 65536 := hlen
    have hb : blkS rows s.data.toList = putL s.data.toList s.data.toList.length (posn (s.data.toList.length / rows.toNat) rows.toNat) := by rw [blkS, if_neg (by simp [hc])]
    rw [Array.length_toList] at hb
    have HB := Lib.hid hb; clear hb
    have HC := Lib.hid hc
    have hc' : (ckBlock rows s.data.toList != 0) = false := by simp [hc]
    clear hc hlen
    obtain ⟨r, rfl⟩ := Int.eq_ofNat_of_zero_le (show 0 ≤ rows by omega)
    by_cases h0 : s.size = 0
    · have he : s.data.toList = [] := List.eq_nil_of_length_eq_zero (by rw [Array.length_toList]; exact h0)
      have he2 : s.toList = [] := by rw [ByteArray.toList_eq]; exact he
      have HF : Hid (blkS r s.data.toList = []) := Lib.hid (by rw [HB.out, he]; show putL [] s.size _ = []; rw [h0]; rfl)
      clear he h0 hm hk
      go_enter Try.func12, Try.ntmps12
      go_wp2_with (go_at_call 28; refine (checkBlock_any _ _ _ hs).mono ?_; rintro e w' ⟨rfl, nq, rfl⟩)
      go_ret2
      exact ⟨by rw [HF.out, HC.out]; rfl, below_ofN _⟩
    · have hp := div_parts (n := s.size) (r := r) (by omega) hm
      have HP := Lib.hid hp; clear hp
      have he2 : s.toList.isEmpty = false := by
        rw [ByteArray.toList_eq]
        cases h : s.data.toList with
        | nil => exfalso; apply h0; show s.data.size = 0; rw [← Array.length_toList, h]; rfl
        | cons a l => rfl
      have he3 : ¬ s.toList = [] := by intro h; rw [h] at he2; cases he2
      clear hm hk
      go_enter Try.func12, Try.ntmps12
      go_wp2_with fail
      refine (checkBlock_any _ _ _ hs).mono ?_
      rintro e w1 ⟨rfl, hw1⟩
      have HW1 := Lib.hid hw1; clear hw1
      go_wp2_with fail
      refine (block_any r s.size _ (by omega) hsz).mono ?_
      rintro e w2 ⟨rfl, q1, q2, q3, q4⟩
      have Q1 := Lib.hid q1; clear q1
      have Q2 := Lib.hid q2; clear q2
      have Q3 := Lib.hid q3; clear q3
      have Q4 := Lib.hid q4; clear q4
      go_wp2_with fail
      refine (put_blk s s.size (s.size / r) r _ _ _ (Nat.le_refl _) hsz HP.out.1 (by omega) ?_ Q1.out Q2.out ?_ ?_).mono ?_
      · intro i hi; exact posn_le _ _ _ _ HP.out.1 HP.out.2 hi
      · have := Q3.out; dsimp only; omega
      · have := Q3.out; dsimp only; omega
      rintro e w3 ⟨rfl, hb3⟩
      have HB3 := Lib.hid hb3; clear hb3
      go_wp2_with fail
      go_ret2
      obtain ⟨nq, hnq⟩ := HW1.out
      refine ⟨by rw [HC.out, HB.out]; rfl, ?_⟩
      subst hnq
      exact (below_ofN nq).trans (Q4.out.trans (HB3.out.mono (by rw [Q3.out]; omega)))
  · have H := Lib.hid (show blkS rows s.data.toList = [] by rw [blkS, if_pos hc])
    have hc' : (ckBlock rows s.data.toList != 0) = true := by simp [hc]
    clear hc
    go_enter Try.func12, Try.ntmps12
    go_wp2_with (go_at_call 28; refine (checkBlock_any _ _ _ hs).mono ?_; rintro e w' ⟨rfl, nq, rfl⟩)
    go_ret2
    exact ⟨by rw [H.out]; rfl, below_ofN _⟩
set_option maxHeartbeats 400000 in
theorem unblockB_any (rows : Int) (s : ByteArray) (w : World) (hs : s.size ≤ maxLen) :
    Calls Try.prog 13 #[.int .i64 rows, .string s] w fun e w' =>
      e = .returned (.tuple #[.string ⟨(ublS rows s.data.toList).toArray⟩, .int .i64 (ckBlock rows s.data.toList)]) ∧ Below w.heap.size w w' := by
  by_cases hc : ckBlock rows s.data.toList = 0
  · obtain ⟨hk, hr1, hr2, hm⟩ := ckBlock_ok hc
    have hlen := chk_len hk
    rw [Array.length_toList] at hlen hm
    have hsz : s.size ≤ 65536 := hlen
    have hb : ublS rows s.data.toList = takeL s.data.toList (posn (s.data.toList.length / rows.toNat) rows.toNat) s.data.toList.length := by rw [ublS, if_neg (by simp [hc])]
    rw [Array.length_toList] at hb
    have HB := Lib.hid hb; clear hb
    have HC := Lib.hid hc
    have hc' : (ckBlock rows s.data.toList != 0) = false := by simp [hc]
    clear hc hlen
    obtain ⟨r, rfl⟩ := Int.eq_ofNat_of_zero_le (show 0 ≤ rows by omega)
    by_cases h0 : s.size = 0
    · have he : s.data.toList = [] := List.eq_nil_of_length_eq_zero (by rw [Array.length_toList]; exact h0)
      have he2 : s.toList = [] := by rw [ByteArray.toList_eq]; exact he
      have HF : Hid (ublS r s.data.toList = []) := Lib.hid (by rw [HB.out, he]; show takeL [] _ s.size = []; rw [h0]; rfl)
      clear he h0 hm hk
      go_enter Try.func13, Try.ntmps13
      go_wp2_with (go_at_call 28; refine (checkBlock_any _ _ _ hs).mono ?_; rintro e w' ⟨rfl, nq, rfl⟩)
      go_ret2
      exact ⟨by rw [HF.out, HC.out]; rfl, below_ofN _⟩
    · have hp := div_parts (n := s.size) (r := r) (by omega) hm
      have HP := Lib.hid hp; clear hp
      have he2 : s.toList.isEmpty = false := by
        rw [ByteArray.toList_eq]
        cases h : s.data.toList with
        | nil => exfalso; apply h0; show s.data.size = 0; rw [← Array.length_toList, h]; rfl
        | cons a l => rfl
      have he3 : ¬ s.toList = [] := by intro h; rw [h] at he2; cases he2
      clear hm hk
      go_enter Try.func13, Try.ntmps13
      go_wp2_with fail
      refine (checkBlock_any _ _ _ hs).mono ?_
      rintro e w1 ⟨rfl, hw1⟩
      have HW1 := Lib.hid hw1; clear hw1
      go_wp2_with fail
      refine (block_any r s.size _ (by omega) hsz).mono ?_
      rintro e w2 ⟨rfl, q1, q2, q3, q4⟩
      have Q1 := Lib.hid q1; clear q1
      have Q2 := Lib.hid q2; clear q2
      have Q3 := Lib.hid q3; clear q3
      have Q4 := Lib.hid q4; clear q4
      go_wp2_with fail
      refine (take_blk s s.size (s.size / r) r _ _ _ hsz HP.out.1 (by omega) ?_ Q1.out Q2.out ?_ ?_).mono ?_
      · intro i hi; exact posn_le _ _ _ _ HP.out.1 HP.out.2 hi
      · have := Q3.out; dsimp only; omega
      · have := Q3.out; dsimp only; omega
      rintro e w3 ⟨rfl, hb3⟩
      have HB3 := Lib.hid hb3; clear hb3
      go_wp2_with fail
      go_ret2
      obtain ⟨nq, hnq⟩ := HW1.out
      refine ⟨by rw [HC.out, HB.out]; rfl, ?_⟩
      subst hnq
      exact (below_ofN nq).trans (Q4.out.trans (HB3.out.mono (by rw [Q3.out]; omega)))
  · have H := Lib.hid (show ublS rows s.data.toList = [] by rw [ublS, if_pos hc])
    have hc' : (ckBlock rows s.data.toList != 0) = true := by simp [hc]
    clear hc
    go_enter Try.func13, Try.ntmps13
    go_wp2_with (go_at_call 28; refine (checkBlock_any _ _ _ hs).mono ?_; rintro e w' ⟨rfl, nq, rfl⟩)
    go_ret2
    exact ⟨by rw [H.out]; rfl, below_ofN _⟩
theorem ckDelay_ok {st : Int} {l : List UInt8} (h : ckDelay st l = 0) : chk 16 l = 0 ∧ 0 ≤ st ∧ st ≤ 4096 := by
  unfold ckDelay at h
  by_cases h1 : chk 16 l = 0
  · rw [if_neg (by simp [h1])] at h
    by_cases h2 : st < 0 ∨ 4096 < st
    · rw [if_pos h2] at h; omega
    · exact ⟨h1, by omega, by omega⟩
  · rw [if_pos h1] at h; omega

set_option maxHeartbeats 400000 in
theorem checkDelay_any (st : Int) (s : ByteArray) (w : World) :
    Calls Try.prog 37 #[.int .i64 st, .string s] w fun e w' => e = .returned (.int .i64 (ckDelay st s.data.toList)) ∧ ∃ n, w' = w.drewN n := by
  by_cases hc : chk 16 s.data.toList = 0
  · have hc' : (chk 16 s.data.toList != 0) = false := by simp [hc]
    have H0 := Lib.hid (show ckDelay st s.data.toList = if st < 0 ∨ 4096 < st then 2 else 0 by rw [ckDelay, if_neg (by simp [hc])])
    clear hc
    by_cases h1 : st < 0
    · have H := Lib.hid (show ckDelay st s.data.toList = 2 by rw [H0.out, if_pos (by omega)])
      go_enter Try.func37, Try.ntmps37
      go_wp2_with (go_at_call 42; refine (check_any _ _ _).mono ?_; rintro e w' ⟨rfl, n, rfl⟩)
      go_ret
      exact ⟨by rw [H.out]; rfl, _, rfl⟩
    by_cases h2 : 4096 < st
    · have H := Lib.hid (show ckDelay st s.data.toList = 2 by rw [H0.out, if_pos (by omega)])
      go_enter Try.func37, Try.ntmps37
      go_wp2_with (go_at_call 42; refine (check_any _ _ _).mono ?_; rintro e w' ⟨rfl, n, rfl⟩)
      go_ret
      exact ⟨by rw [H.out]; rfl, _, rfl⟩
    have H := Lib.hid (show ckDelay st s.data.toList = 0 by rw [H0.out, if_neg (by omega)])
    go_enter Try.func37, Try.ntmps37
    go_wp2_with (go_at_call 42; refine (check_any _ _ _).mono ?_; rintro e w' ⟨rfl, n, rfl⟩)
    go_ret
    exact ⟨by rw [H.out]; rfl, _, rfl⟩
  · have hc' : (chk 16 s.data.toList != 0) = true := by simp [hc]
    have H := Lib.hid (show ckDelay st s.data.toList = chk 16 s.data.toList by rw [ckDelay, if_pos hc])
    clear hc
    go_enter Try.func37, Try.ntmps37
    go_wp2_with (go_at_call 42; refine (check_any _ _ _).mono ?_; rintro e w' ⟨rfl, n, rfl⟩)
    go_ret
    exact ⟨by rw [H.out]; rfl, _, rfl⟩

theorem brn_lt (st i n : Nat) (hi : i < n) : brn st i < n + 6 * st := by
  unfold brn
  have h : 3 * st * (i % 3) ≤ 3 * st * 2 := Nat.mul_le_mul_left _ (by omega)
  omega

set_option maxHeartbeats 400000 in
theorem delay_any (st : Int) (s : ByteArray) (w : World) (hs : s.size ≤ maxLen) :
    Calls Try.prog 19 #[.int .i64 st, .string s] w fun e w' =>
      e = .returned (.tuple #[.string ⟨(dlyS st s.data.toList).toArray⟩, .int .i64 (dlyE st s.data.toList)]) ∧ Below w.heap.size w w' := by
  unfold maxLen at hs
  by_cases hc : ckDelay st s.data.toList = 0
  · obtain ⟨hk, hr1, hr2⟩ := ckDelay_ok hc
    have hlen := chk_len hk
    have hsz : s.size ≤ 65536 := hlen
    have hE : dlyE st s.data.toList = if 65536 < (s.size : Int) + 6 * st then 4 else 0 := by rw [dlyE, if_neg (by simp [hc])]; rfl
    have HE := Lib.hid hE; clear hE
    have hc' : (ckDelay st s.data.toList != 0) = false := by simp [hc]
    clear hc hk hlen
    obtain ⟨r, rfl⟩ := Int.eq_ofNat_of_zero_le hr1
    by_cases h0 : 65536 < (s.size : Int) + 6 * r
    · have H1 := Lib.hid (show dlyE r s.data.toList = 4 by rw [HE.out, if_pos h0])
      have H2 := Lib.hid (show dlyS r s.data.toList = [] by rw [dlyS, if_pos (by rw [H1.out]; decide)])
      go_enter Try.func19, Try.ntmps19
      go_wp2_with (go_at_call 37; refine (checkDelay_any _ _ _).mono ?_; rintro e w' ⟨rfl, nq, rfl⟩)
      go_ret2
      exact ⟨by rw [H1.out, H2.out]; rfl, below_ofN _⟩
    · have H1 := Lib.hid (show dlyE r s.data.toList = 0 by rw [HE.out, if_neg h0])
      have H2 := Lib.hid (show dlyS r s.data.toList = putL s.data.toList (s.size + 6 * r) (brn r) by rw [dlyS, if_neg (by rw [H1.out]; decide)]; rfl)
      go_enter Try.func19, Try.ntmps19
      go_wp2_with fail
      refine (checkDelay_any _ _ _).mono ?_
      rintro e w1 ⟨rfl, hw1⟩
      have HW1 := Lib.hid hw1; clear hw1
      go_wp2_with fail
      refine (branches_any r _).mono ?_
      rintro e w2 ⟨rfl, q1, q3, q4⟩
      have Q1 := Lib.hid q1; clear q1
      have Q3 := Lib.hid q3; clear q3
      have Q4 := Lib.hid q4; clear q4
      go_wp2_with fail
      refine (put_br s (s.size + 6 * r) r _ _ (by omega) (by omega) (by omega) ?_ Q1.out ?_).mono ?_
      · intro i hi; exact brn_lt _ _ _ hi
      · have := Q3.out; dsimp only; omega
      rintro e w3 ⟨rfl, hb3⟩
      have HB3 := Lib.hid hb3; clear hb3
      go_wp2_with fail
      go_ret2
      obtain ⟨nq, hnq⟩ := HW1.out
      refine ⟨by rw [H1.out, H2.out]; rfl, ?_⟩
      subst hnq
      exact (below_ofN nq).trans (Q4.out.trans (HB3.out.mono (by rw [Q3.out]; omega)))
  · have H1 := Lib.hid (show dlyE st s.data.toList = ckDelay st s.data.toList by rw [dlyE, if_pos hc])
    have H2 := Lib.hid (show dlyS st s.data.toList = [] by rw [dlyS, if_pos (by rw [H1.out]; exact hc)])
    have hc' : (ckDelay st s.data.toList != 0) = true := by simp [hc]
    clear hc
    go_enter Try.func19, Try.ntmps19
    go_wp2_with (go_at_call 37; refine (checkDelay_any _ _ _).mono ?_; rintro e w' ⟨rfl, nq, rfl⟩)
    go_ret2
    exact ⟨by rw [H1.out, H2.out]; rfl, below_ofN _⟩

set_option maxHeartbeats 400000 in
theorem undelay_any (st : Int) (s : ByteArray) (w : World) (hs : s.size ≤ maxLen) :
    Calls Try.prog 21 #[.int .i64 st, .string s] w fun e w' =>
      e = .returned (.tuple #[.string ⟨(udlS st s.data.toList).toArray⟩, .int .i64 (udlE st s.data.toList)]) ∧ Below w.heap.size w w' := by
  unfold maxLen at hs
  by_cases hc : ckDelay st s.data.toList = 0
  · obtain ⟨hk, hr1, hr2⟩ := ckDelay_ok hc
    have hlen := chk_len hk
    have hsz : s.size ≤ 65536 := hlen
    have hE : udlE st s.data.toList = if (s.size : Int) < 6 * st then 11 else 0 := by rw [udlE, if_neg (by simp [hc])]; rfl
    have HE := Lib.hid hE; clear hE
    have hc' : (ckDelay st s.data.toList != 0) = false := by simp [hc]
    clear hc hk hlen
    obtain ⟨r, rfl⟩ := Int.eq_ofNat_of_zero_le hr1
    by_cases h0 : (s.size : Int) < 6 * r
    · have H1 := Lib.hid (show udlE r s.data.toList = 11 by rw [HE.out, if_pos h0])
      have H2 := Lib.hid (show udlS r s.data.toList = [] by rw [udlS, if_pos (by rw [H1.out]; decide)])
      go_enter Try.func21, Try.ntmps21
      go_wp2_with (go_at_call 37; refine (checkDelay_any _ _ _).mono ?_; rintro e w' ⟨rfl, nq, rfl⟩)
      go_ret2
      exact ⟨by rw [H1.out, H2.out]; rfl, below_ofN _⟩
    · have H1 := Lib.hid (show udlE r s.data.toList = 0 by rw [HE.out, if_neg h0])
      have H2 := Lib.hid (show udlS r s.data.toList = takeL s.data.toList (brn r) (s.size - 6 * r) by rw [udlS, if_neg (by rw [H1.out]; decide)]; rfl)
      go_enter Try.func21, Try.ntmps21
      go_wp2_with fail
      refine (checkDelay_any _ _ _).mono ?_
      rintro e w1 ⟨rfl, hw1⟩
      have HW1 := Lib.hid hw1; clear hw1
      go_wp2_with fail
      refine (branches_any r _).mono ?_
      rintro e w2 ⟨rfl, q1, q3, q4⟩
      have Q1 := Lib.hid q1; clear q1
      have Q3 := Lib.hid q3; clear q3
      have Q4 := Lib.hid q4; clear q4
      go_wp2_with fail
      rw [show (s.size : Int) - 6 * (r : Int) = ((s.size - 6 * r : Nat) : Int) by omega]
      refine (take_br s (s.size - 6 * r) r _ _ (by omega) (by omega) ?_ Q1.out ?_).mono ?_
      · intro i hi; have := brn_lt r _ _ hi; omega
      · have := Q3.out; dsimp only; omega
      rintro e w3 ⟨rfl, hb3⟩
      have HB3 := Lib.hid hb3; clear hb3
      go_wp2_with fail
      go_ret2
      obtain ⟨nq, hnq⟩ := HW1.out
      refine ⟨by rw [H1.out, H2.out]; rfl, ?_⟩
      subst hnq
      exact (below_ofN nq).trans (Q4.out.trans (HB3.out.mono (by rw [Q3.out]; omega)))
  · have H1 := Lib.hid (show udlE st s.data.toList = ckDelay st s.data.toList by rw [udlE, if_pos hc])
    have H2 := Lib.hid (show udlS st s.data.toList = [] by rw [udlS, if_pos (by rw [H1.out]; exact hc)])
    have hc' : (ckDelay st s.data.toList != 0) = true := by simp [hc]
    clear hc
    go_enter Try.func21, Try.ntmps21
    go_wp2_with (go_at_call 37; refine (checkDelay_any _ _ _).mono ?_; rintro e w' ⟨rfl, nq, rfl⟩)
    go_ret2
    exact ⟨by rw [H1.out, H2.out]; rfl, below_ofN _⟩

def posE (rows n i : Int) : Int := if fitsE rows n ≠ 0 then fitsE rows n else if i < 0 ∨ n ≤ i then 2 else 0
def posV (rows n i : Int) : Int := if posE rows n i ≠ 0 then 0 else (posn (n.toNat / rows.toNat) rows.toNat i.toNat : Nat)
theorem fits_ok {rows n : Int} (h : fitsE rows n = 0) : 1 ≤ rows ∧ rows ≤ 65536 ∧ 1 ≤ n ∧ n ≤ 65536 ∧ n % rows = 0 := by
  unfold fitsE at h
  by_cases h1 : rows < 1 ∨ 65536 < rows ∨ n < 1 ∨ 65536 < n
  · rw [if_pos h1] at h; omega
  · rw [if_neg h1] at h
    by_cases h2 : n % rows = 0
    · exact ⟨by omega, by omega, by omega, by omega, h2⟩
    · rw [if_pos h2] at h; omega

set_option maxHeartbeats 400000 in
theorem position_any (rows n i : Int) (w : World) :
    Calls Try.prog 14 #[.int .i64 rows, .int .i64 n, .int .i64 i] w fun e w' =>
      e = .returned (.tuple #[.int .i64 (posV rows n i), .int .i64 (posE rows n i)]) ∧ Below w.heap.size w w' := by
  by_cases hc : fitsE rows n = 0
  · obtain ⟨hr1, hr2, hn1, hn2, hm⟩ := fits_ok hc
    have HE := Lib.hid (show posE rows n i = if i < 0 ∨ n ≤ i then 2 else 0 by rw [posE, if_neg (by simp [hc])])
    have hc' : (fitsE rows n != 0) = false := by simp [hc]
    clear hc
    obtain ⟨r, rfl⟩ := Int.eq_ofNat_of_zero_le (show 0 ≤ rows by omega)
    obtain ⟨m, rfl⟩ := Int.eq_ofNat_of_zero_le (show 0 ≤ n by omega)
    have HM := Lib.hid hm; clear hm
    by_cases h1 : i < 0
    · have H1 := Lib.hid (show posE r m i = 2 by rw [HE.out, if_pos (by omega)])
      have H2 := Lib.hid (show posV r m i = 0 by rw [posV, if_pos (by rw [H1.out]; decide)])
      go_enter Try.func14, Try.ntmps14
      go_wp2_with (go_at_call 32; refine (fits_any _ _ _).mono ?_; rintro e w' ⟨rfl, rfl⟩)
      go_ret2
      exact ⟨by rw [H1.out, H2.out]; rfl, Below.refl _ _⟩
    by_cases h2 : (m : Int) ≤ i
    · have H1 := Lib.hid (show posE r m i = 2 by rw [HE.out, if_pos (by omega)])
      have H2 := Lib.hid (show posV r m i = 0 by rw [posV, if_pos (by rw [H1.out]; decide)])
      go_enter Try.func14, Try.ntmps14
      go_wp2_with (go_at_call 32; refine (fits_any _ _ _).mono ?_; rintro e w' ⟨rfl, rfl⟩)
      go_ret2
      exact ⟨by rw [H1.out, H2.out]; rfl, Below.refl _ _⟩
    obtain ⟨j, rfl⟩ := Int.eq_ofNat_of_zero_le (show 0 ≤ i by omega)
    have H1 := Lib.hid (show posE r m j = 0 by rw [HE.out, if_neg (by omega)])
    have H2 := Lib.hid (show posV r m j = (posn (m / r) r j : Nat) by rw [posV, if_neg (by rw [H1.out]; decide)]; rfl)
    have hp := Lib.hid (div_parts (n := m) (r := r) (by omega) HM.out)
    go_enter Try.func14, Try.ntmps14
    go_wp2_with fail
    refine (fits_any _ _ _).mono ?_
    rintro e w1 ⟨rfl, rfl⟩
    go_wp2_with fail
    refine (block_any r m _ (by omega) (by omega)).mono ?_
    rintro e w2 ⟨rfl, q1, q2, q3, q4⟩
    have Q1 := Lib.hid q1; clear q1
    have Q2 := Lib.hid q2; clear q2
    have Q3 := Lib.hid q3; clear q3
    have Q4 := Lib.hid q4; clear q4
    go_wp2_with fail
    refine (blockTo_any (m / r) r j _ _ _ hp.out.1 (by omega) (by omega) Q1.out Q2.out).mono ?_
    rintro e w3 ⟨rfl, nq, rfl⟩
    go_wp2_with fail
    go_ret2
    exact ⟨by rw [H1.out, H2.out]; rfl, Q4.out.trans (below_ofN _)⟩
  · have H1 := Lib.hid (show posE rows n i = fitsE rows n by rw [posE, if_pos hc])
    have H2 := Lib.hid (show posV rows n i = 0 by rw [posV, if_pos (by rw [H1.out]; exact hc)])
    have hc' : (fitsE rows n != 0) = true := by simp [hc]
    clear hc
    go_enter Try.func14, Try.ntmps14
    go_wp2_with (go_at_call 32; refine (fits_any _ _ _).mono ?_; rintro e w' ⟨rfl, rfl⟩)
    go_ret2
    exact ⟨by rw [H1.out, H2.out]; rfl, Below.refl _ _⟩
end Go.Proofs.Ytgjlhjklcgladaa
