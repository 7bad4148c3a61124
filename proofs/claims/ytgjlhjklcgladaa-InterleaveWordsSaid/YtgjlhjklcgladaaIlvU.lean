/-
  The contracts of the reference's Delay and Undelay, and of Great.
-/
import Derived.Test.YtgjlhjklcgladaaIlvT
namespace Go.Proofs.Ytgjlhjklcgladaa
open Go.RowKit

theorem places_brn (st k : Nat) : places (brn st) k ++ [.int .i64 ((k : Int) + 3 * (st : Int) * ((k : Int) % 3))] = places (brn st) (k + 1) := places_succ (brn st) k

set_option maxHeartbeats 800000 in
theorem refDelay_ok (st : Nat) (s : ByteArray) (w : World) (hk : chk 16 s.data.toList = 0) (h1 : st ≤ 4096) (h2 : s.size + 6 * st ≤ 65536) :
    Calls Try.prog 20 #[.int .i64 st, .string s] w fun e w' =>
      e = .returned (.tuple #[.string ⟨(putL s.data.toList (s.size + 6 * st) (brn st)).toArray⟩, .int .i64 0]) ∧ Below w.heap.size w w' := by
  have hk' : (chk 16 s.data.toList != 0) = false := by simp [hk]
  clear hk
  go_enter Try.func20, Try.ntmps20
  go_wp2_with (go_at_call 27; refine (refCheck_any _ _ _).mono ?_; rintro e w' ⟨rfl, rfl⟩)
  have ho := own_lit w w.heap.size 3 [] (Nat.le_refl _) (by simp)
  have HO := Lib.hid ho; clear ho
  go_loopw [7, 8] (fun v i wr => ∃ k : Nat, k ≤ s.size ∧ i = .int .i64 k ∧ Own wr w.heap.size 3 v (places (brn st) k) ∧ Below w.heap.size w wr) (fun _ i _ => s.size - (intOf i).toNat)
  case atStart => exact ⟨0, by omega, rfl, HO.out, (Below.refl _ _).alloc (Nat.le_refl _) _⟩
  case round =>
    obtain ⟨k, hk, rfl, hown, hb⟩ := hrel
    have HW := Lib.hid hown; clear hown
    have HB := Lib.hid hb; clear hb
    by_cases hlt : k < s.size
    · have hm : 3 * (st : Int) * ((k : Int) % 3) ≤ 36864 := by
        have h2 : 3 * st * (k % 3) ≤ 3 * 4096 * 3 := Nat.mul_le_mul (by omega) (by omega)
        have h : ((3 * st * (k % 3) : Nat) : Int) ≤ ((3 * 4096 * 3 : Nat) : Int) := Int.ofNat_le.2 h2
        exact h
      have hm0 : 0 ≤ 3 * (st : Int) * ((k : Int) % 3) := by
        have h : ((0 : Nat) : Int) ≤ ((3 * st * (k % 3) : Nat) : Int) := Int.ofNat_le.2 (Nat.zero_le _)
        exact h
      have hsz := HB.out.size
      have HSZ := Lib.hid hsz; clear hsz
      go_wp2_with (at_builtin; refine wpList_app1 _ rfl _ _ _ rfl w.heap.size 3 (.int .i64 0) 8 Try.underlying32 (by kernel_rfl) rfl _ _ rfl (HW.out.alloc _) wr.heap.size 1 (.int .i64 ((k : Int) + 3 * (st : Int) * ((k : Int) % 3))) rfl ((row_new wr 3 [.int .i64 ((k : Int) + 3 * (st : Int) * ((k : Int) % 3))]).cell 0) rfl ?c1 ?c2 ?c3 ?_)
      case c1 => rw [places_len]; omega
      case c2 => rw [places_len]; omega
      case c3 => have := HSZ.out; simp; omega
      intro v' w2 hown2 hgr hnn
      have hown2' : Own w2 w.heap.size 3 v' (places (brn st) (k + 1)) := by rw [← places_brn]; exact hown2
      have hb2 : Below w.heap.size w w2 := below_grown (HB.out.alloc HSZ.out _) (HW.out.alloc _) hgr (by have := HSZ.out; simp; omega)
      have HO2 := Lib.hid hown2'; clear hown2 hown2'
      have HB2 := Lib.hid hb2; clear hb2
      clear hgr hnn
      go_wp2_with fail
      go_roundw
      case rel => exact ⟨k + 1, by omega, by go_num, HO2.out, HB2.out⟩
      case measure => simp [intOf]; omega
    · obtain rfl : k = s.size := by omega
      have HRd := Lib.hid (reads_own HW.out)
      go_wp2_with fail
      rw [show (s.size : Int) + 6 * (st : Int) = ((s.size + 6 * st : Nat) : Int) by omega]
      refine (refPut_any s (s.size + 6 * st) u7 (brn st) _ (by omega) (by omega) (fun i hi => brn_lt _ _ _ hi) HRd.out).mono ?_
      rintro e w2 ⟨rfl, hb2⟩
      have HB2 := Lib.hid hb2; clear hb2
      go_wp2_with fail
      go_ret2
      exact ⟨rfl, ext_trans HB.out HB2.out⟩

theorem takeL_succ (l : List UInt8) (to : Nat → Nat) (n : Nat) : takeL l to (n + 1) = takeL l to n ++ [l.getD (to n) 0] := by simp [takeL, List.range_succ]
theorem one_letter (o s : ByteArray) (p : Nat) (h : p < s.size) : (o ++ s.extract p (p + 1)).data.toList = o.data.toList ++ [s.data.toList.getD p 0] := by
  have e : (s.extract p (p + 1)).data.toList = [s.data.toList.getD p 0] := by
    have h' : p < s.data.toList.length := h
    rw [ByteArray.data_extract, Array.toList_extract]
    simp only [List.extract, Nat.add_sub_cancel_left]
    rw [List.getD_eq_getElem?_getD, List.getElem?_eq_getElem h', List.drop_eq_getElem_cons h']
    rfl
  rw [← e]
  simp

set_option maxHeartbeats 800000 in
theorem refUndelay_ok (st : Nat) (s : ByteArray) (w : World) (hk : chk 16 s.data.toList = 0) (h1 : st ≤ 4096) (h2 : 6 * st ≤ s.size) (h3 : s.size ≤ 65536) :
    Calls Try.prog 22 #[.int .i64 st, .string s] w fun e w' =>
      e = .returned (.tuple #[.string ⟨(takeL s.data.toList (brn st) (s.size - 6 * st)).toArray⟩, .int .i64 0]) ∧ Below w.heap.size w w' := by
  have hk' : (chk 16 s.data.toList != 0) = false := by simp [hk]
  clear hk
  go_enter Try.func22, Try.ntmps22
  go_wp2_with (go_at_call 27; refine (refCheck_any _ _ _).mono ?_; rintro e w' ⟨rfl, rfl⟩)
  go_loopw [7, 8] (fun v i wr => ∃ (k : Nat) (o : ByteArray), k ≤ s.size - 6 * st ∧ i = .int .i64 k ∧ v = .string o ∧ o.data.toList = takeL s.data.toList (brn st) k ∧ Below w.heap.size w wr) (fun _ i _ => s.size - 6 * st - (intOf i).toNat)
  case atStart => exact ⟨0, _, by omega, rfl, rfl, rfl, Below.refl _ _⟩
  case round =>
    obtain ⟨k, o, hk, rfl, rfl, ho, hb⟩ := hrel
    have HO := Lib.hid ho; clear ho
    have HB := Lib.hid hb; clear hb
    by_cases hlt : k < s.size - 6 * st
    · have hp := brn_lt st k _ hlt
      have hlt' : (k : Int) < (s.size : Int) - 6 * (st : Int) := by omega
      have hm0 : 0 ≤ 3 * (st : Int) * ((k : Int) % 3) := by
        have h : ((0 : Nat) : Int) ≤ ((3 * st * (k % 3) : Nat) : Int) := Int.ofNat_le.2 (Nat.zero_le _)
        exact h
      have hp' : (k : Int) + 3 * (st : Int) * ((k : Int) % 3) < (s.size : Int) := by
        have h : ((brn st k : Nat) : Int) < ((s.size : Nat) : Int) := Int.ofNat_lt.2 (by omega)
        exact h
      have hcat : ¬ 9223372036854775807 < o.size + (min (k + 3 * st * (k % 3) + 1) s.size - (k + 3 * st * (k % 3))) := by
        have h1 : o.size = k := by
          have := congrArg List.length HO.out
          rw [takeL_len] at this; exact this
        generalize k + 3 * st * (k % 3) = q
        omega
      go_wp2_with fail
      go_roundw
      case rel =>
        refine ⟨k + 1, _, by omega, by go_num, rfl, ?_, HB.out⟩
        rw [takeL_succ, ← HO.out]
        have hps : brn st k < s.size := by omega
        rw [← one_letter o s (brn st k) hps]
        rfl
      case measure => simp [intOf]; omega
    · have hk2 : k = s.size - 6 * st := by omega
      have HK := Lib.hid hk2; clear hk2
      have hlt' : ¬ (k : Int) < (s.size : Int) - 6 * (st : Int) := by omega
      go_wp2_with fail
      go_ret2
      refine ⟨?_, HB.out⟩
      rw [← HK.out, ← HO.out]
      cases o; rfl

set_option maxHeartbeats 800000 in
theorem refDelay_any (st : Int) (s : ByteArray) (w : World) :
    Calls Try.prog 20 #[.int .i64 st, .string s] w fun e w' =>
      e = .returned (.tuple #[.string ⟨(dlyS st s.data.toList).toArray⟩, .int .i64 (dlyE st s.data.toList)]) ∧ Below w.heap.size w w' := by
  by_cases hk : chk 16 s.data.toList = 0
  · have hlen : s.size ≤ 65536 := chk_len hk
    have hD : ckDelay st s.data.toList = if st < 0 ∨ 4096 < st then 2 else 0 := by rw [ckDelay, if_neg (by simp [hk])]
    have hk' : (chk 16 s.data.toList != 0) = false := by simp [hk]
    by_cases h1 : st < 0
    · have H1 := Lib.hid (show dlyE st s.data.toList = 2 by rw [dlyE, hD, if_pos (by rw [if_pos (by omega)]; decide), if_pos (by omega)])
      have H2 := Lib.hid (show dlyS st s.data.toList = [] by rw [dlyS, if_pos (by rw [H1.out]; decide)])
      clear hk hD
      go_enter Try.func20, Try.ntmps20
      go_wp2_with (go_at_call 27; refine (refCheck_any _ _ _).mono ?_; rintro e w' ⟨rfl, rfl⟩)
      go_ret2
      exact ⟨by rw [H1.out, H2.out]; rfl, Below.refl _ _⟩
    by_cases h2 : 4096 < st
    · have H1 := Lib.hid (show dlyE st s.data.toList = 2 by rw [dlyE, hD, if_pos (by rw [if_pos (by omega)]; decide), if_pos (by omega)])
      have H2 := Lib.hid (show dlyS st s.data.toList = [] by rw [dlyS, if_pos (by rw [H1.out]; decide)])
      clear hk hD
      go_enter Try.func20, Try.ntmps20
      go_wp2_with (go_at_call 27; refine (refCheck_any _ _ _).mono ?_; rintro e w' ⟨rfl, rfl⟩)
      go_ret2
      exact ⟨by rw [H1.out, H2.out]; rfl, Below.refl _ _⟩
    obtain ⟨r, rfl⟩ := Int.eq_ofNat_of_zero_le (show 0 ≤ st by omega)
    have hE : dlyE r s.data.toList = if 65536 < (s.size : Int) + 6 * r then 4 else 0 := by rw [dlyE, hD, if_neg (by rw [if_neg (by omega)]; decide)]; rfl
    by_cases h3 : 65536 < (s.size : Int) + 6 * r
    · have H1 := Lib.hid (show dlyE r s.data.toList = 4 by rw [hE, if_pos h3])
      have H2 := Lib.hid (show dlyS r s.data.toList = [] by rw [dlyS, if_pos (by rw [H1.out]; decide)])
      clear hk hD hE
      go_enter Try.func20, Try.ntmps20
      go_wp2_with (go_at_call 27; refine (refCheck_any _ _ _).mono ?_; rintro e w' ⟨rfl, rfl⟩)
      go_ret2
      exact ⟨by rw [H1.out, H2.out]; rfl, Below.refl _ _⟩
    · have e1 : dlyE r s.data.toList = 0 := by rw [hE, if_neg h3]
      have e2 : dlyS r s.data.toList = putL s.data.toList (s.size + 6 * r) (brn r) := by rw [dlyS, if_neg (by rw [e1]; decide)]; rfl
      rw [e1, e2]
      exact refDelay_ok r s w hk (by omega) (by omega)
  · have hD : ckDelay st s.data.toList = chk 16 s.data.toList := by rw [ckDelay, if_pos hk]
    have H1 := Lib.hid (show dlyE st s.data.toList = chk 16 s.data.toList by rw [dlyE, hD, if_pos hk])
    have H2 := Lib.hid (show dlyS st s.data.toList = [] by rw [dlyS, if_pos (by rw [H1.out]; exact hk)])
    have hk' : (chk 16 s.data.toList != 0) = true := by simp [hk]
    clear hk hD
    go_enter Try.func20, Try.ntmps20
    go_wp2_with (go_at_call 27; refine (refCheck_any _ _ _).mono ?_; rintro e w' ⟨rfl, rfl⟩)
    go_ret2
    exact ⟨by rw [H1.out, H2.out]; rfl, Below.refl _ _⟩

set_option maxHeartbeats 800000 in
theorem refUndelay_any (st : Int) (s : ByteArray) (w : World) :
    Calls Try.prog 22 #[.int .i64 st, .string s] w fun e w' =>
      e = .returned (.tuple #[.string ⟨(udlS st s.data.toList).toArray⟩, .int .i64 (udlE st s.data.toList)]) ∧ Below w.heap.size w w' := by
  by_cases hk : chk 16 s.data.toList = 0
  · have hlen : s.size ≤ 65536 := chk_len hk
    have hD : ckDelay st s.data.toList = if st < 0 ∨ 4096 < st then 2 else 0 := by rw [ckDelay, if_neg (by simp [hk])]
    have hk' : (chk 16 s.data.toList != 0) = false := by simp [hk]
    by_cases h1 : st < 0
    · have H1 := Lib.hid (show udlE st s.data.toList = 2 by rw [udlE, hD, if_pos (by rw [if_pos (by omega)]; decide), if_pos (by omega)])
      have H2 := Lib.hid (show udlS st s.data.toList = [] by rw [udlS, if_pos (by rw [H1.out]; decide)])
      clear hk hD
      go_enter Try.func22, Try.ntmps22
      go_wp2_with (go_at_call 27; refine (refCheck_any _ _ _).mono ?_; rintro e w' ⟨rfl, rfl⟩)
      go_ret2
      exact ⟨by rw [H1.out, H2.out]; rfl, Below.refl _ _⟩
    by_cases h2 : 4096 < st
    · have H1 := Lib.hid (show udlE st s.data.toList = 2 by rw [udlE, hD, if_pos (by rw [if_pos (by omega)]; decide), if_pos (by omega)])
      have H2 := Lib.hid (show udlS st s.data.toList = [] by rw [udlS, if_pos (by rw [H1.out]; decide)])
      clear hk hD
      go_enter Try.func22, Try.ntmps22
      go_wp2_with (go_at_call 27; refine (refCheck_any _ _ _).mono ?_; rintro e w' ⟨rfl, rfl⟩)
      go_ret2
      exact ⟨by rw [H1.out, H2.out]; rfl, Below.refl _ _⟩
    obtain ⟨r, rfl⟩ := Int.eq_ofNat_of_zero_le (show 0 ≤ st by omega)
    have hE : udlE r s.data.toList = if (s.size : Int) < 6 * r then 11 else 0 := by rw [udlE, hD, if_neg (by rw [if_neg (by omega)]; decide)]; rfl
    by_cases h3 : (s.size : Int) < 6 * r
    · have H1 := Lib.hid (show udlE r s.data.toList = 11 by rw [hE, if_pos h3])
      have H2 := Lib.hid (show udlS r s.data.toList = [] by rw [udlS, if_pos (by rw [H1.out]; decide)])
      clear hk hD hE
      go_enter Try.func22, Try.ntmps22
      go_wp2_with (go_at_call 27; refine (refCheck_any _ _ _).mono ?_; rintro e w' ⟨rfl, rfl⟩)
      go_ret2
      exact ⟨by rw [H1.out, H2.out]; rfl, Below.refl _ _⟩
    · have e1 : udlE r s.data.toList = 0 := by rw [hE, if_neg h3]
      have e2 : udlS r s.data.toList = takeL s.data.toList (brn r) (s.size - 6 * r) := by rw [udlS, if_neg (by rw [e1]; decide)]; rfl
      rw [e1, e2]
      exact refUndelay_ok r s w hk (by omega) (by omega) hlen
  · have hD : ckDelay st s.data.toList = chk 16 s.data.toList := by rw [ckDelay, if_pos hk]
    have H1 := Lib.hid (show udlE st s.data.toList = chk 16 s.data.toList by rw [udlE, hD, if_pos hk])
    have H2 := Lib.hid (show udlS st s.data.toList = [] by rw [udlS, if_pos (by rw [H1.out]; exact hk)])
    have hk' : (chk 16 s.data.toList != 0) = true := by simp [hk]
    clear hk hD
    go_enter Try.func22, Try.ntmps22
    go_wp2_with (go_at_call 27; refine (refCheck_any _ _ _).mono ?_; rintro e w' ⟨rfl, rfl⟩)
    go_ret2
    exact ⟨by rw [H1.out, H2.out]; rfl, Below.refl _ _⟩

def greatB (n : Nat) : Bool := (decide (60 < n) && decide (n ≤ 65536)) || decide (65544 < n)
set_option maxHeartbeats 400000 in
theorem great_any (s : ByteArray) (w : World) (hs : s.size ≤ maxLen) :
    Calls Try.prog 16 #[.string s] w fun e w' => e = .returned (.bool (greatB s.size)) ∧ w = w' := by
  unfold maxLen at hs
  by_cases h1 : s.size ≤ 60
  · have H := Lib.hid (show greatB s.size = false by simp [greatB]; omega)
    have d1 : decide (65544 < (s.size : Int)) = false := by rw [decide_eq_false_iff_not]; omega
    go_enter Try.func16, Try.ntmps16
    go_wp2
    go_ret
    exact ⟨by rw [H.out]; rfl, rfl⟩
  by_cases h2 : s.size ≤ 65536
  · have H := Lib.hid (show greatB s.size = true by simp [greatB]; omega)
    go_enter Try.func16, Try.ntmps16
    go_wp2
    go_ret
    exact ⟨by rw [H.out]; rfl, rfl⟩
  by_cases h3 : s.size ≤ 65544
  · have H := Lib.hid (show greatB s.size = false by simp [greatB]; omega)
    have d1 : decide (65544 < (s.size : Int)) = false := by rw [decide_eq_false_iff_not]; omega
    have d2 : decide ((s.size : Int) ≤ 65536) = false := by rw [decide_eq_false_iff_not]; omega
    go_enter Try.func16, Try.ntmps16
    go_wp2
    go_ret
    exact ⟨by rw [H.out]; rfl, rfl⟩
  · have H := Lib.hid (show greatB s.size = true by simp [greatB]; omega)
    have d1 : decide (65544 < (s.size : Int)) = true := by rw [decide_eq_true_iff]; omega
    have d2 : decide ((s.size : Int) ≤ 65536) = false := by rw [decide_eq_false_iff_not]; omega
    go_enter Try.func16, Try.ntmps16
    go_wp2
    go_ret
    exact ⟨by rw [H.out]; rfl, rfl⟩
end Go.Proofs.Ytgjlhjklcgladaa
