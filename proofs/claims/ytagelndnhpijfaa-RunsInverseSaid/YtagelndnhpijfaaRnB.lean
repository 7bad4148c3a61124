/-
  The contracts of Charges, Disparity and Range, and of their references.
-/
import Derived.Test.YtagelndnhpijfaaRnA
import Derived.Lib.Slices
namespace Go.Proofs.Ytagelndnhpijfaa
open Go.RowKit

def chgV (l : List UInt8) : List Int := if chk 2 l = 0 then chL l l.length else []
theorem chgV_ok {l : List UInt8} (h : chk 2 l = 0) : chgV l = chL l l.length := if_pos h
theorem chgV_no {l : List UInt8} (h : ¬ chk 2 l = 0) : chgV l = [] := if_neg h
theorem chk2_le {l : List UInt8} (h : chk 2 l = 0) : l.length ≤ 65536 := ((chk2_iff l).1 h).1

set_option maxHeartbeats 400000 in
theorem Charges_any (s : ByteArray) (w : World) :
    Calls Try.prog 13 #[.string s] w fun e w' => ∃ v, e = .returned (.tuple #[v, .int .i64 (chk 2 s.data.toList)]) ∧ Own w' w.heap.size 3 v (ints (chgV s.data.toList)) ∧ Below w.heap.size w w' := by
  by_cases h : chk 2 s.data.toList = 0
  · have hs : s.size ≤ 65536 := chk2_le h
    have HV := Lib.hid (show chgV s.data.toList = chL s.data.toList s.size from chgV_ok h)
    go_enter Try.func13, Try.ntmps13
    go_wp2_with fail
    refine (check_any _ _ _).mono ?_
    rintro e w1 ⟨rfl, n, rfl⟩
    rw [h]
    have HH := Lib.hid h; clear h
    go_wp2_with fail
    refine (charges_any s _ hs).mono ?_
    rintro e w2 ⟨v, rfl, hown, hb⟩
    have HO := Lib.hid hown; clear hown
    have HB := Lib.hid hb; clear hb
    go_wp2_with fail
    go_ret2
    exact ⟨v, by rw [HH.out]; rfl, by rw [HV.out]; exact HO.out, (below_ofN n).trans HB.out⟩
  · have hb : (chk 2 s.data.toList != 0) = true := by simpa using h
    have HV := Lib.hid (chgV_no h)
    clear h
    go_enter Try.func13, Try.ntmps13
    go_wp2_with fail
    refine (check_any _ _ _).mono ?_
    rintro e w1 ⟨rfl, n, rfl⟩
    go_wp2_with fail
    go_ret2
    exact ⟨_, rfl, by rw [HV.out]; exact own_nil _ _ _, below_ofN n⟩

set_option maxHeartbeats 1000000 in
set_option maxRecDepth 100000 in
theorem refCharges_any (s : ByteArray) (w : World) :
    Calls Try.prog 14 #[.string s] w fun e w' => ∃ v, e = .returned (.tuple #[v, .int .i64 (chk 2 s.data.toList)]) ∧ Own w' w.heap.size 3 v (ints (chgV s.data.toList)) ∧ Below w.heap.size w w' := by
  by_cases h : chk 2 s.data.toList = 0
  · have hs : s.size ≤ 65536 := chk2_le h
    have HV := Lib.hid (show chgV s.data.toList = chL s.data.toList s.size from chgV_ok h)
    have HH := Lib.hid h; clear h
    go_enter Try.func14, Try.ntmps14
    go_wp2_with fail
    refine (refCheck_any _ _ _).mono ?_
    rintro e w' ⟨rfl, rfl⟩
    rw [HH.out]
    have HO := Lib.hid (own_lit w w.heap.size 3 [.int .i64 0] (Nat.le_refl _) (by unfold maxLen; simp))
    go_wp2_with fail
    go_loopw [5, 6] (fun v i wr => ∃ k : Nat, k ≤ s.size ∧ i = .int .i64 k ∧ Own wr w.heap.size 3 v (ints (chL s.data.toList k)) ∧ Below w.heap.size w wr) (fun _ i _ => s.size - (intOf i).toNat)
    case atStart => exact ⟨0, by omega, rfl, HO.out, (Below.refl _ _).alloc (Nat.le_refl _) _⟩
    case round =>
      obtain ⟨k, hk, rfl, hown, hb⟩ := hrel
      have HW := Lib.hid hown; clear hown
      have HB := Lib.hid hb; clear hb
      by_cases hlt : k < s.size
      · have HSZ := Lib.hid HB.out.size
        have hbd := chS_bd s.data.toList k
        have HCL := Lib.hid (chL_len s.data.toList k)
        rcases HW.out.cases with ⟨h1, h2⟩ | ⟨g, cap, rfl, hg1, hg2, hg3, hg4, hg5⟩
        · have := congrArg List.length h2
          rw [ints_len, chL_len] at this; simp at this
        · have cK := hg4 k (by rw [ints_len, chL_len]; omega)
          rw [ints_get, chL_get _ _ _ (Nat.le_refl _)] at cK
          have cK' : wr.cell? ⟨g, k, none⟩ = some (.int .i64 (chS s.data.toList k)) := cK
          have hil : (ints (chL s.data.toList k)).length = k + 1 := by rw [ints_len, chL_len]
          clear cK hg1 hg2 hg3 hg4 hg5
          have HS := Lib.hid (show chS s.data.toList (k + 1) = chS s.data.toList k + stp s[k] by rw [chS, getD_at s k hlt])
          have HW2 := Lib.hid (show Own wr w.heap.size 3 (.slice (some ⟨g, 0, none⟩) (k + 1) cap) (ints (chL s.data.toList k)) by have := HW.out; rwa [hil] at this)
          have HIL := Lib.hid hil
          rw [hil]
          clear hil
          by_cases h1 : s[k] = 49
          · have hb : (((s[k].toNat : Nat) : Int) == 49) = true := by rw [h1]; rfl
            have HS2 := Lib.hid (show chS s.data.toList (k + 1) = chS s.data.toList k + 1 by rw [HS.out, stp, if_pos h1])
            clear h1
            go_wp2_with (at_builtin; refine wpList_app1 _ rfl _ _ _ rfl w.heap.size 3 (.int .i64 0) 8 Try.underlying24 (by kernel_rfl) rfl _ _ rfl (HW2.out.alloc _) wr.heap.size 1 (.int .i64 (chS s.data.toList k + 1)) rfl ((row_new wr 3 [.int .i64 (chS s.data.toList k + 1)]).cell 0) rfl ?c1 ?c2 ?c3 ?_)
            case c1 => rw [HIL.out]; omega
            case c2 => rw [HIL.out]; omega
            case c3 => exact Nat.le_trans HSZ.out (by simp)
            intro v' w3 hown' hgrow _
            have HO3 := Lib.hid hown'; clear hown'
            have HB3 := Lib.hid (below_grown (HB.out.alloc HSZ.out _) (HW2.out.alloc _) hgrow (Nat.le_trans HSZ.out (by simp))); clear hgrow
            go_wp2_with fail
            go_roundw
            case rel => exact ⟨k + 1, by omega, by go_num, by rw [chL_succ, HS2.out, ← ints_app]; exact HO3.out, HB3.out⟩
            case measure => simp [intOf]; omega
          · have hb : (((s[k].toNat : Nat) : Int) == 49) = false := by
              rw [beq_eq_false_iff_ne]; intro he; apply h1; rw [← UInt8.toNat_inj]
              have e : (49 : UInt8).toNat = 49 := rfl
              omega
            have HS2 := Lib.hid (show chS s.data.toList (k + 1) = chS s.data.toList k - 1 by rw [HS.out, stp, if_neg h1]; rfl)
            clear h1
            go_wp2_with (at_builtin; refine wpList_app1 _ rfl _ _ _ rfl w.heap.size 3 (.int .i64 0) 8 Try.underlying24 (by kernel_rfl) rfl _ _ rfl (HW2.out.alloc _) wr.heap.size 1 (.int .i64 (chS s.data.toList k - 1)) rfl ((row_new wr 3 [.int .i64 (chS s.data.toList k - 1)]).cell 0) rfl ?c1 ?c2 ?c3 ?_)
            case c1 => rw [HIL.out]; omega
            case c2 => rw [HIL.out]; omega
            case c3 => exact Nat.le_trans HSZ.out (by simp)
            intro v' w3 hown' hgrow _
            have HO3 := Lib.hid hown'; clear hown'
            have HB3 := Lib.hid (below_grown (HB.out.alloc HSZ.out _) (HW2.out.alloc _) hgrow (Nat.le_trans HSZ.out (by simp))); clear hgrow
            go_wp2_with fail
            go_roundw
            case rel => exact ⟨k + 1, by omega, by go_num, by rw [chL_succ, HS2.out, ← ints_app]; exact HO3.out, HB3.out⟩
            case measure => simp [intOf]; omega
      · obtain rfl : k = s.size := by omega
        have hd : decide ((s.size : Int) < (s.size : Int)) = false := by simp
        go_wp2_with fail
        go_ret2
        exact ⟨_, by rw [HH.out]; rfl, by rw [HV.out]; exact HW.out, HB.out⟩
  · have hb : (chk 2 s.data.toList != 0) = true := by simpa using h
    have HV := Lib.hid (chgV_no h)
    clear h
    go_enter Try.func14, Try.ntmps14
    go_wp2_with fail
    refine (refCheck_any _ _ _).mono ?_
    rintro e w' ⟨rfl, rfl⟩
    go_wp2_with fail
    go_ret2
    exact ⟨_, rfl, by rw [HV.out]; exact own_nil _ _ _, Below.refl _ _⟩

theorem chS_count (l : List UInt8) : ∀ k, k ≤ l.length → chS l k = 2 * ((l.take k).count 49 : Nat) - (k : Int)
  | 0, _ => by simp [chS]
  | k + 1, h => by
    have ih := chS_count l k (by omega)
    have e : l.getD k 0 = l[k] := by rw [List.getD_eq_getElem?_getD, List.getElem?_eq_getElem (by omega)]; rfl
    rw [chS, ih, List.take_succ_eq_append_getElem (by omega), List.count_append, e, stp]
    by_cases h1 : l[k] = 49
    · rw [if_pos h1, h1]; simp; omega
    · rw [if_neg h1, List.count_singleton]
      have : (l[k] == 49) = false := by simpa using h1
      rw [this]; simp; omega
def dsV (l : List UInt8) : Int := if chk 2 l = 0 then chS l l.length else 0
theorem chS_all (l : List UInt8) : chS l l.length = 2 * (l.count 49 : Nat) - (l.length : Int) := by
  have := chS_count l l.length (Nat.le_refl _)
  rwa [List.take_length] at this

set_option maxHeartbeats 400000 in
theorem Disparity_any (s : ByteArray) (w : World) :
    Calls Try.prog 15 #[.string s] w fun e w' => e = .returned (.tuple #[.int .i64 (dsV s.data.toList), .int .i64 (chk 2 s.data.toList)]) ∧ Below w.heap.size w w' := by
  by_cases h : chk 2 s.data.toList = 0
  · have hs : s.size ≤ 65536 := chk2_le h
    have HV := Lib.hid (show dsV s.data.toList = 2 * ((Lib.countByte s.data.toList 49 : Nat) : Int) - (s.size : Int) by rw [dsV, if_pos h, chS_all]; rfl)
    have hc : Lib.countByte s.data.toList 49 ≤ s.size := List.count_le_length
    have CC := Lib.hid (fun w => Try.strings_Count_one s 49 w)
    generalize Lib.countByte s.data.toList 49 = c at *
    go_enter Try.func15, Try.ntmps15
    go_wp2_with fail
    refine (check_any _ _ _).mono ?_
    rintro e w1 ⟨rfl, n, rfl⟩
    rw [h]
    have HH := Lib.hid h; clear h
    go_wp2_with fail
    refine (CC.out _).mono ?_
    rintro e w1 ⟨rfl, rfl⟩
    go_wp2_with fail
    go_ret2
    exact ⟨by rw [HV.out, HH.out]; rfl, below_ofN n⟩
  · have hb : (chk 2 s.data.toList != 0) = true := by simpa using h
    have HV := Lib.hid (show dsV s.data.toList = 0 from if_neg h)
    clear h
    go_enter Try.func15, Try.ntmps15
    go_wp2_with fail
    refine (check_any _ _ _).mono ?_
    rintro e w1 ⟨rfl, n, rfl⟩
    go_wp2_with fail
    go_ret2
    exact ⟨by rw [HV.out]; rfl, below_ofN n⟩

set_option maxHeartbeats 400000 in
theorem refDisparity_any (s : ByteArray) (w : World) :
    Calls Try.prog 16 #[.string s] w fun e w' => e = .returned (.tuple #[.int .i64 (dsV s.data.toList), .int .i64 (chk 2 s.data.toList)]) ∧ Below w.heap.size w w' := by
  by_cases h : chk 2 s.data.toList = 0
  · have hs : s.size ≤ 65536 := chk2_le h
    have HV := Lib.hid (show dsV s.data.toList = chS s.data.toList s.size from if_pos h)
    have HC := Lib.hid (show chgV s.data.toList = chL s.data.toList s.size from chgV_ok h)
    have HH := Lib.hid h; clear h
    go_enter Try.func16, Try.ntmps16
    go_wp2_with fail
    refine (refCharges_any _ _).mono ?_
    rintro e w1 ⟨v, rfl, hown, hb⟩
    rw [HH.out]
    rw [HC.out] at hown
    have HB := Lib.hid hb; clear hb
    rcases hown.cases with ⟨h1, h2⟩ | ⟨g, cap, rfl, hg1, hg2, hg3, hg4, hg5⟩
    · have := congrArg List.length h2
      rw [ints_len, chL_len] at this; simp at this
    · have hil : (ints (chL s.data.toList s.size)).length = s.size + 1 := by rw [ints_len, chL_len]
      have cK := hg4 s.size (by omega)
      rw [ints_get, chL_get _ _ _ (Nat.le_refl _)] at cK
      have cK' : w1.cell? ⟨g, s.size, none⟩ = some (.int .i64 (chS s.data.toList s.size)) := cK
      rw [hil]
      clear cK hg1 hg2 hg3 hg4 hg5 hown hil
      go_wp2_with fail
      go_ret2
      exact ⟨by rw [HV.out, HH.out]; rfl, HB.out⟩
  · have hb : (chk 2 s.data.toList != 0) = true := by simpa using h
    have HV := Lib.hid (show dsV s.data.toList = 0 from if_neg h)
    clear h
    go_enter Try.func16, Try.ntmps16
    go_wp2_with fail
    refine (refCharges_any _ _).mono ?_
    rintro e w1 ⟨v, rfl, hown, hb⟩
    have HB := Lib.hid hb; clear hb hown
    go_wp2_with fail
    go_ret2
    exact ⟨by rw [HV.out]; rfl, HB.out⟩

/-- The least, and the greatest charge of the first k letters. -/
def mnS (l : List UInt8) : Nat → Int
  | 0 => 0
  | k + 1 => min (mnS l k) (chS l (k + 1))
def mxS (l : List UInt8) : Nat → Int
  | 0 => 0
  | k + 1 => max (mxS l k) (chS l (k + 1))
theorem minOf_app (zs : List Int) (x : Int) (h : zs ≠ []) : Lib.minOf (zs ++ [x]) = min (Lib.minOf zs) x := by
  cases zs with
  | nil => exact absurd rfl h
  | cons a l => simp [Lib.minOf, List.foldl_append]
theorem maxOf_app (zs : List Int) (x : Int) (h : zs ≠ []) : Lib.maxOf (zs ++ [x]) = max (Lib.maxOf zs) x := by
  cases zs with
  | nil => exact absurd rfl h
  | cons a l => simp [Lib.maxOf, List.foldl_append]
theorem chL_ne (l : List UInt8) (k : Nat) : chL l k ≠ [] := fun h => by have := chL_len l k; rw [h] at this; simp at this
theorem minOf_chL (l : List UInt8) : ∀ k, Lib.minOf (chL l k) = mnS l k
  | 0 => rfl
  | k + 1 => by rw [chL_succ, minOf_app _ _ (chL_ne l k), minOf_chL l k, mnS]
theorem maxOf_chL (l : List UInt8) : ∀ k, Lib.maxOf (chL l k) = mxS l k
  | 0 => rfl
  | k + 1 => by rw [chL_succ, maxOf_app _ _ (chL_ne l k), maxOf_chL l k, mxS]
theorem mn_bd (l : List UInt8) : ∀ k : Nat, -(k : Int) ≤ mnS l k ∧ mnS l k ≤ 0 ∧ 0 ≤ mxS l k ∧ mxS l k ≤ k
  | 0 => by simp [mnS, mxS]
  | k + 1 => by
    have h1 := mn_bd l k
    have h2 := chS_bd l (k + 1)
    rw [mnS, mxS]; omega
def loV (l : List UInt8) : Int := if chk 2 l = 0 then mnS l l.length else 0
def hiV (l : List UInt8) : Int := if chk 2 l = 0 then mxS l l.length else 0

set_option maxHeartbeats 400000 in
theorem Range_any (s : ByteArray) (w : World) :
    Calls Try.prog 17 #[.string s] w fun e w' => e = .returned (.tuple #[.int .i64 (loV s.data.toList), .int .i64 (hiV s.data.toList), .int .i64 (chk 2 s.data.toList)]) ∧ Below w.heap.size w w' := by
  by_cases h : chk 2 s.data.toList = 0
  · have hs : s.size ≤ 65536 := chk2_le h
    have HV := Lib.hid (show loV s.data.toList = mnS s.data.toList s.size from if_pos h)
    have HV2 := Lib.hid (show hiV s.data.toList = mxS s.data.toList s.size from if_pos h)
    have HC := Lib.hid (show chgV s.data.toList = chL s.data.toList s.size from chgV_ok h)
    have HH := Lib.hid h; clear h
    go_enter Try.func17, Try.ntmps17
    go_wp2_with fail
    refine (Charges_any _ _).mono ?_
    rintro e w1 ⟨v, rfl, hown, hb⟩
    rw [HH.out]
    rw [HC.out] at hown
    have HB := Lib.hid hb; clear hb
    rcases hown.cases with ⟨h1, h2⟩ | ⟨g, cap, rfl, hg1, hg2, hg3, hg4, hg5⟩
    · have := congrArg List.length h2
      rw [ints_len, chL_len] at this; simp at this
    · have hil : (ints (chL s.data.toList s.size)).length = s.size + 1 := by rw [ints_len, chL_len]
      have HCC := Lib.hid (show ∀ j, j < (chL s.data.toList s.size).length → w1.cell? ⟨g, 0 + j, none⟩ = some (.int .i64 ((chL s.data.toList s.size).getD j 0)) from fun j hj => by
        rw [Nat.zero_add, hg4 j (by rw [ints_len]; exact hj), ints_get, List.getD_eq_getElem?_getD, List.getElem?_eq_getElem hj]; rfl)
      have C1 := Lib.hid (Try.slices_Min_int g 0 (s.size + 1) cap (chL s.data.toList s.size) w1 (by omega) (by rw [chL_len]; exact Nat.le_refl _) (by omega) HCC.out)
      have C2 := Lib.hid (Try.slices_Max_int g 0 (s.size + 1) cap (chL s.data.toList s.size) w1 (by omega) (by rw [chL_len]; exact Nat.le_refl _) (by omega) HCC.out)
      rw [List.take_of_length_le (by rw [chL_len]; exact Nat.le_refl _), minOf_chL] at C1
      rw [List.take_of_length_le (by rw [chL_len]; exact Nat.le_refl _), maxOf_chL] at C2
      rw [hil]
      clear hg1 hg2 hg3 hg4 hg5 hown hil
      go_wp2_with fail
      refine C1.out.mono ?_
      rintro e w' ⟨rfl, hw⟩
      obtain rfl : w1 = w' := hw.symm
      go_wp2_with fail
      refine C2.out.mono ?_
      rintro e w' ⟨rfl, hw⟩
      obtain rfl : w1 = w' := hw.symm
      go_wp2_with fail
      go_ret3
      exact ⟨by rw [HV.out, HV2.out, HH.out]; rfl, HB.out⟩
  · have hb : (chk 2 s.data.toList != 0) = true := by simpa using h
    have HV := Lib.hid (show loV s.data.toList = 0 from if_neg h)
    have HV2 := Lib.hid (show hiV s.data.toList = 0 from if_neg h)
    clear h
    go_enter Try.func17, Try.ntmps17
    go_wp2_with fail
    refine (Charges_any _ _).mono ?_
    rintro e w1 ⟨v, rfl, hown, hb⟩
    have HB := Lib.hid hb; clear hb hown
    go_wp2_with fail
    go_ret3
    exact ⟨by rw [HV.out, HV2.out]; rfl, HB.out⟩

set_option maxHeartbeats 1000000 in
set_option maxRecDepth 100000 in
theorem refRange_any (s : ByteArray) (w : World) :
    Calls Try.prog 18 #[.string s] w fun e w' => e = .returned (.tuple #[.int .i64 (loV s.data.toList), .int .i64 (hiV s.data.toList), .int .i64 (chk 2 s.data.toList)]) ∧ Below w.heap.size w w' := by
  by_cases h : chk 2 s.data.toList = 0
  · have hs : s.size ≤ 65536 := chk2_le h
    have HV := Lib.hid (show loV s.data.toList = mnS s.data.toList s.size from if_pos h)
    have HV2 := Lib.hid (show hiV s.data.toList = mxS s.data.toList s.size from if_pos h)
    have HC := Lib.hid (show chgV s.data.toList = chL s.data.toList s.size from chgV_ok h)
    have HH := Lib.hid h; clear h
    go_enter Try.func18, Try.ntmps18
    go_wp2_with fail
    refine (refCharges_any _ _).mono ?_
    rintro e w1 ⟨v, rfl, hown, hb⟩
    rw [HH.out]
    rw [HC.out] at hown
    have HB := Lib.hid hb; clear hb
    rcases hown.cases with ⟨h1, h2⟩ | ⟨g, cap, rfl, hg1, hg2, hg3, hg4, hg5⟩
    · have := congrArg List.length h2
      rw [ints_len, chL_len] at this; simp at this
    · have hil : (ints (chL s.data.toList s.size)).length = s.size + 1 := by rw [ints_len, chL_len]
      have HCC := Lib.hid (show ∀ j, j ≤ s.size → w1.cell? ⟨g, j, none⟩ = some (.int .i64 (chS s.data.toList j)) from fun j hj => by
        rw [hg4 j (by omega), ints_get, chL_get _ _ _ hj]; rfl)
      rw [hil]
      clear hg1 hg2 hg3 hg4 hg5 hown hil
      go_wp2_with fail
      go_loop [7, 8, 9] (fun lo hi i => ∃ k : Nat, k ≤ s.size + 1 ∧ i = .int .i64 k ∧ lo = .int .i64 (mnS s.data.toList (k - 1)) ∧ hi = .int .i64 (mxS s.data.toList (k - 1))) (fun _ _ i => s.size + 1 - (intOf i).toNat)
      case atStart => exact ⟨0, by omega, rfl, rfl, rfl⟩
      case round =>
        obtain ⟨k, hk, rfl, rfl, rfl⟩ := hrel
        by_cases hlt : k < s.size + 1
        · have hc := HCC.out k (by omega)
          obtain ⟨b1, b2, b3, b4⟩ := mn_bd s.data.toList (k - 1)
          obtain ⟨b5, b6⟩ := chS_bd s.data.toList k
          have HN := Lib.hid (show mnS s.data.toList k = min (mnS s.data.toList (k - 1)) (chS s.data.toList k) ∧ mxS s.data.toList k = max (mxS s.data.toList (k - 1)) (chS s.data.toList k) by
            cases k with
            | zero => simp [mnS, mxS, chS]
            | succ j => exact ⟨rfl, rfl⟩)
          have hk1 : k + 1 - 1 = k := by omega
          by_cases h1 : chS s.data.toList k < mnS s.data.toList (k - 1)
          · have HM := Lib.hid (show mnS s.data.toList k = chS s.data.toList k ∧ mxS s.data.toList k = mxS s.data.toList (k - 1) by have := HN.out; omega)
            have h2 : ¬ mxS s.data.toList (k - 1) < chS s.data.toList k := by omega
            have t2 : decide (mxS s.data.toList (k - 1) < chS s.data.toList k) = false := by simpa using h2
            have t1 : decide (chS s.data.toList k < mnS s.data.toList (k - 1)) = true := by simpa using h1
            clear h1 h2
            go_wp2_with fail
            go_round
            case rel => exact ⟨k + 1, by omega, by go_num, by rw [hk1, HM.out.1], by rw [hk1, HM.out.2]⟩
            case measure => simp [intOf]; omega
          · have t1 : decide (chS s.data.toList k < mnS s.data.toList (k - 1)) = false := by simpa using h1
            by_cases h2 : mxS s.data.toList (k - 1) < chS s.data.toList k
            · have HM := Lib.hid (show mnS s.data.toList k = mnS s.data.toList (k - 1) ∧ mxS s.data.toList k = chS s.data.toList k by have := HN.out; omega)
              have t2 : decide (mxS s.data.toList (k - 1) < chS s.data.toList k) = true := by simpa using h2
              clear h1 h2
              go_wp2_with fail
              go_round
              case rel => exact ⟨k + 1, by omega, by go_num, by rw [hk1, HM.out.1], by rw [hk1, HM.out.2]⟩
              case measure => simp [intOf]; omega
            · have HM := Lib.hid (show mnS s.data.toList k = mnS s.data.toList (k - 1) ∧ mxS s.data.toList k = mxS s.data.toList (k - 1) by have := HN.out; omega)
              have t2 : decide (mxS s.data.toList (k - 1) < chS s.data.toList k) = false := by simpa using h2
              clear h1 h2
              go_wp2_with fail
              go_round
              case rel => exact ⟨k + 1, by omega, by go_num, by rw [hk1, HM.out.1], by rw [hk1, HM.out.2]⟩
              case measure => simp [intOf]; omega
        · obtain rfl : k = s.size + 1 := by omega
          rw [show s.size + 1 - 1 = s.size by omega]
          have hd : decide (((s.size + 1 : Nat) : Int) < ((s.size + 1 : Nat) : Int)) = false := by simp
          go_wp2_with fail
          go_ret3
          exact ⟨by rw [HV.out, HV2.out, HH.out]; rfl, HB.out⟩
  · have hb : (chk 2 s.data.toList != 0) = true := by simpa using h
    have HV := Lib.hid (show loV s.data.toList = 0 from if_neg h)
    have HV2 := Lib.hid (show hiV s.data.toList = 0 from if_neg h)
    clear h
    go_enter Try.func18, Try.ntmps18
    go_wp2_with fail
    refine (refCharges_any _ _).mono ?_
    rintro e w1 ⟨v, rfl, hown, hb⟩
    have HB := Lib.hid hb; clear hb hown
    go_wp2_with fail
    go_ret3
    exact ⟨by rw [HV.out, HV2.out]; rfl, HB.out⟩
end Go.Proofs.Ytagelndnhpijfaa
