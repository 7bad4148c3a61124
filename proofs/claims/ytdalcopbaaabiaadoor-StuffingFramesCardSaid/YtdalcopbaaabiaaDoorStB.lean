/-
  The contracts of Stuff, Pad and Both.
-/
import Derived.Test.YtdalcopbaaabiaaDoorStA
import Derived.Test.YtdalcopbaaabiaaDoorBin
import Derived.Lib.ReplaceLaws
import Derived.Lib.SplitLaws
namespace Go.Proofs.YtdalcopbaaabiaaDoor
open Go.RowKit

/-- internal/bytealg.MaxLen holds some number. -/
def Mx (w : World) : Prop := ∃ m, w.cell? ⟨0, 0, none⟩ = some (.int .i64 m)
theorem Mx.below {w w' : World} {B : Nat} (h : Mx w) (hb : Below B w w') (hB : w.heap.size ≤ B) : Mx w' := by
  obtain ⟨m, h⟩ := h
  refine ⟨m, cell_below h hb (Nat.lt_of_lt_of_le ?_ hB)⟩
  rcases Nat.lt_or_ge 0 w.heap.size with h' | h'
  · exact h'
  · simp [World.cell?, Array.getElem?_eq_none h'] at h
theorem Mx.drewN {w : World} (h : Mx w) (n : Nat) : Mx (w.drewN n) := h

/-- A word with d letters 0 behind each letter 1. -/
def padL (d : Nat) (l : List UInt8) : List UInt8 := l.flatMap fun a => if a = 49 then 49 :: List.replicate d 48 else [a]
theorem replaceK_one (c : UInt8) (new : List UInt8) : ∀ l : List UInt8, Lib.replaceK [c] new (Lib.count l [c]) l = l.flatMap fun a => if a = c then new else [a]
  | [] => by rw [Lib.count_one]; simp [Lib.replaceK]
  | b :: l => by
    have ih := replaceK_one c new l
    by_cases h : b = c
    · subst h
      have hi : Lib.index (b :: l) [b] = (0 : Nat) := by simp [Lib.index, List.isPrefixOf]
      rw [Lib.count_cons_eq, Nat.add_comm, Lib.replaceK_hit _ _ _ _ 0 hi]
      simp [ih]
    · rw [Lib.count_cons_ne _ _ _ h, List.flatMap_cons, if_neg h, ← ih]
      rcases hk : Lib.count l [c] with _ | k
      · simp [Lib.replaceK]
      · obtain ⟨i, hi⟩ := Lib.index_of_count (s := l) (old := [c]) (by omega)
        have hi' : Lib.index (b :: l) [c] = ((i + 1 : Nat) : Int) := by
          have h2 : (c == b) = false := by simpa using fun e => h e.symm
          have h3 : (((i : Nat) : Int) == -1) = false := by rw [beq_eq_false_iff_ne]; omega
          simp [Lib.index, List.isPrefixOf, h2, hi, h3]
        rw [Lib.replaceK_hit _ _ _ _ _ hi', Lib.replaceK_hit _ _ _ _ _ hi]
        simp
theorem replaceAll_pad (d : Nat) (l : List UInt8) : Lib.replaceAll l [49] (49 :: List.replicate d 48) = padL d l := by
  unfold Lib.replaceAll Lib.replace padL
  rcases d with _ | d
  · rw [if_pos (by simp)]
    have : (fun a : UInt8 => if a = 49 then 49 :: List.replicate 0 48 else [a]) = fun a => [a] := by funext a; split <;> simp_all
    rw [this]; simp
  · rw [if_neg (by simp [List.replicate_succ]), Lib.replaceNum, if_pos (.inl (by omega)), replaceK_one]
theorem padL_len (d : Nat) : ∀ l, (padL d l).length = l.length + d * l.count 49
  | [] => by simp [padL]
  | a :: l => by
    have ih := padL_len d l
    have e : padL d (a :: l) = (if a = 49 then 49 :: List.replicate d 48 else [a]) ++ padL d l := by simp [padL]
    rw [e, List.length_append, ih, List.count_cons]
    by_cases h : a = 49
    · simp [h, Nat.mul_add]; omega
    · simp [h]; omega

theorem cat_rep (K : Nat) : (⟨#[49]⟩ : ByteArray) ++ ⟨Array.replicate K 48⟩ = ⟨(49 :: List.replicate K 48).toArray⟩ := by
  apply ByteArray.ext
  rw [ByteArray.data_append]
  simp

def stE (k : Int) (l : List UInt8) : Int := if k < 1 ∨ 64 < k then 2 else if chk 2 l ≠ 0 then chk 2 l else if (stf 48 49 k.toNat 0 l).length ≤ 65536 then 0 else 4
def stO (k : Int) (l : List UInt8) : List UInt8 := if stE k l = 0 then stf 48 49 k.toNat 0 l else []
def pdE (d : Int) (l : List UInt8) : Int := if d < 0 ∨ 64 < d then 2 else if chk 2 l ≠ 0 then chk 2 l else if (padL d.toNat l).length ≤ 65536 then 0 else 4
def pdO (d : Int) (l : List UInt8) : List UInt8 := if pdE d l = 0 then padL d.toNat l else []

set_option maxHeartbeats 400000 in
theorem Stuff_any (k : Int) (s : ByteArray) (w : World) :
    Calls Tryd.prog 14 #[.int .i64 k, .string s] w fun e w' => e = .returned (.tuple #[.string ⟨(stO k s.data.toList).toArray⟩, .int .i64 (stE k s.data.toList)]) ∧ Below w.heap.size w w' := by
  by_cases hk : k < 1 ∨ 64 < k
  · have HV := Lib.hid (show stE k s.data.toList = 2 by rw [stE, if_pos hk])
    have HO := Lib.hid (show stO k s.data.toList = [] by rw [stO, HV.out]; rfl)
    rcases hk with hk | hk
    all_goals
      go_enter Tryd.func14, Tryd.ntmps14
      go_wp2_with fail
      go_ret2
      exact ⟨by rw [HV.out, HO.out]; rfl, Below.refl _ _⟩
  · have h1 : 1 ≤ k := by omega
    have h2 : k ≤ 64 := by omega
    by_cases hc : chk 2 s.data.toList = 0
    · have hs : s.size ≤ 65536 := ((chk2_iff _).1 hc).1
      obtain ⟨K, rfl⟩ : ∃ K : Nat, k = K := ⟨k.toNat, by omega⟩
      have hv : stE K s.data.toList = if (stf 48 49 K 0 s.data.toList).length ≤ 65536 then 0 else 4 := by rw [stE, if_neg hk, if_neg (by simp [hc])]; rfl
      have HC := Lib.hid hc; clear hc hk
      by_cases hl : (stf 48 49 K 0 s.data.toList).length ≤ 65536
      · have HV := Lib.hid (show stE K s.data.toList = 0 by rw [hv, if_pos hl])
        have HO := Lib.hid (show stO K s.data.toList = stf 48 49 K 0 s.data.toList by rw [stO, HV.out]; rfl)
        have hd : decide (((stf 48 49 K 0 s.data.toList).length : Int) ≤ 65536) = true := by simp; omega
        clear hv
        go_enter Tryd.func14, Tryd.ntmps14
        go_wp2_with fail
        refine (check_any _ _ _).mono ?_
        rintro e w1 ⟨rfl, n, rfl⟩
        rw [HC.out]
        go_wp2_with fail
        refine (stuffed_any 48 49 K s _ (by omega) (by omega) (by omega)).mono ?_
        rintro e w2 ⟨rfl, hb⟩
        rw [hd]
        have HB := Lib.hid ((below_ofN n).trans hb); clear hb hd
        go_wp2_with fail
        go_ret2
        exact ⟨by rw [HV.out, HO.out]; rfl, HB.out⟩
      · have HV := Lib.hid (show stE K s.data.toList = 4 by rw [hv, if_neg hl])
        have HO := Lib.hid (show stO K s.data.toList = [] by rw [stO, HV.out]; rfl)
        have hd : decide (((stf 48 49 K 0 s.data.toList).length : Int) ≤ 65536) = false := by simp; omega
        clear hv
        go_enter Tryd.func14, Tryd.ntmps14
        go_wp2_with fail
        refine (check_any _ _ _).mono ?_
        rintro e w1 ⟨rfl, n, rfl⟩
        rw [HC.out]
        go_wp2_with fail
        refine (stuffed_any 48 49 K s _ (by omega) (by omega) (by omega)).mono ?_
        rintro e w2 ⟨rfl, hb⟩
        rw [hd]
        have HB := Lib.hid ((below_ofN n).trans hb); clear hb hd
        go_wp2_with fail
        go_ret2
        exact ⟨by rw [HV.out, HO.out]; rfl, HB.out⟩
    · have hb : (chk 2 s.data.toList != 0) = true := by simpa using hc
      have HV := Lib.hid (show stE k s.data.toList = chk 2 s.data.toList by rw [stE, if_neg hk, if_pos hc])
      have HO := Lib.hid (show stO k s.data.toList = [] by rw [stO, HV.out, if_neg hc])
      clear hc hk
      go_enter Tryd.func14, Tryd.ntmps14
      go_wp2_with fail
      refine (check_any _ _ _).mono ?_
      rintro e w1 ⟨rfl, n, rfl⟩
      go_wp2_with fail
      go_ret2
      exact ⟨by rw [HV.out, HO.out]; rfl, below_ofN n⟩

set_option maxHeartbeats 800000 in
theorem Pad_any (k : Int) (s : ByteArray) (w : World) (hmx : Mx w) :
    Calls Tryd.prog 15 #[.int .i64 k, .string s] w fun e w' => e = .returned (.tuple #[.string ⟨(pdO k s.data.toList).toArray⟩, .int .i64 (pdE k s.data.toList)]) ∧ Below w.heap.size w w' := by
  by_cases hk : k < 0 ∨ 64 < k
  · have HV := Lib.hid (show pdE k s.data.toList = 2 by rw [pdE, if_pos hk])
    have HO := Lib.hid (show pdO k s.data.toList = [] by rw [pdO, HV.out]; rfl)
    rcases hk with hk | hk
    all_goals
      go_enter Tryd.func15, Tryd.ntmps15
      go_wp2_with fail
      go_ret2
      exact ⟨by rw [HV.out, HO.out]; rfl, Below.refl _ _⟩
  · have h1 : 0 ≤ k := by omega
    have h2 : k ≤ 64 := by omega
    by_cases hc : chk 2 s.data.toList = 0
    · have hs : s.size ≤ 65536 := ((chk2_iff _).1 hc).1
      obtain ⟨K, rfl⟩ : ∃ K : Nat, k = K := ⟨k.toNat, by omega⟩
      have hlen := padL_len K s.data.toList
      have e1 : s.data.toList.length = s.size := rfl
      have hcnt : s.data.toList.count 49 ≤ s.size := List.count_le_length
      have hv : pdE K s.data.toList = if (padL K s.data.toList).length ≤ 65536 then 0 else 4 := by rw [pdE, if_neg hk, if_neg (by simp [hc])]; rfl
      have HC := Lib.hid hc; clear hc hk
      have hK : K ≤ 64 := by omega
      obtain ⟨C, hC⟩ : ∃ C, s.data.toList.count 49 = C := ⟨_, rfl⟩
      rw [hC] at hlen hcnt
      have hprod : K * C ≤ 64 * 65536 := Nat.mul_le_mul hK (by omega)
      have q1 : (0 : Int) ≤ (K : Int) * (C : Int) := Int.mul_nonneg (by omega) (by omega)
      have q2 : (K : Int) * (C : Int) ≤ 4194304 := by have : ((K * C : Nat) : Int) ≤ 4194304 := by omega
                                                      rwa [Int.natCast_mul] at this
      have HC49 := Lib.hid (show Lib.countByte s.data.toList 49 = C from hC); clear hC
      rw [e1] at hlen
      have HLEN := Lib.hid hlen; clear hlen e1
      by_cases hl : (padL K s.data.toList).length ≤ 65536
      · have HV := Lib.hid (show pdE K s.data.toList = 0 by rw [hv, if_pos hl])
        have HO := Lib.hid (show pdO K s.data.toList = padL K s.data.toList by rw [pdO, HV.out]; rfl)
        have q3 : (s.size : Int) + (K : Int) * (C : Int) ≤ 65536 := by
          have := HLEN.out
          have e : ((K * C : Nat) : Int) = (K : Int) * (C : Int) := Int.natCast_mul _ _
          omega
        clear hv hl
        go_enter Tryd.func15, Tryd.ntmps15
        go_wp2_with fail
        refine (check_any _ _ _).mono ?_
        rintro e w1 ⟨rfl, n, rfl⟩
        rw [HC.out]
        go_wp2_with fail
        refine (Tryd.strings_Count_one s 49 _).mono ?_
        rintro e w2 ⟨rfl, rfl⟩
        rw [HC49.out]
        go_wp2_with fail
        refine (Tryd.strings_Repeat ⟨#[48]⟩ K _ (by omega) (by simp [ByteArray.size]; omega)).mono ?_
        rintro e w3 ⟨rfl, hb⟩
        have HMX := Lib.hid (Mx.below (hmx.drewN n) hb (Nat.le_refl _))
        have HB := Lib.hid ((below_ofN n).trans hb); clear hb
        rw [repeatL_one]
        go_wp2_with fail
        obtain ⟨m, hm⟩ := HMX.out
        rw [cat_rep]
        refine (Tryd.strings_ReplaceAll s ⟨#[49]⟩ ⟨(49 :: List.replicate K 48).toArray⟩ m _ (by omega) hm (by simp [ByteArray.size]) ?_).mono ?_
        · have hcb : Lib.countB s ⟨#[49]⟩ = C := by have := Lib.count_one 49 s.data.toList; exact this.trans HC49.out
          have hsz : (⟨(49 :: List.replicate K 48).toArray⟩ : ByteArray).size = K + 1 := by simp [ByteArray.size]
          rw [hcb, hsz, Nat.mul_succ, Nat.mul_comm]; omega
        rintro e w4 ⟨rfl, hb⟩
        have HB4 := Lib.hid (HB.out.trans (hb.mono HB.out.size)); clear hb hm
        rw [show Lib.replaceAll s.data.toList (⟨#[49]⟩ : ByteArray).data.toList (⟨(49 :: List.replicate K 48).toArray⟩ : ByteArray).data.toList = padL K s.data.toList from replaceAll_pad K s.data.toList]
        go_wp2_with fail
        go_ret2
        exact ⟨by rw [HV.out, HO.out]; rfl, HB4.out⟩
      · have HV := Lib.hid (show pdE K s.data.toList = 4 by rw [hv, if_neg hl])
        have HO := Lib.hid (show pdO K s.data.toList = [] by rw [pdO, HV.out]; rfl)
        have q3 : ¬ (s.size : Int) + (K : Int) * (C : Int) ≤ 65536 := by
          have := HLEN.out
          have e : ((K * C : Nat) : Int) = (K : Int) * (C : Int) := Int.natCast_mul _ _
          omega
        clear hv hl
        go_enter Tryd.func15, Tryd.ntmps15
        go_wp2_with fail
        refine (check_any _ _ _).mono ?_
        rintro e w1 ⟨rfl, n, rfl⟩
        rw [HC.out]
        go_wp2_with fail
        refine (Tryd.strings_Count_one s 49 _).mono ?_
        rintro e w2 ⟨rfl, rfl⟩
        rw [HC49.out]
        go_wp2_with fail
        go_ret2
        exact ⟨by rw [HV.out, HO.out]; rfl, below_ofN n⟩
    · have hb : (chk 2 s.data.toList != 0) = true := by simpa using hc
      have HV := Lib.hid (show pdE k s.data.toList = chk 2 s.data.toList by rw [pdE, if_neg hk, if_pos hc])
      have HO := Lib.hid (show pdO k s.data.toList = [] by rw [pdO, HV.out, if_neg hc])
      clear hc hk
      go_enter Tryd.func15, Tryd.ntmps15
      go_wp2_with fail
      refine (check_any _ _ _).mono ?_
      rintro e w1 ⟨rfl, n, rfl⟩
      go_wp2_with fail
      go_ret2
      exact ⟨by rw [HV.out, HO.out]; rfl, below_ofN n⟩

def boE (d k : Int) (l : List UInt8) : Int := if d < 0 ∨ k ≤ d ∨ 64 < k then 2 else if stE (k - d) l ≠ 0 then stE (k - d) l else pdE d (stO (k - d) l)
def boO (d k : Int) (l : List UInt8) : List UInt8 := if boE d k l = 0 then pdO d (stO (k - d) l) else []
set_option maxHeartbeats 800000 in
theorem Both_any (d k : Int) (s : ByteArray) (w : World) (hmx : Mx w) :
    Calls Tryd.prog 16 #[.int .i64 d, .int .i64 k, .string s] w fun e w' => e = .returned (.tuple #[.string ⟨(boO d k s.data.toList).toArray⟩, .int .i64 (boE d k s.data.toList)]) ∧ Below w.heap.size w w' := by
  by_cases hk : d < 0 ∨ k ≤ d ∨ 64 < k
  · have HV := Lib.hid (show boE d k s.data.toList = 2 by rw [boE, if_pos hk])
    have HO := Lib.hid (show boO d k s.data.toList = [] by rw [boO, HV.out]; rfl)
    by_cases h1 : d < 0
    · clear hk
      go_enter Tryd.func16, Tryd.ntmps16
      go_wp2_with fail
      go_ret2
      exact ⟨by rw [HV.out, HO.out]; rfl, Below.refl _ _⟩
    · by_cases h2 : k ≤ d
      · clear hk
        go_enter Tryd.func16, Tryd.ntmps16
        go_wp2_with fail
        go_ret2
        exact ⟨by rw [HV.out, HO.out]; rfl, Below.refl _ _⟩
      · have h3 : 64 < k := by omega
        clear hk
        go_enter Tryd.func16, Tryd.ntmps16
        go_wp2_with fail
        go_ret2
        exact ⟨by rw [HV.out, HO.out]; rfl, Below.refl _ _⟩
  · have h1 : 0 ≤ d := by omega
    have h2 : d < k := by omega
    have h3 : k ≤ 64 := by omega
    by_cases hc : stE (k - d) s.data.toList = 0
    · have HV := Lib.hid (show boE d k s.data.toList = pdE d (stO (k - d) s.data.toList) by rw [boE, if_neg hk, if_neg (by simp [hc])])
      have HO := Lib.hid (show boO d k s.data.toList = pdO d (stO (k - d) s.data.toList) by
        rw [boO, HV.out]
        by_cases h : pdE d (stO (k - d) s.data.toList) = 0
        · rw [if_pos h]
        · rw [if_neg h, pdO, if_neg h])
      have HC := Lib.hid hc; clear hc hk
      go_enter Tryd.func16, Tryd.ntmps16
      go_wp2_with fail
      refine (Stuff_any _ _ _).mono ?_
      rintro e w1 ⟨rfl, hb⟩
      rw [HC.out]
      have HMX := Lib.hid (Mx.below hmx hb (Nat.le_refl _))
      have HB := Lib.hid hb; clear hb
      go_wp2_with fail
      refine (Pad_any _ _ _ HMX.out).mono ?_
      rintro e w2 ⟨rfl, hb⟩
      have HB2 := Lib.hid (HB.out.trans (hb.mono HB.out.size)); clear hb
      go_wp2_with fail
      go_ret2
      exact ⟨by rw [HV.out, HO.out]; rfl, HB2.out⟩
    · have hcb : (stE (k - d) s.data.toList != 0) = true := by simpa using hc
      have HV := Lib.hid (show boE d k s.data.toList = stE (k - d) s.data.toList by rw [boE, if_neg hk, if_pos hc])
      have HO := Lib.hid (show boO d k s.data.toList = [] by rw [boO, HV.out, if_neg hc])
      clear hc hk
      go_enter Tryd.func16, Tryd.ntmps16
      go_wp2_with fail
      refine (Stuff_any _ _ _).mono ?_
      rintro e w1 ⟨rfl, hb⟩
      have HB := Lib.hid hb; clear hb
      go_wp2_with fail
      go_ret2
      exact ⟨by rw [HV.out, HO.out]; rfl, HB.out⟩
end Go.Proofs.YtdalcopbaaabiaaDoor
