/-
  The contracts of the references Stuff, Unstuff, Pad, Unpad, Both, Unboth for words of up to 60 letters.
-/
import Derived.Test.YtdalcopbaaabiaaDoorStI
namespace Go.Proofs.YtdalcopbaaabiaaDoor
open Go.RowKit

theorem pd_mid {d : Nat} {l : List UInt8} (h2 : d ≤ 64) (hl : l.length ≤ 120) (hc : chk 2 l = 0) : pdE d l = 0 ∧ pdO d l = padL d l ∧ (padL d l).length ≤ 65536 := by
  have hlen := padL_len d l
  have hct : l.count 49 ≤ l.length := List.count_le_length
  have hp : d * l.count 49 ≤ 64 * 120 := Nat.mul_le_mul h2 (by omega)
  have he : pdE d l = 0 := by rw [pdE, if_neg (by omega), if_neg (by simp [hc]), if_pos (by simp; omega)]
  exact ⟨he, by rw [pdO, he]; rfl, by omega⟩
theorem st_mid {k : Nat} {l : List UInt8} (h1 : 1 ≤ k) (h2 : k ≤ 64) (hl : l.length ≤ 60) (hc : chk 2 l = 0) : stE k l = 0 ∧ stO k l = stf 48 49 k 0 l ∧ (stf 48 49 k 0 l).length ≤ 120 ∧ chk 2 (stf 48 49 k 0 l) = 0 := by
  have ha := ((chk2_iff l).1 hc).2
  have hlen := stf_len 48 49 k l 0
  exact ⟨(st_small h1 h2 hl ha).1, (st_small h1 h2 hl ha).2, by omega, chk2_small (by omega) (stf_all _ _ _ isB (by decide) l 0 ha)⟩
theorem us_mid {k : Nat} {l : List UInt8} (h1 : 1 ≤ k) (h2 : k ≤ 64) (hc : chk 2 l = 0) : usE k l = (if (rus 48 k 0 l).isSome = true then 0 else 13) ∧ (∀ x, rus 48 k 0 l = some x → usO k l = x) ∧ (rus 48 k 0 l = none → usO k l = []) := by
  have hr := (rus_ust 48 49 (by decide) k (by omega) l (isB_mem ((chk2_iff l).1 hc).2)).2 0 (by omega)
  have he : usE k l = (if (rus 48 k 0 l).isSome = true then 0 else 13) := by
    rw [usE, if_neg (by omega), if_neg (by simp [hc]), ustB, hr]; rfl
  refine ⟨he, fun x hx => ?_, fun hx => ?_⟩
  · rw [usO, he, hx]
    show ustO 48 49 k l = x
    rw [ustO, ← hr, hx]; rfl
  · rw [usO, he, hx]; rfl
theorem up_mid {d : Nat} {l : List UInt8} (h2 : d ≤ 64) (hc : chk 2 l = 0) : upE d l = (if (upd d 0 l).isSome = true then 0 else 13) ∧ (∀ x, upd d 0 l = some x → upO d l = x) ∧ (upd d 0 l = none → upO d l = []) := by
  have he : upE d l = (if (upd d 0 l).isSome = true then 0 else 13) := by
    rw [upE, if_neg (by omega), if_neg (by simp [hc])]; rfl
  refine ⟨he, fun x hx => ?_, fun hx => ?_⟩
  · rw [upO, he, hx]
    show (upd d 0 l).getD [] = x
    rw [hx]; rfl
  · rw [upO, he, hx]; rfl
theorem upd_sub (d : Nat) : ∀ (l : List UInt8) (s : Nat) (x : List UInt8), upd d s l = some x → l.all isB = true → x.all isB = true ∧ x.length ≤ l.length
  | [], 0, x, h, _ => by rw [upd] at h; cases h; exact ⟨rfl, Nat.le_refl _⟩
  | [], s + 1, x, h, _ => by rw [upd] at h; cases h
  | a :: l, s + 1, x, h, ha => by
    simp only [List.all_cons, Bool.and_eq_true] at ha
    rw [upd] at h
    split at h
    · obtain ⟨h1, h2⟩ := upd_sub d l s x h ha.2
      exact ⟨h1, by simp; omega⟩
    · cases h
  | a :: l, 0, x, h, ha => by
    simp only [List.all_cons, Bool.and_eq_true] at ha
    rw [upd] at h
    obtain ⟨y, hy, rfl⟩ := Option.map_eq_some_iff.1 h
    obtain ⟨h1, h2⟩ := upd_sub d l _ y hy ha.2
    exact ⟨by simp [ha.1, h1], by simp; omega⟩

set_option maxHeartbeats 800000 in
theorem refStuff_any (k : Int) (s : ByteArray) (hs : s.size ≤ 60) (w : World) :
    Calls Tryd.prog 20 #[.int .i64 k, .string s] w fun e w' => e = .returned (.tuple #[.string ⟨(stO k s.data.toList).toArray⟩, .int .i64 (stE k s.data.toList)]) ∧ Below w.heap.size w w' := by
  have e0 : s.data.toList.length = s.size := rfl
  by_cases hk : k < 1 ∨ 64 < k
  · have HV := Lib.hid (show stE k s.data.toList = 2 by rw [stE, if_pos hk])
    have HO := Lib.hid (show stO k s.data.toList = [] by rw [stO, HV.out]; rfl)
    clear e0
    rcases hk with hk | hk
    all_goals
      go_enter Tryd.func20, Tryd.ntmps20
      go_wp2_with fail
      go_ret2
      exact ⟨by rw [HV.out, HO.out]; rfl, Below.refl _ _⟩
  · have h1 : 1 ≤ k := by omega
    have h2 : k ≤ 64 := by omega
    by_cases hc : chk 2 s.data.toList = 0
    · obtain ⟨K, rfl⟩ : ∃ K : Nat, k = K := ⟨k.toNat, by omega⟩
      have HBIN := Lib.hid ((chk2_iff _).1 hc).2
      have hK1 : 1 ≤ K := by omega
      have hK2 : K ≤ 64 := by omega
      have HP := Lib.hid (st_mid (k := K) hK1 hK2 (by omega) hc)
      have HC := Lib.hid hc; clear hc hk e0
      go_enter Tryd.func20, Tryd.ntmps20
      go_wp2_with fail
      refine (refCheck_any _ _ _).mono ?_
      rintro e w1 ⟨rfl, rfl⟩
      rw [HC.out]
      go_wp2_with fail
      refine (refstuff_any 48 49 (.inl ⟨rfl, rfl⟩) K s _ (by omega) (by omega) (by omega)).mono ?_
      rintro e w2 ⟨rfl, hb⟩
      have HB := Lib.hid hb; clear hb
      go_wp2_with fail
      refine (limited_any _ (by have := HP.out.2.2.1; simp [ByteArray.size]; omega) _).mono ?_
      rintro e w3 ⟨rfl, rfl⟩
      go_wp2_with fail
      go_ret2
      exact ⟨by rw [HP.out.1, HP.out.2.1]; rfl, HB.out⟩
    · have hb : (chk 2 s.data.toList != 0) = true := by simpa using hc
      have HV := Lib.hid (show stE k s.data.toList = chk 2 s.data.toList by rw [stE, if_neg hk, if_pos hc])
      have HO := Lib.hid (show stO k s.data.toList = [] by rw [stO, HV.out, if_neg hc])
      clear hc hk e0
      go_enter Tryd.func20, Tryd.ntmps20
      go_wp2_with fail
      refine (refCheck_any _ _ _).mono ?_
      rintro e w1 ⟨rfl, rfl⟩
      go_wp2_with fail
      go_ret2
      exact ⟨by rw [HV.out, HO.out]; rfl, Below.refl _ _⟩

set_option maxHeartbeats 800000 in
theorem refUnstuff_any (k : Int) (s : ByteArray) (hs : s.size ≤ 60) (w : World) :
    Calls Tryd.prog 22 #[.int .i64 k, .string s] w fun e w' => e = .returned (.tuple #[.string ⟨(usO k s.data.toList).toArray⟩, .int .i64 (usE k s.data.toList)]) ∧ Below w.heap.size w w' := by
  have e0 : s.data.toList.length = s.size := rfl
  by_cases hk : k < 1 ∨ 64 < k
  · have HV := Lib.hid (show usE k s.data.toList = 2 by rw [usE, if_pos hk])
    have HO := Lib.hid (show usO k s.data.toList = [] by rw [usO, HV.out]; rfl)
    clear e0
    rcases hk with hk | hk
    all_goals
      go_enter Tryd.func22, Tryd.ntmps22
      go_wp2_with fail
      go_ret2
      exact ⟨by rw [HV.out, HO.out]; rfl, Below.refl _ _⟩
  · have h1 : 1 ≤ k := by omega
    have h2 : k ≤ 64 := by omega
    by_cases hc : chk 2 s.data.toList = 0
    · obtain ⟨K, rfl⟩ : ∃ K : Nat, k = K := ⟨k.toNat, by omega⟩
      have HBIN := Lib.hid ((chk2_iff _).1 hc).2
      have hK1 : 1 ≤ K := by omega
      have hK2 : K ≤ 64 := by omega
      have HP := Lib.hid (us_mid (k := K) hK1 hK2 hc)
      have HC := Lib.hid hc; clear hc hk e0
      rcases hrel : rus 48 K 0 s.data.toList with _ | x
      · have HE := Lib.hid (show usE K s.data.toList = 13 by rw [HP.out.1, hrel]; rfl)
        have HO := Lib.hid (HP.out.2.2 hrel)
        have HR := Lib.hid hrel; clear hrel
        go_enter Tryd.func22, Tryd.ntmps22
        go_wp2_with fail
        refine (refCheck_any _ _ _).mono ?_
        rintro e w1 ⟨rfl, rfl⟩
        rw [HC.out]
        go_wp2_with fail
        refine (refunstuff_any 48 K s _ (by omega) (by omega) (by omega)).mono ?_
        rintro e w2 ⟨x, rfl, _, rfl⟩
        rw [HR.out]
        go_wp2_with fail
        go_ret2
        exact ⟨by rw [HE.out, HO.out]; rfl, Below.refl _ _⟩
      · have HE := Lib.hid (show usE K s.data.toList = 0 by rw [HP.out.1, hrel]; rfl)
        have HO := Lib.hid (HP.out.2.1 x hrel)
        have HR := Lib.hid hrel; clear hrel
        go_enter Tryd.func22, Tryd.ntmps22
        go_wp2_with fail
        refine (refCheck_any _ _ _).mono ?_
        rintro e w1 ⟨rfl, rfl⟩
        rw [HC.out]
        go_wp2_with fail
        refine (refunstuff_any 48 K s _ (by omega) (by omega) (by omega)).mono ?_
        rintro e w2 ⟨y, rfl, hy, rfl⟩
        have HY := Lib.hid (hy x HR.out); clear hy
        rw [HR.out]
        go_wp2_with fail
        go_ret2
        exact ⟨by rw [HE.out, HO.out, ← HY.out]; rfl, Below.refl _ _⟩
    · have hb : (chk 2 s.data.toList != 0) = true := by simpa using hc
      have HV := Lib.hid (show usE k s.data.toList = chk 2 s.data.toList by rw [usE, if_neg hk, if_pos hc])
      have HO := Lib.hid (show usO k s.data.toList = [] by rw [usO, HV.out, if_neg hc])
      clear hc hk e0
      go_enter Tryd.func22, Tryd.ntmps22
      go_wp2_with fail
      refine (refCheck_any _ _ _).mono ?_
      rintro e w1 ⟨rfl, rfl⟩
      go_wp2_with fail
      go_ret2
      exact ⟨by rw [HV.out, HO.out]; rfl, Below.refl _ _⟩

set_option maxHeartbeats 800000 in
theorem refPad_any (k : Int) (s : ByteArray) (hs : s.size ≤ 60) (w : World) :
    Calls Tryd.prog 23 #[.int .i64 k, .string s] w fun e w' => e = .returned (.tuple #[.string ⟨(pdO k s.data.toList).toArray⟩, .int .i64 (pdE k s.data.toList)]) ∧ Below w.heap.size w w' := by
  have e0 : s.data.toList.length = s.size := rfl
  by_cases hk : k < 0 ∨ 64 < k
  · have HV := Lib.hid (show pdE k s.data.toList = 2 by rw [pdE, if_pos hk])
    have HO := Lib.hid (show pdO k s.data.toList = [] by rw [pdO, HV.out]; rfl)
    clear e0
    rcases hk with hk | hk
    all_goals
      go_enter Tryd.func23, Tryd.ntmps23
      go_wp2_with fail
      go_ret2
      exact ⟨by rw [HV.out, HO.out]; rfl, Below.refl _ _⟩
  · have h1 : 0 ≤ k := by omega
    have h2 : k ≤ 64 := by omega
    by_cases hc : chk 2 s.data.toList = 0
    · obtain ⟨K, rfl⟩ : ∃ K : Nat, k = K := ⟨k.toNat, by omega⟩
      have HBIN := Lib.hid ((chk2_iff _).1 hc).2
      have hK1 : 0 ≤ K := by omega
      have hK2 : K ≤ 64 := by omega
      have HP := Lib.hid (pd_mid (d := K) hK2 (by omega) hc)
      have HC := Lib.hid hc; clear hc hk e0
      go_enter Tryd.func23, Tryd.ntmps23
      go_wp2_with fail
      refine (refCheck_any _ _ _).mono ?_
      rintro e w1 ⟨rfl, rfl⟩
      rw [HC.out]
      go_wp2_with fail
      refine (refpad_any K s _ (by omega) (by omega)).mono ?_
      rintro e w2 ⟨rfl, rfl⟩
      go_wp2_with fail
      refine (limited_any _ (by have := HP.out.2.2; simp [ByteArray.size]; omega) _).mono ?_
      rintro e w3 ⟨rfl, rfl⟩
      go_wp2_with fail
      go_ret2
      exact ⟨by rw [HP.out.1, HP.out.2.1]; rfl, Below.refl _ _⟩
    · have hb : (chk 2 s.data.toList != 0) = true := by simpa using hc
      have HV := Lib.hid (show pdE k s.data.toList = chk 2 s.data.toList by rw [pdE, if_neg hk, if_pos hc])
      have HO := Lib.hid (show pdO k s.data.toList = [] by rw [pdO, HV.out, if_neg hc])
      clear hc hk e0
      go_enter Tryd.func23, Tryd.ntmps23
      go_wp2_with fail
      refine (refCheck_any _ _ _).mono ?_
      rintro e w1 ⟨rfl, rfl⟩
      go_wp2_with fail
      go_ret2
      exact ⟨by rw [HV.out, HO.out]; rfl, Below.refl _ _⟩

set_option maxHeartbeats 800000 in
theorem refUnpad_any (k : Int) (s : ByteArray) (hs : s.size ≤ 60) (w : World) :
    Calls Tryd.prog 25 #[.int .i64 k, .string s] w fun e w' => e = .returned (.tuple #[.string ⟨(upO k s.data.toList).toArray⟩, .int .i64 (upE k s.data.toList)]) ∧ Below w.heap.size w w' := by
  have e0 : s.data.toList.length = s.size := rfl
  by_cases hk : k < 0 ∨ 64 < k
  · have HV := Lib.hid (show upE k s.data.toList = 2 by rw [upE, if_pos hk])
    have HO := Lib.hid (show upO k s.data.toList = [] by rw [upO, HV.out]; rfl)
    clear e0
    rcases hk with hk | hk
    all_goals
      go_enter Tryd.func25, Tryd.ntmps25
      go_wp2_with fail
      go_ret2
      exact ⟨by rw [HV.out, HO.out]; rfl, Below.refl _ _⟩
  · have h1 : 0 ≤ k := by omega
    have h2 : k ≤ 64 := by omega
    by_cases hc : chk 2 s.data.toList = 0
    · obtain ⟨K, rfl⟩ : ∃ K : Nat, k = K := ⟨k.toNat, by omega⟩
      have HBIN := Lib.hid ((chk2_iff _).1 hc).2
      have hK1 : 0 ≤ K := by omega
      have hK2 : K ≤ 64 := by omega
      have HP := Lib.hid (up_mid (d := K) hK2 hc)
      have HC := Lib.hid hc; clear hc hk e0
      rcases hrel : upd K 0 s.data.toList with _ | x
      · have HE := Lib.hid (show upE K s.data.toList = 13 by rw [HP.out.1, hrel]; rfl)
        have HO := Lib.hid (HP.out.2.2 hrel)
        have HR := Lib.hid hrel; clear hrel
        go_enter Tryd.func25, Tryd.ntmps25
        go_wp2_with fail
        refine (refCheck_any _ _ _).mono ?_
        rintro e w1 ⟨rfl, rfl⟩
        rw [HC.out]
        go_wp2_with fail
        refine (refunpad_any K s _ HBIN.out (by omega) (by omega)).mono ?_
        rintro e w2 ⟨x, rfl, _, rfl⟩
        rw [HR.out]
        go_wp2_with fail
        go_ret2
        exact ⟨by rw [HE.out, HO.out]; rfl, Below.refl _ _⟩
      · have HE := Lib.hid (show upE K s.data.toList = 0 by rw [HP.out.1, hrel]; rfl)
        have HO := Lib.hid (HP.out.2.1 x hrel)
        have HR := Lib.hid hrel; clear hrel
        go_enter Tryd.func25, Tryd.ntmps25
        go_wp2_with fail
        refine (refCheck_any _ _ _).mono ?_
        rintro e w1 ⟨rfl, rfl⟩
        rw [HC.out]
        go_wp2_with fail
        refine (refunpad_any K s _ HBIN.out (by omega) (by omega)).mono ?_
        rintro e w2 ⟨y, rfl, hy, rfl⟩
        have HY := Lib.hid (hy x HR.out); clear hy
        rw [HR.out]
        go_wp2_with fail
        go_ret2
        exact ⟨by rw [HE.out, HO.out, ← HY.out]; rfl, Below.refl _ _⟩
    · have hb : (chk 2 s.data.toList != 0) = true := by simpa using hc
      have HV := Lib.hid (show upE k s.data.toList = chk 2 s.data.toList by rw [upE, if_neg hk, if_pos hc])
      have HO := Lib.hid (show upO k s.data.toList = [] by rw [upO, HV.out, if_neg hc])
      clear hc hk e0
      go_enter Tryd.func25, Tryd.ntmps25
      go_wp2_with fail
      refine (refCheck_any _ _ _).mono ?_
      rintro e w1 ⟨rfl, rfl⟩
      go_wp2_with fail
      go_ret2
      exact ⟨by rw [HV.out, HO.out]; rfl, Below.refl _ _⟩

set_option maxHeartbeats 800000 in
theorem refBoth_any (d k : Int) (s : ByteArray) (hs : s.size ≤ 60) (w : World) :
    Calls Tryd.prog 26 #[.int .i64 d, .int .i64 k, .string s] w fun e w' => e = .returned (.tuple #[.string ⟨(boO d k s.data.toList).toArray⟩, .int .i64 (boE d k s.data.toList)]) ∧ Below w.heap.size w w' := by
  have e0 : s.data.toList.length = s.size := rfl
  by_cases hk : d < 0 ∨ k ≤ d ∨ 64 < k
  · have HV := Lib.hid (show boE d k s.data.toList = 2 by rw [boE, if_pos hk])
    have HO := Lib.hid (show boO d k s.data.toList = [] by rw [boO, HV.out]; rfl)
    by_cases h1 : d < 0
    · clear hk e0
      go_enter Tryd.func26, Tryd.ntmps26
      go_wp2_with fail
      go_ret2
      exact ⟨by rw [HV.out, HO.out]; rfl, Below.refl _ _⟩
    · by_cases h2 : k ≤ d
      · clear hk e0
        go_enter Tryd.func26, Tryd.ntmps26
        go_wp2_with fail
        go_ret2
        exact ⟨by rw [HV.out, HO.out]; rfl, Below.refl _ _⟩
      · have h3 : 64 < k := by omega
        clear hk e0
        go_enter Tryd.func26, Tryd.ntmps26
        go_wp2_with fail
        go_ret2
        exact ⟨by rw [HV.out, HO.out]; rfl, Below.refl _ _⟩
  · by_cases hc : chk 2 s.data.toList = 0
    · obtain ⟨A, rfl⟩ : ∃ A : Nat, d = A := ⟨d.toNat, by omega⟩
      obtain ⟨B, rfl⟩ : ∃ B : Nat, k = B := ⟨k.toNat, by omega⟩
      have hAB : A < B := by omega
      have hB : B ≤ 64 := by omega
      have hcast : ((B : Int) - (A : Int)) = ((B - A : Nat) : Int) := by omega
      have HBIN := Lib.hid ((chk2_iff _).1 hc).2
      have HS := Lib.hid (st_mid (k := B - A) (by omega) (by omega) (by omega) hc)
      have HP := Lib.hid (pd_mid (d := A) (l := stf 48 49 (B - A) 0 s.data.toList) (by omega) HS.out.2.2.1 HS.out.2.2.2)
      have HE := Lib.hid (show boE A B s.data.toList = 0 by rw [boE, if_neg hk, hcast, HS.out.1, if_neg (by simp), HS.out.2.1, HP.out.1])
      have HO := Lib.hid (show boO A B s.data.toList = padL A (stf 48 49 (B - A) 0 s.data.toList) by rw [boO, HE.out, if_pos rfl, hcast, HS.out.2.1, HP.out.2.1])
      have HC := Lib.hid hc
      have HCA := Lib.hid hcast; clear hc hk e0 hcast
      go_enter Tryd.func26, Tryd.ntmps26
      go_wp2_with fail
      refine (refCheck_any _ _ _).mono ?_
      rintro e w1 ⟨rfl, rfl⟩
      rw [HC.out]
      go_wp2_with fail
      rw [HCA.out]
      refine (refstuff_any 48 49 (.inl ⟨rfl, rfl⟩) (B - A) s _ (by omega) (by omega) (by omega)).mono ?_
      rintro e w2 ⟨rfl, hb⟩
      have HB := Lib.hid hb; clear hb
      go_wp2_with fail
      refine (refpad_any A _ _ (by omega) (by have := HS.out.2.2.1; simp [ByteArray.size]; omega)).mono ?_
      rintro e w3 ⟨rfl, rfl⟩
      go_wp2_with fail
      refine (limited_any _ (by have := HP.out.2.2; simp [ByteArray.size]; omega) _).mono ?_
      rintro e w4 ⟨rfl, rfl⟩
      go_wp2_with fail
      go_ret2
      exact ⟨by rw [HE.out, HO.out]; rfl, HB.out⟩
    · have hb : (chk 2 s.data.toList != 0) = true := by simpa using hc
      have hz : stE (k - d) s.data.toList = chk 2 s.data.toList := by
        rw [stE, if_neg (by omega), if_pos hc]
      have HV := Lib.hid (show boE d k s.data.toList = chk 2 s.data.toList by rw [boE, if_neg hk, hz, if_pos hc])
      have HO := Lib.hid (show boO d k s.data.toList = [] by rw [boO, HV.out, if_neg hc])
      have h1 : 0 ≤ d := by omega
      have h2 : d < k := by omega
      have h3 : k ≤ 64 := by omega
      clear hc hk e0 hz
      go_enter Tryd.func26, Tryd.ntmps26
      go_wp2_with fail
      refine (refCheck_any _ _ _).mono ?_
      rintro e w1 ⟨rfl, rfl⟩
      go_wp2_with fail
      go_ret2
      exact ⟨by rw [HV.out, HO.out]; rfl, Below.refl _ _⟩

set_option maxHeartbeats 800000 in
theorem refUnboth_any (d k : Int) (s : ByteArray) (hs : s.size ≤ 60) (w : World) :
    Calls Tryd.prog 28 #[.int .i64 d, .int .i64 k, .string s] w fun e w' => e = .returned (.tuple #[.string ⟨(ubO d k s.data.toList).toArray⟩, .int .i64 (ubE d k s.data.toList)]) ∧ Below w.heap.size w w' := by
  have e0 : s.data.toList.length = s.size := rfl
  by_cases hk : d < 0 ∨ k ≤ d ∨ 64 < k
  · have HV := Lib.hid (show ubE d k s.data.toList = 2 by rw [ubE, if_pos hk])
    have HO := Lib.hid (show ubO d k s.data.toList = [] by rw [ubO, HV.out]; rfl)
    by_cases h1 : d < 0
    · clear hk e0
      go_enter Tryd.func28, Tryd.ntmps28
      go_wp2_with fail
      go_ret2
      exact ⟨by rw [HV.out, HO.out]; rfl, Below.refl _ _⟩
    · by_cases h2 : k ≤ d
      · clear hk e0
        go_enter Tryd.func28, Tryd.ntmps28
        go_wp2_with fail
        go_ret2
        exact ⟨by rw [HV.out, HO.out]; rfl, Below.refl _ _⟩
      · have h3 : 64 < k := by omega
        clear hk e0
        go_enter Tryd.func28, Tryd.ntmps28
        go_wp2_with fail
        go_ret2
        exact ⟨by rw [HV.out, HO.out]; rfl, Below.refl _ _⟩
  · by_cases hc : chk 2 s.data.toList = 0
    · obtain ⟨A, rfl⟩ : ∃ A : Nat, d = A := ⟨d.toNat, by omega⟩
      obtain ⟨B, rfl⟩ : ∃ B : Nat, k = B := ⟨k.toNat, by omega⟩
      have hAB : A < B := by omega
      have hB : B ≤ 64 := by omega
      have hcast : ((B : Int) - (A : Int)) = ((B - A : Nat) : Int) := by omega
      have HBIN := Lib.hid ((chk2_iff _).1 hc).2
      have HP := Lib.hid (up_mid (d := A) (by omega) hc)
      have HC := Lib.hid hc
      have HCA := Lib.hid hcast
      rcases hrel : upd A 0 s.data.toList with _ | x
      · have hE : upE A s.data.toList = 13 := by rw [HP.out.1, hrel]; rfl
        have HE := Lib.hid (show ubE A B s.data.toList = 13 by rw [ubE, if_neg hk, hE]; rfl)
        have HO := Lib.hid (show ubO A B s.data.toList = [] by rw [ubO, HE.out]; rfl)
        have HR := Lib.hid hrel; clear hrel hE hc hk e0 hcast
        go_enter Tryd.func28, Tryd.ntmps28
        go_wp2_with fail
        refine (refCheck_any _ _ _).mono ?_
        rintro e w1 ⟨rfl, rfl⟩
        rw [HC.out]
        go_wp2_with fail
        refine (refunpad_any A s _ HBIN.out (by omega) (by omega)).mono ?_
        rintro e w2 ⟨x, rfl, _, rfl⟩
        rw [HR.out]
        go_wp2_with fail
        go_ret2
        exact ⟨by rw [HE.out, HO.out]; rfl, Below.refl _ _⟩
      · have hE : upE A s.data.toList = 0 := by rw [HP.out.1, hrel]; rfl
        have hO := HP.out.2.1 x hrel
        obtain ⟨hx1, hx2⟩ := upd_sub A _ 0 x hrel HBIN.out
        have hxl : x.length ≤ 60 := by omega
        have hus := us_mid (k := B - A) (l := x) (by omega) (by omega) (chk2_small (by omega) hx1)
        have HE := Lib.hid (show ubE A B s.data.toList = usE ((B - A : Nat) : Int) x by rw [ubE, if_neg hk, hE, if_neg (by simp), hO, hcast])
        have HO := Lib.hid (show ubO A B s.data.toList = usO ((B - A : Nat) : Int) x by
          rw [ubO, HE.out, hO, hcast]
          by_cases h : usE ((B - A : Nat) : Int) x = 0
          · rw [if_pos h]
          · rw [if_neg h, usO, if_neg h])
        have HUS := Lib.hid hus
        have HR := Lib.hid hrel; clear hrel hE hc hk e0 hcast hus hO hx1 hx2
        go_enter Tryd.func28, Tryd.ntmps28
        go_wp2_with fail
        refine (refCheck_any _ _ _).mono ?_
        rintro e w1 ⟨rfl, rfl⟩
        rw [HC.out]
        go_wp2_with fail
        refine (refunpad_any A s _ HBIN.out (by omega) (by omega)).mono ?_
        rintro e w2 ⟨y, rfl, hy, rfl⟩
        obtain rfl := hy x HR.out
        clear hy
        rw [HR.out]
        rcases hrel : rus 48 (B - A) 0 x with _ | z
        · have HE2 := Lib.hid (show ubE A B s.data.toList = 13 by rw [HE.out, HUS.out.1, hrel]; rfl)
          have HO2 := Lib.hid (show ubO A B s.data.toList = [] by rw [HO.out]; exact HUS.out.2.2 hrel)
          have HR2 := Lib.hid hrel; clear hrel
          go_wp2_with fail
          rw [HCA.out]
          refine (refunstuff_any 48 (B - A) ⟨x.toArray⟩ _ (by omega) (by omega) (by simp [ByteArray.size]; omega)).mono ?_
          rintro e w2 ⟨y, rfl, _, rfl⟩
          rw [show rus 48 (B - A) 0 (⟨x.toArray⟩ : ByteArray).data.toList = none from HR2.out]
          go_wp2_with fail
          go_ret2
          exact ⟨by rw [HE2.out, HO2.out]; rfl, Below.refl _ _⟩
        · have HE2 := Lib.hid (show ubE A B s.data.toList = 0 by rw [HE.out, HUS.out.1, hrel]; rfl)
          have HO2 := Lib.hid (show ubO A B s.data.toList = z by rw [HO.out]; exact HUS.out.2.1 z hrel)
          have HR2 := Lib.hid hrel; clear hrel
          go_wp2_with fail
          rw [HCA.out]
          refine (refunstuff_any 48 (B - A) ⟨x.toArray⟩ _ (by omega) (by omega) (by simp [ByteArray.size]; omega)).mono ?_
          rintro e w2 ⟨y, rfl, hy, rfl⟩
          have HY := Lib.hid (hy z HR2.out); clear hy
          rw [show rus 48 (B - A) 0 (⟨x.toArray⟩ : ByteArray).data.toList = some z from HR2.out]
          go_wp2_with fail
          go_ret2
          exact ⟨by rw [HE2.out, HO2.out, ← HY.out]; rfl, Below.refl _ _⟩
    · have hb : (chk 2 s.data.toList != 0) = true := by simpa using hc
      have hz : upE d s.data.toList = chk 2 s.data.toList := by
        rw [upE, if_neg (by omega), if_pos hc]
      have HV := Lib.hid (show ubE d k s.data.toList = chk 2 s.data.toList by rw [ubE, if_neg hk, hz, if_pos hc])
      have HO := Lib.hid (show ubO d k s.data.toList = [] by rw [ubO, HV.out, if_neg hc])
      have h1 : 0 ≤ d := by omega
      have h2 : d < k := by omega
      have h3 : k ≤ 64 := by omega
      clear hc hk e0 hz
      go_enter Tryd.func28, Tryd.ntmps28
      go_wp2_with fail
      refine (refCheck_any _ _ _).mono ?_
      rintro e w1 ⟨rfl, rfl⟩
      go_wp2_with fail
      go_ret2
      exact ⟨by rw [HV.out, HO.out]; rfl, Below.refl _ _⟩
end Go.Proofs.YtdalcopbaaabiaaDoor
