/-
  runlength.Valid; plain laws: stuffed words have bounded runs.
-/
import Derived.Test.YtdalcopbaaabiaaDoorStK
namespace Go.Proofs.YtdalcopbaaabiaaDoor
open Go.RowKit

theorem rlpair_any (d k : Nat) (h : d ≤ k) (w : World) : Calls Tryd.prog 84 #[.int .i64 d, .int .i64 k] w fun e w' => e = .returned (.bool true) ∧ w = w' := by
  have h1 : (((k : Nat) : Int) == -1) = false := by rw [beq_eq_false_iff_ne]; omega
  have h2 : decide ((d : Int) ≤ (k : Int)) = true := by simp; omega
  go_enter Tryd.func84, Tryd.ntmps84
  go_wp2_with fail
  go_ret
  exact ⟨rfl, rfl⟩
theorem rlcheck_any (d k : Nat) (h : d ≤ k) (s : ByteArray) (hc : chk 2 s.data.toList = 0) (w : World) : Calls Tryd.prog 69 #[.int .i64 d, .int .i64 k, .string s] w fun e w' => e = .returned (.int .i64 0) ∧ ∃ n, w' = w.drewN n := by
  have HC := Lib.hid hc; clear hc
  go_enter Tryd.func69, Tryd.ntmps69
  go_wp2_with fail
  refine (rlpair_any d k h _).mono ?_
  rintro e w1 ⟨rfl, rfl⟩
  go_wp2_with fail
  refine (check_any _ _ _).mono ?_
  rintro e w2 ⟨rfl, n, rfl⟩
  rw [HC.out]
  go_wp2_with fail
  go_ret
  exact ⟨rfl, n, rfl⟩

/-- No run of more than k letters 0, and none of fewer than d between two letters 1. -/
def vld (d k : Nat) : Nat → Bool → List UInt8 → Bool
  | _, _, [] => true
  | run, bg, a :: l => if a = 48 then decide (run + 1 ≤ k) && vld d k (run + 1) bg l else !(bg && decide (run < d)) && vld d k 0 true l

set_option maxHeartbeats 1000000 in
set_option maxRecDepth 100000 in
theorem rlvalid_any (d k : Nat) (s : ByteArray) (_hk : k ≤ 100000) (_hd : d ≤ 100000) (hs : s.size ≤ 65536) (hv : vld d k 0 false s.data.toList = true) (w : World) :
    Calls Tryd.prog 70 #[.int .i64 d, .int .i64 k, .string s] w fun e w' => e = .returned (.int .i64 s.size) ∧ w = w' := by
  have HV := Lib.hid hv; clear hv
  go_enter Tryd.func70, Tryd.ntmps70
  go_wp2_with fail
  go_loop [7, 8, 12] (fun r g i => ∃ (j run : Nat) (bg : Bool), j ≤ s.size ∧ i = .int .i64 j ∧ r = .int .i64 run ∧ g = .bool bg ∧ run ≤ j ∧ vld d k run bg (s.data.toList.drop j) = true) (fun _ _ i => s.size - (intOf i).toNat)
  case atStart => exact ⟨0, 0, false, by omega, rfl, rfl, rfl, Nat.le_refl _, HV.out⟩
  case round =>
    obtain ⟨j, run, bg, hj, rfl, rfl, rfl, hrj, hst⟩ := hrel
    by_cases hlt : j < s.size
    · rw [drop_cons (l := s.data.toList) (k := j) (by simpa using hlt)] at hst
      have hst2 : vld d k run bg (s[j] :: s.data.toList.drop (j + 1)) = true := hst
      clear hst
      by_cases hz : s[j] = 48
      · have hz' : ((s[j].toNat : Int) == 48) = true := by rw [hz]; rfl
        rw [vld, if_pos hz, Bool.and_eq_true, decide_eq_true_eq] at hst2
        have hle : decide ((k : Int) < (run : Int) + 1) = false := by simp; omega
        have HN := Lib.hid hst2.2
        clear hz hst2
        go_wp2_with fail
        go_round
        case rel => exact ⟨j + 1, run + 1, bg, by omega, by go_num, by go_num, rfl, by omega, HN.out⟩
        case measure => simp [intOf]; omega
      · have hz' : ((s[j].toNat : Int) == 48) = false := by
          rw [beq_eq_false_iff_ne]; intro he; apply hz; rw [← UInt8.toNat_inj]
          have e : (48 : UInt8).toNat = 48 := rfl
          omega
        rw [vld, if_neg hz, Bool.and_eq_true] at hst2
        have HN := Lib.hid hst2.2
        cases bg with
        | false =>
          clear hz hst2
          go_wp2_with fail
          go_round
          case rel => exact ⟨j + 1, 0, true, by omega, by go_num, rfl, rfl, by omega, HN.out⟩
          case measure => simp [intOf]; omega
        | true =>
          have hge : d ≤ run := by have := hst2.1; simp at this; exact this
          have hge' : decide ((run : Int) < (d : Int)) = false := by simp; omega
          clear hz hst2
          go_wp2_with fail
          go_round
          case rel => exact ⟨j + 1, 0, true, by omega, by go_num, rfl, rfl, by omega, HN.out⟩
          case measure => simp [intOf]; omega
    · obtain rfl : j = s.size := by omega
      have hd : decide ((s.size : Int) < (s.size : Int)) = false := by simp
      clear hst
      go_wp2_with fail
      go_ret
      exact ⟨rfl, rfl⟩

set_option maxHeartbeats 400000 in
theorem rlValid_any (d k : Nat) (s : ByteArray) (h : d ≤ k) (hk : k ≤ 100000) (hc : chk 2 s.data.toList = 0) (hv : vld d k 0 false s.data.toList = true) (w : World) :
    Calls Tryd.prog 44 #[.int .i64 d, .int .i64 k, .string s] w fun e w' => e = .returned (.tuple #[.bool true, .int .i64 0]) ∧ ∃ n, w' = w.drewN n := by
  have hs : s.size ≤ 65536 := ((chk2_iff _).1 hc).1
  have HC := Lib.hid hc; clear hc
  have HV := Lib.hid hv; clear hv
  go_enter Tryd.func44, Tryd.ntmps44
  go_wp2_with fail
  refine (rlcheck_any d k h s HC.out _).mono ?_
  rintro e w1 ⟨rfl, n, rfl⟩
  go_wp2_with fail
  refine (rlvalid_any d k s hk (by omega) hs HV.out _).mono ?_
  rintro e w2 ⟨rfl, rfl⟩
  go_wp2_with fail
  go_ret2
  exact ⟨rfl, n, rfl⟩

/-! ### plain laws -/
theorem vld_rep (d k : Nat) (bg : Bool) (m : List UInt8) : ∀ (n run : Nat), run + n ≤ k → vld d k run bg (List.replicate n 48 ++ m) = vld d k (run + n) bg m
  | 0, run, _ => by simp
  | n + 1, run, h => by
    rw [List.replicate_succ, List.cons_append, vld, if_pos rfl, vld_rep d k bg m n (run + 1) (by omega)]
    have : decide (run + 1 ≤ k) = true := by simp; omega
    rw [this, show run + 1 + n = run + (n + 1) by omega]; rfl
theorem padL_c (d : Nat) (a : UInt8) (l : List UInt8) : padL d (a :: l) = (if a = 49 then 49 :: List.replicate d 48 else [a]) ++ padL d l := by simp [padL]
/-- What stands behind the letters that are written so far. -/
def zz (A r : Nat) (bg : Bool) : Nat := r + if bg then A else 0
theorem vld_one (A B r : Nat) (bg : Bool) (hAB : A ≤ B) (m : List UInt8) : vld A B (zz A r bg) bg (49 :: (List.replicate A 48 ++ m)) = vld A B (zz A 0 true) true m := by
  rw [vld, if_neg (by decide), vld_rep _ _ _ _ _ _ (by omega)]
  have : (!(bg && decide (zz A r bg < A))) = true := by cases bg <;> simp [zz]
  rw [this]; simp [zz]
theorem vld_both (A B : Nat) (hAB : A < B) : ∀ (l : List UInt8) (r : Nat) (bg : Bool), r < B - A → l.all isB = true → vld A B (zz A r bg) bg (padL A (stf 48 49 (B - A) r l)) = true
  | [], r, bg, _, _ => by rw [stf]; simp [padL, vld]
  | a :: l, r, bg, hr, ha => by
    simp only [List.all_cons, Bool.and_eq_true] at ha
    rcases isB_cases ha.1 with rfl | rfl
    · have hz1 : zz A r bg + 1 = zz A (r + 1) bg := by unfold zz; omega
      have hz : decide (zz A r bg + 1 ≤ B) = true := by rw [decide_eq_true_iff]; unfold zz; split <;> omega
      by_cases hr2 : r + 1 < B - A
      · rw [stf, if_pos rfl, if_pos hr2, padL_c, if_neg (by decide), List.singleton_append, vld, if_pos rfl, hz, hz1]
        simp only [Bool.true_and]
        exact vld_both A B hAB l (r + 1) bg hr2 ha.2
      · rw [stf, if_pos rfl, if_neg hr2, padL_c, if_neg (by decide), List.singleton_append, vld, if_pos rfl, hz, hz1, padL_c, if_pos rfl, List.cons_append, vld_one _ _ _ _ (by omega)]
        simp only [Bool.true_and]
        exact vld_both A B hAB l 0 true (by omega) ha.2
    · rw [stf, if_neg (by decide), padL_c, if_pos rfl, List.cons_append, vld_one _ _ _ _ (by omega)]
      exact vld_both A B hAB l 0 true (by omega) ha.2

/-- The letters 0 in a row that end at a place. -/
def zrun (l : List UInt8) : Nat → Nat
  | 0 => 0
  | k + 1 => if l.getD k 0 = 48 then zrun l k + 1 else 0
def zok (B : Nat) : Nat → List UInt8 → Prop
  | _, [] => True
  | r, a :: l => if a = 48 then r + 1 ≤ B ∧ zok B (r + 1) l else zok B 0 l
theorem zok_stf (B : Nat) : ∀ (l : List UInt8) (r : Nat), r < B → zok B r (stf 48 49 B r l)
  | [], r, _ => by rw [stf]; trivial
  | a :: l, r, hr => by
    rw [stf]
    by_cases ha : a = 48
    · rw [if_pos ha]
      by_cases h2 : r + 1 < B
      · rw [if_pos h2, zok, if_pos ha]; exact ⟨by omega, zok_stf B l (r + 1) h2⟩
      · rw [if_neg h2, zok, if_pos ha, zok, if_neg (by decide)]; exact ⟨by omega, zok_stf B l 0 (by omega)⟩
    · rw [if_neg ha, zok, if_neg ha]; exact zok_stf B l 0 (by omega)
theorem zrun_app (l m : List UInt8) : ∀ k, k ≤ l.length → zrun (l ++ m) k = zrun l k
  | 0, _ => rfl
  | k + 1, h => by
    rw [zrun, zrun, zrun_app l m k (by omega)]
    have : (l ++ m).getD k 0 = l.getD k 0 := by rw [List.getD_eq_getElem?_getD, List.getD_eq_getElem?_getD, List.getElem?_append_left (by omega)]
    rw [this]
theorem zok_run (B : Nat) : ∀ (m l : List UInt8), zrun l l.length ≤ B → (∀ k, k ≤ l.length → zrun l k ≤ B) → zok B (zrun l l.length) m → ∀ k, k ≤ (l ++ m).length → zrun (l ++ m) k ≤ B
  | [], l, _, h, _ => by simpa using h
  | a :: m, l, h0, h, hz => by
    have e : l ++ a :: m = (l ++ [a]) ++ m := by simp
    have hg : (l ++ [a]).getD l.length 0 = a := by simp
    have hs : zrun (l ++ [a]) (l.length + 1) = if a = 48 then zrun l l.length + 1 else 0 := by
      rw [zrun, hg, zrun_app l [a] l.length (Nat.le_refl _)]
    rw [zok] at hz
    have hb : zrun (l ++ [a]) (l.length + 1) ≤ B := by
      rw [hs]
      by_cases ha : a = 48
      · rw [if_pos ha] at hz ⊢; exact hz.1
      · rw [if_neg ha]; exact Nat.zero_le _
    rw [e]
    refine zok_run B m (l ++ [a]) (by simpa using hb) (fun k hk => ?_) ?_
    · by_cases hk2 : k ≤ l.length
      · rw [zrun_app l [a] k hk2]; exact h k hk2
      · have : k = l.length + 1 := by simp at hk; omega
        rw [this]; exact hb
    · have : (l ++ [a]).length = l.length + 1 := by simp
      rw [this, hs]
      by_cases ha : a = 48
      · rw [if_pos ha] at hz ⊢; exact hz.2
      · rw [if_neg ha] at hz ⊢; exact hz
theorem zrun_stf (B : Nat) (hB : 0 < B) (l : List UInt8) (k : Nat) (hk : k ≤ (stf 48 49 B 0 l).length) : zrun (stf 48 49 B 0 l) k ≤ B := by
  have := zok_run B (stf 48 49 B 0 l) [] (by simp [zrun]) (fun k hk => by have : k = 0 := by simpa using hk
                                                                          rw [this]; simp [zrun]) (zok_stf B l 0 hB) k (by simpa using hk)
  simpa using this
end Go.Proofs.YtdalcopbaaabiaaDoor
