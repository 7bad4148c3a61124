/-
  The contracts of the reference's Position, longest and Spread.
-/
import Derived.Test.YtgjlhjklcgladaaIlvY
import Derived.Test.YtgjlhjklcgladaaIlvS
namespace Go.Proofs.Ytgjlhjklcgladaa
open Go.RowKit

set_option maxHeartbeats 400000 in
theorem refPosition_any (rows n i : Int) (w : World) :
    Calls Try.prog 23 #[.int .i64 rows, .int .i64 n, .int .i64 i] w fun e w' =>
      e = .returned (.tuple #[.int .i64 (posV rows n i), .int .i64 (posE rows n i)]) ∧ ∃ m, w' = w.drewN m := by
  by_cases hn1 : n < 1
  · have H1 := Lib.hid (show posE rows n i = 2 by have hf2 : fitsE rows n = 2 := by { rw [fitsE, if_pos (by omega)] }; rw [posE, hf2]; rfl)
    have H2 := Lib.hid (show posV rows n i = 0 by rw [posV, if_pos (by rw [H1.out]; decide)])
    go_enter Try.func23, Try.ntmps23
    go_wp2_with fail
    go_ret2
    exact ⟨by rw [H1.out, H2.out]; rfl, 0, rfl⟩
  by_cases hn2 : 65536 < n
  · have H1 := Lib.hid (show posE rows n i = 2 by have hf2 : fitsE rows n = 2 := by { rw [fitsE, if_pos (by omega)] }; rw [posE, hf2]; rfl)
    have H2 := Lib.hid (show posV rows n i = 0 by rw [posV, if_pos (by rw [H1.out]; decide)])
    go_enter Try.func23, Try.ntmps23
    go_wp2_with fail
    go_ret2
    exact ⟨by rw [H1.out, H2.out]; rfl, 0, rfl⟩
  have hfr : fitsE rows n = refFits rows n := by
    unfold fitsE refFits
    by_cases h : rows < 1 ∨ 65536 < rows
    · rw [if_pos (by omega), if_pos h]
    · rw [if_neg (by omega), if_neg h]
  by_cases hc : fitsE rows n = 0
  · obtain ⟨hr1, hr2, _, _, hm⟩ := fits_ok hc
    have HE := Lib.hid (show posE rows n i = if i < 0 ∨ n ≤ i then 2 else 0 by rw [posE, if_neg (by simp [hc])])
    have hc' : (refFits rows n != 0) = false := by rw [← hfr]; simp [hc]
    clear hc hfr
    obtain ⟨r, rfl⟩ := Int.eq_ofNat_of_zero_le (show 0 ≤ rows by omega)
    obtain ⟨m, rfl⟩ := Int.eq_ofNat_of_zero_le (show 0 ≤ n by omega)
    have HM := Lib.hid hm; clear hm
    by_cases h1 : i < 0
    · have H1 := Lib.hid (show posE r m i = 2 by rw [HE.out, if_pos (by omega)])
      have H2 := Lib.hid (show posV r m i = 0 by rw [posV, if_pos (by rw [H1.out]; decide)])
      go_enter Try.func23, Try.ntmps23
      go_wp2_with (go_at_call 34; refine (refFits_any _ _ _ (by omega)).mono ?_; rintro e w' ⟨rfl, rfl⟩)
      go_ret2
      exact ⟨by rw [H1.out, H2.out]; rfl, 0, rfl⟩
    by_cases h2 : (m : Int) ≤ i
    · have H1 := Lib.hid (show posE r m i = 2 by rw [HE.out, if_pos (by omega)])
      have H2 := Lib.hid (show posV r m i = 0 by rw [posV, if_pos (by rw [H1.out]; decide)])
      go_enter Try.func23, Try.ntmps23
      go_wp2_with (go_at_call 34; refine (refFits_any _ _ _ (by omega)).mono ?_; rintro e w' ⟨rfl, rfl⟩)
      go_ret2
      exact ⟨by rw [H1.out, H2.out]; rfl, 0, rfl⟩
    obtain ⟨j, rfl⟩ := Int.eq_ofNat_of_zero_le (show 0 ≤ i by omega)
    have H1 := Lib.hid (show posE r m j = 0 by rw [HE.out, if_neg (by omega)])
    have H2 := Lib.hid (show posV r m j = (posn (m / r) r j : Nat) by rw [posV, if_neg (by rw [H1.out]; decide)]; rfl)
    have hp := Lib.hid (div_parts (n := m) (r := r) (by omega) HM.out)
    go_enter Try.func23, Try.ntmps23
    go_wp2_with (go_at_call 34; refine (refFits_any _ _ _ (by omega)).mono ?_; rintro e w' ⟨rfl, rfl⟩)
    refine (refPosition_in r m j _ (by omega) (by omega) (by omega) hp.out.1 (by omega)).mono ?_
    rintro e w3 ⟨rfl, nq, rfl⟩
    go_wp2_with fail
    go_ret2
    exact ⟨by rw [H1.out, H2.out]; rfl, _, rfl⟩
  · have H1 := Lib.hid (show posE rows n i = refFits rows n by rw [posE, if_pos hc, hfr])
    have H2 := Lib.hid (show posV rows n i = 0 by rw [posV, if_pos (by rw [H1.out, ← hfr]; exact hc)])
    have hc' : (refFits rows n != 0) = true := by rw [← hfr]; simp [hc]
    clear hc hfr
    go_enter Try.func23, Try.ntmps23
    go_wp2_with (go_at_call 34; refine (refFits_any _ _ _ (by omega)).mono ?_; rintro e w' ⟨rfl, rfl⟩)
    go_ret2
    exact ⟨by rw [H1.out, H2.out]; rfl, 0, rfl⟩

/-- The greatest number of marks in a row. -/
def IsRun (B : Nat → Bool) (n a : Nat) : Prop := (∃ i, i + a ≤ n ∧ ∀ t, t < a → B (i + t) = true) ∧ ∀ i L, i + L ≤ n → (∀ t, t < L → B (i + t) = true) → L ≤ a

structure RunIn (B : Nat → Bool) (i out run : Nat) : Prop where
  runs : run ≤ i ∧ (∀ t, t < run → B (i - run + t) = true) ∧ (run = i ∨ B (i - run - 1) = false)
  ro : run ≤ out
  ach : ∃ i0, i0 + out ≤ i ∧ ∀ t, t < out → B (i0 + t) = true
  top : ∀ i0 L, i0 + L ≤ i → (∀ t, t < L → B (i0 + t) = true) → L ≤ out
theorem RunIn.no {B : Nat → Bool} {i out run : Nat} (h : RunIn B i out run) (hb : B i = false) : RunIn B (i + 1) out 0 := by
  refine ⟨⟨by omega, fun t ht => by omega, .inr (by simpa using hb)⟩, by omega, ?_, fun i0 L hL ha => ?_⟩
  · obtain ⟨i0, a, b⟩ := h.ach; exact ⟨i0, by omega, b⟩
  · by_cases hl : i0 + L ≤ i
    · exact h.top i0 L hl ha
    · rcases Nat.eq_zero_or_pos L with h0 | h0
      · omega
      · have := ha (i - i0) (by omega)
        rw [show i0 + (i - i0) = i by omega, hb] at this
        cases this
theorem RunIn.yes {B : Nat → Bool} {i out run : Nat} (h : RunIn B i out run) (hb : B i = true) : RunIn B (i + 1) (max out (run + 1)) (run + 1) := by
  obtain ⟨r1, r2, r3⟩ := h.runs
  refine ⟨⟨by omega, fun t ht => ?_, ?_⟩, by omega, ?_, fun i0 L hL ha => ?_⟩
  · by_cases htr : t < run
    · have := r2 t htr
      rwa [show i + 1 - (run + 1) + t = i - run + t by omega]
    · rw [show i + 1 - (run + 1) + t = i by omega]; exact hb
  · rcases r3 with h3 | h3
    · left; omega
    · right; rwa [show i + 1 - (run + 1) - 1 = i - run - 1 by omega]
  · by_cases hm : run + 1 ≤ out
    · rw [Nat.max_eq_left hm]
      obtain ⟨i0, a, b⟩ := h.ach; exact ⟨i0, by omega, b⟩
    · rw [Nat.max_eq_right (by omega)]
      refine ⟨i - run, by omega, fun t ht => ?_⟩
      by_cases htr : t < run
      · exact r2 t htr
      · rw [show i - run + t = i by omega]; exact hb
  · by_cases hl : i0 + L ≤ i
    · exact Nat.le_trans (h.top i0 L hl ha) (Nat.le_max_left _ _)
    · refine Nat.le_trans ?_ (Nat.le_max_right _ _)
      rcases Nat.lt_or_ge (run + 1) L with hgt | hle
      · exfalso
        rcases r3 with h3 | h3
        · omega
        · have := ha (i - run - 1 - i0) (by omega)
          rw [show i0 + (i - run - 1 - i0) = i - run - 1 by omega, h3] at this
          cases this
      · exact hle

set_option maxHeartbeats 800000 in
theorem longest_any (B : Nat → Bool) (g n : Nat) (w : World) (hn : n ≤ 4096) (hc : ∀ j : Nat, j < n → w.cell? ⟨g, j, none⟩ = some (.bool (B j))) :
    Calls Try.prog 40 #[.slice (some ⟨g, 0, none⟩) n n] w fun e w' => ∃ a : Nat, IsRun B n a ∧ e = .returned (.int .i64 a) ∧ w = w' := by
  have HC := Lib.hid hc; clear hc
  go_enter Try.func40, Try.ntmps40
  go_wp2_with fail
  go_loop [3, 4, 5] (fun o r i => ∃ i' out run : Nat, i' ≤ n ∧ i = .int .i64 i' ∧ o = .int .i64 out ∧ r = .int .i64 run ∧ RunIn B i' out run) (fun _ _ i => n - (intOf i).toNat)
  case atStart => exact ⟨0, 0, 0, by omega, rfl, rfl, rfl, ⟨⟨by omega, fun t ht => by omega, .inl rfl⟩, by omega, ⟨0, by omega, fun t ht => by omega⟩, fun i0 L hL _ => by omega⟩⟩
  case round =>
    obtain ⟨i, out, run, hi, rfl, rfl, rfl, hri⟩ := hrel
    have b1 : run ≤ i := hri.runs.1
    have b2 : out ≤ i := by obtain ⟨i0, a, _⟩ := hri.ach; omega
    have HR := Lib.hid hri; clear hri
    by_cases hlt : i < n
    · have hcell := HC.out i hlt
      by_cases hB : B i = true
      · rw [hB] at hcell
        have hnx := Lib.hid (HR.out.yes hB); clear hB
        by_cases hgt : out < run + 1
        · have hgt' : (out : Int) < (run : Int) + 1 := by omega
          go_wp2_with fail
          go_round
          case rel => exact ⟨i + 1, run + 1, run + 1, by omega, by go_num, by go_num, by go_num, by have := hnx.out; rwa [Nat.max_eq_right (by omega)] at this⟩
          case measure => simp [intOf]; omega
        · have hgt' : ¬ (out : Int) < (run : Int) + 1 := by omega
          go_wp2_with fail
          go_round
          case rel => exact ⟨i + 1, out, run + 1, by omega, by go_num, rfl, by go_num, by have := hnx.out; rwa [Nat.max_eq_left (by omega)] at this⟩
          case measure => simp [intOf]; omega
      · have hB' : B i = false := by simpa using hB
        rw [hB'] at hcell
        have hnx := Lib.hid (HR.out.no hB'); clear hB hB'
        go_wp2_with fail
        go_round
        case rel => exact ⟨i + 1, out, 0, by omega, by go_num, rfl, rfl, hnx.out⟩
        case measure => simp [intOf]; omega
    · obtain rfl : i = n := by omega
      go_wp2_with fail
      go_ret
      exact ⟨out, ⟨HR.out.ach, HR.out.top⟩, rfl, rfl⟩
end Go.Proofs.Ytgjlhjklcgladaa
