/-
  The contract of the reference's Spread.
-/
import Derived.Test.YtgjlhjklcgladaaIlvZ
namespace Go.Proofs.Ytgjlhjklcgladaa
open Go.RowKit

theorem least_of (f : Nat → Nat) : ∀ L, 0 < L → ∃ t0, t0 < L ∧ ∀ t, t < L → f t0 ≤ f t
  | 0, h => by omega
  | 1, _ => ⟨0, by omega, fun t ht => by
    have h0 : t = 0 := by omega
    rw [h0]; exact Nat.le_refl _⟩
  | L + 2, _ => by
    obtain ⟨t0, h1, h2⟩ := least_of f (L + 1) (by omega)
    by_cases h : f t0 ≤ f (L + 1)
    · refine ⟨t0, by omega, fun t ht => ?_⟩
      by_cases ht2 : t = L + 1
      · rw [ht2]; exact h
      · exact h2 t (by omega)
    · refine ⟨L + 1, by omega, fun t ht => ?_⟩
      by_cases ht2 : t = L + 1
      · rw [ht2]; exact Nat.le_refl _
      · have := h2 t (by omega); omega

def inB (P : Nat → Nat) (b fr i : Nat) : Bool := decide (fr ≤ P i) && decide (P i < fr + b)
theorem inB_iff (P : Nat → Nat) (b fr i : Nat) : inB P b fr i = true ↔ fr ≤ P i ∧ P i < fr + b := by
  unfold inB; rw [Bool.and_eq_true, decide_eq_true_eq, decide_eq_true_eq]
theorem spread_of (P : Nat → Nat) (n b out : Nat) (hP : ∀ i, i < n → P i < n) (hb : b ≤ n) (h1 : ∃ i0, i0 + out ≤ n ∧ Tight P b i0 out)
    (h2 : ∀ fr, fr + b ≤ n → ∀ i L, i + L ≤ n → (∀ t, t < L → inB P b fr (i + t) = true) → L ≤ out) : IsSpread P n b out := by
  refine ⟨h1, fun i L hL ht => ?_⟩
  rcases Nat.eq_zero_or_pos L with h0 | h0
  · omega
  · obtain ⟨t0, ht0, hmin⟩ := least_of (fun t => P (i + t)) L h0
    refine h2 (min (P (i + t0)) (n - b)) (by omega) i L hL fun t htl => ?_
    rw [inB_iff]
    have a1 : P (i + t0) ≤ P (i + t) := hmin t htl
    have a2 := ht t htl t0 ht0
    have a3 := hP (i + t) (by omega)
    omega
theorem tight_of_run (P : Nat → Nat) (b fr i L : Nat) (h : ∀ t, t < L → inB P b fr (i + t) = true) : Tight P b i L := by
  intro t ht u hu
  have h1 := (inB_iff _ _ _ _).1 (h t ht)
  have h2 := (inB_iff _ _ _ _).1 (h u hu)
  omega

/-- The marks of the first k letters. -/
def marksL (B : Nat → Bool) (n k : Nat) : List Value := (List.range n).map fun j => .bool (decide (j < k) && B j)
theorem marksL_len (B : Nat → Bool) (n k : Nat) : (marksL B n k).length = n := by simp [marksL]
theorem marksL_zero (B : Nat → Bool) (n : Nat) : marksL B n 0 = List.replicate n (.bool false) := by
  apply List.ext_getElem?
  intro j
  by_cases hj : j < n <;> simp [marksL, hj]
theorem marksL_set (B : Nat → Bool) (n k : Nat) (hk : k < n) : (marksL B n k).set k (.bool (B k)) = marksL B n (k + 1) := by
  apply List.ext_getElem?
  intro j
  rw [List.getElem?_set]
  by_cases hj : j < n
  · simp only [marksL, List.getElem?_map, List.getElem?_range hj, Option.map_some, List.length_map, List.length_range]
    by_cases h : k = j
    · subst h; simp [hk]
    · have h1 : decide (j < k + 1) = decide (j < k) := by
        rw [decide_eq_decide]; omega
      simp [h, h1]
  · rw [if_neg (by intro h; omega), List.getElem?_eq_none (by rw [marksL_len]; omega), List.getElem?_eq_none (by rw [marksL_len]; omega)]
theorem marksL_get (B : Nat → Bool) (n j : Nat) (hj : j < n) : (marksL B n n)[j]? = some (.bool (B j)) := by
  simp [marksL, hj]

set_option maxHeartbeats 2000000 in
theorem refSpread_ok (r n b : Nat) (w : World) (hf : fitsE r n = 0) (hn : n ≤ 4096) (hb1 : 1 ≤ b) (hb2 : b ≤ n) :
    Calls Try.prog 25 #[.int .i64 r, .int .i64 n, .int .i64 b] w fun e w' =>
      ∃ a : Nat, IsSpread (posn (n / r) r) n b a ∧ e = .returned (.tuple #[.int .i64 a, .int .i64 0]) ∧ Below w.heap.size w w' := by
  obtain ⟨hr1, hr2, hn1, hn2, hm⟩ := fits_ok hf
  have hpE : posE (r : Int) n 0 = 0 := by rw [posE, if_neg (by simp [hf]), if_neg (by omega)]
  have hp := Lib.hid (div_parts (n := n) (r := r) (by omega) hm)
  have hlt := fun i hi => posn_le (n / r) r i n hp.out.1 hp.out.2 hi
  have c0 := fun w => refPosition_any r n 0 w
  simp only [hpE] at c0
  have c1 := fun w => positions_any r n w (by omega) (by omega) (by omega) (.inr hp.out.1)
  generalize posn (n / r) r = P at *
  have C0 := Lib.hid c0; have C1 := Lib.hid c1; have HLT := Lib.hid hlt; clear c0 c1 hlt hf hm hpE
  go_enter Try.func25, Try.ntmps25
  go_wp2_with fail
  refine (C0.out _).mono ?_
  rintro e w1 ⟨rfl, hw1⟩
  have HW1 : Hid (Below w.heap.size w w1) := Lib.hid (by obtain ⟨m, rfl⟩ := hw1; exact below_ofN _)
  clear hw1
  go_wp2_with fail
  refine (C1.out _).mono ?_
  rintro e w2 ⟨tv, rfl, hown, hb2'⟩
  have HRd := Lib.hid (reads_own hown); clear hown
  have HB2 := Lib.hid (ext_trans HW1.out hb2'); clear hb2' HW1
  rcases HRd.out with h0 | ⟨g, cap, rfl, hg, hc⟩
  · omega
  have HC := Lib.hid hc; clear hc HRd
  go_wp2_with fail
  go_loopw [11, 12] (fun o f wr => ∃ out fr : Nat, fr + b ≤ n + 1 ∧ o = .int .i64 out ∧ f = .int .i64 fr ∧ out ≤ n ∧ (∃ i0, i0 + out ≤ n ∧ Tight P b i0 out) ∧
    (∀ f', f' < fr → ∀ i L, i + L ≤ n → (∀ t, t < L → inB P b f' (i + t) = true) → L ≤ out) ∧ Below w.heap.size w wr ∧ Below w2.heap.size w2 wr) (fun _ f _ => n + 1 - (intOf f).toNat)
  case atStart => exact ⟨0, 0, by omega, rfl, rfl, by omega, ⟨0, by omega, fun t ht => by omega⟩, fun f' h => by omega, HB2.out, Below.refl _ _⟩
  case round =>
    obtain ⟨out, fr, hfr, rfl, rfl, hon, hach, hold, hb, hb3⟩ := hrel
    have HA := Lib.hid hach; clear hach
    have HOL := Lib.hid hold; clear hold
    have HB := Lib.hid hb; clear hb
    have HB3 := Lib.hid hb3; clear hb3
    obtain ⟨wo, hwo⟩ : ∃ wo : World, wo = wr := ⟨_, rfl⟩
    subst hwo
    by_cases hlt : fr + b ≤ n
    · have hlt' : (fr : Int) + (b : Int) ≤ (n : Int) := by omega
      go_wp2_with (at_make; refine wpList_mkrow _ rfl _ _ rfl 4 (.bool false) 1 Try.underlying28 (by kernel_rfl) rfl _ n rfl rfl (by omega) (by omega) ?_; intro w3 hrow3 hb4 hsz3)
      have HR3 := Lib.hid hrow3; clear hrow3
      have HB4 := Lib.hid hb4; clear hb4 hsz3
      go_loopw [14] (fun i wr3 => ∃ j : Nat, j ≤ n ∧ i = .int .i64 j ∧ Row wr3 wo.heap.size 4 (marksL (inB P b fr) n j) ∧ Below wo.heap.size wo wr3) (fun i _ => n - (intOf i).toNat)
      case atStart => exact ⟨0, by omega, rfl, by rw [marksL_zero]; exact HR3.out, HB4.out⟩
      case round =>
        clear HR3 HB4
        obtain ⟨j, hj, rfl, hrow, hb⟩ := hrel
        have HR := Lib.hid hrow; clear hrow
        have HBw := Lib.hid hb; clear hb
        by_cases hlt2 : j < n
        · have hPj := HLT.out j hlt2
          have hcg : wr.cell? ⟨g, j, none⟩ = some (.int .i64 ((P j : Nat) : Int)) := by
            rw [HBw.out.cell (p := ⟨g, j, none⟩) (Nat.lt_of_lt_of_le hg HB3.out.size), HB3.out.cell (p := ⟨g, j, none⟩) hg]; exact HC.out j hlt2
          have hcell : ∃ v, wr.cell? ⟨wo.heap.size, j, none⟩ = some v := by
            rw [HR.out.cell]; rw [List.getElem?_eq_getElem (by rw [marksL_len]; exact hlt2)]; exact ⟨_, rfl⟩
          obtain ⟨v0, hv0⟩ := hcell
          have hfz := HR.out.frozen j
          have hst := Lib.hid (marksL_set (inB P b fr) n j hlt2)
          by_cases h1 : fr ≤ P j
          · have h1' : (fr : Int) ≤ ((P j : Nat) : Int) := by omega
            have hd1 : decide ((fr : Int) ≤ ((P j : Nat) : Int)) = true := decide_eq_true h1'
            have hin : inB P b fr j = decide ((P j : Int) < (fr : Int) + (b : Int)) := by
              unfold inB
              rw [decide_eq_true h1, Bool.true_and, decide_eq_decide]; omega
            have HIN := Lib.hid hin; clear hin
            go_wp2_with fail
            go_roundw
            case rel =>
              refine ⟨j + 1, by omega, by go_num, ?_, HBw.out.setCell (Nat.le_refl _) _⟩
              rw [← hst.out, HIN.out]; exact HR.out.set _ _
            case measure => simp [intOf]; omega
          · have h1' : ¬ (fr : Int) ≤ ((P j : Nat) : Int) := by omega
            have hd1 : decide ((fr : Int) ≤ ((P j : Nat) : Int)) = false := decide_eq_false h1'
            have hin : inB P b fr j = false := by
              unfold inB
              rw [decide_eq_false h1, Bool.false_and]
            have HIN := Lib.hid hin; clear hin
            go_wp2_with fail
            go_roundw
            case rel =>
              refine ⟨j + 1, by omega, by go_num, ?_, HBw.out.setCell (Nat.le_refl _) _⟩
              rw [← hst.out, HIN.out]; exact HR.out.set _ _
            case measure => simp [intOf]; omega
        · obtain rfl : j = n := by omega
          have hcs : ∀ j', j' < j → wr.cell? ⟨wo.heap.size, j', none⟩ = some (.bool (inB P b fr j')) := fun j' hj' => by
            rw [HR.out.cell, marksL_get _ _ _ hj']
          have hbx := ext_trans HB.out HBw.out
          have hby := ext_trans HB3.out HBw.out
          have HBX := Lib.hid hbx; clear hbx
          have HBY := Lib.hid hby; clear hby
          have HCS := Lib.hid hcs; clear hcs
          go_wp2_with fail
          refine (longest_any (inB P b fr) wo.heap.size j _ hn HCS.out).mono ?_
          rintro e w5 ⟨a, hrun, rfl, rfl⟩
          have ha : a ≤ j := by obtain ⟨i0, h1, -⟩ := hrun.1; omega
          have HRN := Lib.hid hrun; clear hrun
          have hnew : ∀ m, a ≤ m → out ≤ m → ∀ f', f' < fr + 1 → ∀ i L, i + L ≤ j → (∀ t, t < L → inB P b f' (i + t) = true) → L ≤ m := by
            intro m h1 h2 f' hf' i L hL ht
            by_cases hff : f' < fr
            · exact Nat.le_trans (HOL.out f' hff i L hL ht) h2
            · obtain rfl : f' = fr := by omega
              exact Nat.le_trans (HRN.out.2 i L hL ht) h1
          have HNW := Lib.hid hnew; clear hnew
          by_cases hgt : out < a
          · have hgt' : (out : Int) < (a : Int) := by omega
            go_wp2_with fail
            go_roundw
            case rel =>
              refine ⟨a, fr + 1, by omega, rfl, by go_num, ha, ?_, HNW.out a (Nat.le_refl _) (by omega), HBX.out, HBY.out⟩
              obtain ⟨i0, h1, h2⟩ := HRN.out.1
              exact ⟨i0, h1, tight_of_run P b fr i0 a h2⟩
            case measure => simp [intOf]; omega
          · have hgt' : ¬ (out : Int) < (a : Int) := by omega
            go_wp2_with fail
            go_roundw
            case rel => exact ⟨out, fr + 1, by omega, rfl, by go_num, hon, HA.out, HNW.out out (by omega) (Nat.le_refl _), HBX.out, HBY.out⟩
            case measure => simp [intOf]; omega
    · have hlt' : ¬ (fr : Int) + (b : Int) ≤ (n : Int) := by omega
      go_wp2_with fail
      go_ret2
      exact ⟨out, spread_of P n b out HLT.out hb2 HA.out (fun f' hf' => HOL.out f' (by omega)), rfl, HB.out⟩
end Go.Proofs.Ytgjlhjklcgladaa
