/-
  The contract of Spread of package interleave: the greatest number of letters in a row whose places lie within burst neighbours.
-/
import Derived.Test.YtgjlhjklcgladaaIlvH
namespace Go.Proofs.Ytgjlhjklcgladaa
open Go.RowKit

/-- L letters from the letter i on have places less than b apart. -/
def Tight (P : Nat → Nat) (b i L : Nat) : Prop := ∀ t, t < L → ∀ u, u < L → P (i + t) < P (i + u) + b
def IsSpread (P : Nat → Nat) (n b a : Nat) : Prop := (∃ i, i + a ≤ n ∧ Tight P b i a) ∧ ∀ i L, i + L ≤ n → Tight P b i L → L ≤ a
theorem IsSpread.unique {P : Nat → Nat} {n b a a' : Nat} (h : IsSpread P n b a) (h' : IsSpread P n b a') : a = a' := by
  obtain ⟨⟨i, h1, h2⟩, h3⟩ := h
  obtain ⟨⟨i', h1', h2'⟩, h3'⟩ := h'
  exact Nat.le_antisymm (h3' i a h1 h2) (h3 i' a' h1' h2')

/-- The inner loop's state: the letters from i to k - 1. -/
structure SpreadIn (P : Nat → Nat) (n b i k low high lg : Nat) : Prop where
  ik : i ≤ k
  kn : k ≤ n
  iN : i < n
  lo : ∃ j, i ≤ j ∧ (j < k ∨ j = i) ∧ low = P j
  hi : ∃ j, i ≤ j ∧ (j < k ∨ j = i) ∧ high = P j
  all : ∀ j, i ≤ j → j < k → low ≤ P j ∧ P j ≤ high
  tight : k = i ∨ high < low + b
  lg1 : k - i ≤ lg
  ach : ∃ i', i' + lg ≤ n ∧ Tight P b i' lg
  old : ∀ i', i' < i → ∀ L, i' + L ≤ n → Tight P b i' L → L ≤ lg

theorem SpreadIn.break {P : Nat → Nat} {n b i k low high lg : Nat} (h : SpreadIn P n b i k low high lg) (hb : min low (P k) + b ≤ max high (P k)) :
    ∀ i', i' < i + 1 → ∀ L, i' + L ≤ n → Tight P b i' L → L ≤ lg := by
  intro i' hi' L hL ht
  by_cases h' : i' < i
  · exact h.old i' h' L hL ht
  · obtain rfl : i' = i := by omega
    rcases Nat.lt_or_ge (k - i') L with hlt | hge
    · exfalso
      obtain ⟨j1, a1, a2, a3⟩ := h.lo
      obtain ⟨j2, b1, b2, b3⟩ := h.hi
      have hik := h.ik
      have e1 : ∃ j, i' ≤ j ∧ j ≤ k ∧ min low (P k) = P j := by
        by_cases hc : low ≤ P k
        · exact ⟨j1, a1, by omega, by rw [Nat.min_eq_left hc]; exact a3⟩
        · exact ⟨k, h.ik, Nat.le_refl _, by rw [Nat.min_eq_right (by omega)]⟩
      have e2 : ∃ j, i' ≤ j ∧ j ≤ k ∧ max high (P k) = P j := by
        by_cases hc : P k ≤ high
        · exact ⟨j2, b1, by omega, by rw [Nat.max_eq_left hc]; exact b3⟩
        · exact ⟨k, h.ik, Nat.le_refl _, by rw [Nat.max_eq_right (by omega)]⟩
      obtain ⟨x, x1, x2, x3⟩ := e1
      obtain ⟨y, y1, y2, y3⟩ := e2
      have := ht (y - i') (by omega) (x - i') (by omega)
      rw [show i' + (y - i') = y by omega, show i' + (x - i') = x by omega] at this
      omega
    · exact Nat.le_trans hge h.lg1
theorem SpreadIn.done {P : Nat → Nat} {n b i k low high lg : Nat} (h : SpreadIn P n b i k low high lg) (hk : ¬ k < n) :
    ∀ i', i' < i + 1 → ∀ L, i' + L ≤ n → Tight P b i' L → L ≤ lg := by
  intro i' hi' L hL ht
  by_cases h' : i' < i
  · exact h.old i' h' L hL ht
  · obtain rfl : i' = i := by omega
    have := h.lg1; have := h.ik; omega
theorem SpreadIn.next {P : Nat → Nat} {n b i k low high lg : Nat} (h : SpreadIn P n b i k low high lg) (hk : k < n) (hb : max high (P k) < min low (P k) + b) :
    SpreadIn P n b i (k + 1) (min low (P k)) (max high (P k)) (max lg (k - i + 1)) := by
  have hall : ∀ j, i ≤ j → j < k + 1 → min low (P k) ≤ P j ∧ P j ≤ max high (P k) := by
    intro j hj hj2
    by_cases hjk : j = k
    · subst hjk; omega
    · have := h.all j hj (by omega); omega
  have hik := h.ik
  refine ⟨by omega, by omega, h.iN, ?_, ?_, hall, .inr hb, by have := h.lg1; omega, ?_, fun i' hi' L hL ht => Nat.le_trans (h.old i' hi' L hL ht) (Nat.le_max_left _ _)⟩
  · obtain ⟨j1, a1, a2, a3⟩ := h.lo
    by_cases hc : low ≤ P k
    · exact ⟨j1, a1, by omega, by rw [Nat.min_eq_left hc]; exact a3⟩
    · exact ⟨k, h.ik, by omega, by rw [Nat.min_eq_right (by omega)]⟩
  · obtain ⟨j2, b1, b2, b3⟩ := h.hi
    by_cases hc : P k ≤ high
    · exact ⟨j2, b1, by omega, by rw [Nat.max_eq_left hc]; exact b3⟩
    · exact ⟨k, h.ik, by omega, by rw [Nat.max_eq_right (by omega)]⟩
  · by_cases hl : k - i + 1 ≤ lg
    · rw [Nat.max_eq_left hl]; exact h.ach
    · rw [Nat.max_eq_right (by omega)]
      refine ⟨i, by omega, fun t ht u hu => ?_⟩
      have h1 := hall (i + t) (by omega) (by omega)
      have h2 := hall (i + u) (by omega) (by omega)
      omega

def spdE (rows n burst : Int) : Int := if fitsE rows n ≠ 0 then fitsE rows n else if burst < 1 ∨ n < burst then 2 else if 4096 < n then 4 else 0

set_option maxHeartbeats 1000000 in
theorem spread_ok (r n b : Nat) (w : World) (hf : fitsE r n = 0) (hn : n ≤ 4096) (hb1 : 1 ≤ b) (hb2 : b ≤ n) :
    Calls Try.prog 24 #[.int .i64 r, .int .i64 n, .int .i64 b] w fun e w' =>
      ∃ a : Nat, IsSpread (posn (n / r) r) n b a ∧ e = .returned (.tuple #[.int .i64 a, .int .i64 0]) ∧ Below w.heap.size w w' := by
  obtain ⟨hr1, hr2, hn1, hn2, hm⟩ := fits_ok hf
  have hf' : (fitsE r n != 0) = false := by simp [hf]
  have hp := Lib.hid (div_parts (n := n) (r := r) (by omega) hm)
  have hlt := fun i hi => posn_le (n / r) r i n hp.out.1 hp.out.2 hi
  have CT : ∀ (ac ar : Addr) (j : Nat) (wx : World), j ≤ 65536 → wx.cell? ac = some (.int .i64 ((n / r : Nat) : Int)) → wx.cell? ar = some (.int .i64 r) →
      Calls Try.prog 43 #[.int .i64 j, .pointer (some ac), .pointer (some ar)] wx fun e w' => e = .returned (.int .i64 (posn (n / r) r j)) ∧ ∃ m, w' = wx.drewN m :=
    fun ac ar j wx hj h1 h2 => blockTo_any (n / r) r j ac ar wx hp.out.1 (by omega) hj h1 h2
  generalize posn (n / r) r = P at *
  have HCT := Lib.hid CT; clear CT
  have HLT := Lib.hid hlt; clear hlt
  clear hf hm
  go_enter Try.func24, Try.ntmps24
  go_wp2_with fail
  refine (fits_any _ _ _).mono ?_
  rintro e w1 ⟨rfl, rfl⟩
  go_wp2_with fail
  refine (block_any r n _ (by omega) (by omega)).mono ?_
  rintro e w2 ⟨rfl, q1, q2, q3, q4⟩
  have Q1 := Lib.hid q1; clear q1
  have Q2 := Lib.hid q2; clear q2
  have Q4 := Lib.hid q4; clear q4 q3
  go_wp2_with fail
  go_loopw [10, 34] (fun l i wr => ∃ i' lg : Nat, i' ≤ n ∧ i = .int .i64 i' ∧ l = .int .i64 lg ∧ (∃ i0, i0 + lg ≤ n ∧ Tight P b i0 lg) ∧ (∀ i0, i0 < i' → ∀ L, i0 + L ≤ n → Tight P b i0 L → L ≤ lg) ∧
    wr.cell? ⟨w.heap.size + 1, 0, none⟩ = some (.int .i64 ((n / r : Nat) : Int)) ∧ wr.cell? ⟨w.heap.size, 0, none⟩ = some (.int .i64 r) ∧ Below w.heap.size w wr) (fun _ i _ => n - (intOf i).toNat)
  case atStart => exact ⟨0, 0, by omega, rfl, rfl, ⟨0, by omega, fun t ht => by omega⟩, fun i0 h => by omega, Q1.out, Q2.out, Q4.out⟩
  case round =>
    obtain ⟨i, lg, hi, rfl, rfl, hach, hold, hc1, hc2, hb⟩ := hrel
    have HA := Lib.hid hach; clear hach
    have HOL := Lib.hid hold; clear hold
    have HC1 := Lib.hid hc1; clear hc1
    have HC2 := Lib.hid hc2; clear hc2
    have HB := Lib.hid hb; clear hb
    by_cases hlt : i < n
    · have hPi := HLT.out i hlt
      go_wp2_with (go_at_call 43; refine (HCT.out _ _ i _ (by omega) (by exact HC1.out) (by exact HC2.out)).mono ?_; rintro e w' ⟨rfl, nq, rfl⟩)
      go_loopw [10, 12, 13, 14] (fun l lo h k wr2 => ∃ lg' low high k' : Nat, SpreadIn P n b i k' low high lg' ∧ l = .int .i64 lg' ∧ lo = .int .i64 low ∧ h = .int .i64 high ∧ k = .int .i64 k' ∧ low < n ∧ high < n ∧ lg' ≤ n ∧
        wr2.cell? ⟨w.heap.size + 1, 0, none⟩ = some (.int .i64 ((n / r : Nat) : Int)) ∧ wr2.cell? ⟨w.heap.size, 0, none⟩ = some (.int .i64 r) ∧ Below w.heap.size w wr2) (fun _ _ _ k _ => n - (intOf k).toNat)
      case atStart =>
        refine ⟨lg, P i, P i, i, ⟨Nat.le_refl _, by omega, hlt, ⟨i, Nat.le_refl _, .inr rfl, rfl⟩, ⟨i, Nat.le_refl _, .inr rfl, rfl⟩, fun j h1 h2 => by omega, .inl rfl, by omega, HA.out, HOL.out⟩, rfl, rfl, rfl, rfl, hPi, hPi, ?_, HC1.out, HC2.out, below_drewN HB.out _⟩
        obtain ⟨i0, h1, -⟩ := HA.out; omega
      case round =>
        clear HA HOL HC1 HC2 HB
        obtain ⟨lg', low, high, k, hin, rfl, rfl, rfl, rfl, hlo, hhi, hlg, hc1, hc2, hb⟩ := hrel
        have HC1 := Lib.hid hc1; clear hc1
        have HC2 := Lib.hid hc2; clear hc2
        have HB := Lib.hid hb; clear hb
        have hik := hin.ik
        have HIN := Lib.hid hin; clear hin
        by_cases hk : k < n
        · have hPk := HLT.out k hk
          obtain ⟨lo', hlo'⟩ : ∃ lo', lo' = min low (P k) := ⟨_, rfl⟩
          obtain ⟨hi', hhi'⟩ : ∃ hi', hi' = max high (P k) := ⟨_, rfl⟩
          obtain ⟨lg2, hlg2⟩ : ∃ lg2, lg2 = max lg' (k - i + 1) := ⟨_, rfl⟩
          have e1 : min (low : Int) ((P k : Nat) : Int) = (lo' : Int) := by omega
          have e2 : max (high : Int) ((P k : Nat) : Int) = (hi' : Int) := by omega
          have e3 : max (lg' : Int) ((k : Int) - (i : Int) + 1) = (lg2 : Int) := by omega
          have b1 : lo' < n := by omega
          have b2 : hi' < n := by omega
          have b3 : lg2 ≤ n := by omega
          by_cases hb : lo' + b ≤ hi'
          · have hbr := Lib.hid (HIN.out.break (by rw [← hlo', ← hhi']; exact hb))
            have hach := Lib.hid HIN.out.ach
            clear hlo' hhi' hlg2
            have hb' : (b : Int) ≤ (hi' : Int) - (lo' : Int) := by omega
            go_wp2_with (go_at_call 43; refine (HCT.out _ _ k _ (by omega) (by exact HC1.out) (by exact HC2.out)).mono ?_; rintro e w' ⟨rfl, nq, rfl⟩)
            go_roundw
            case rel => exact ⟨i + 1, lg', by omega, by go_num, rfl, hach.out, hbr.out, HC1.out, HC2.out, below_drewN HB.out _⟩
            case measure => simp [intOf]; omega
          · have hnx := Lib.hid (HIN.out.next hk (by rw [← hlo', ← hhi']; omega))
            rw [← hlo', ← hhi', ← hlg2] at hnx
            clear hlo' hhi' hlg2
            have hb' : ¬ (b : Int) ≤ (hi' : Int) - (lo' : Int) := by omega
            go_wp2_with (go_at_call 43; refine (HCT.out _ _ k _ (by omega) (by exact HC1.out) (by exact HC2.out)).mono ?_; rintro e w' ⟨rfl, nq, rfl⟩)
            go_roundw
            case rel => exact ⟨lg2, lo', hi', k + 1, hnx.out, by first | rfl | go_num, rfl, rfl, by go_num, b1, b2, b3, HC1.out, HC2.out, below_drewN HB.out _⟩
            case measure => simp [intOf]; omega
        · have hdn := Lib.hid (HIN.out.done hk)
          have hach := Lib.hid HIN.out.ach
          go_wp2_with fail
          go_roundw
          case rel => exact ⟨i + 1, lg', by omega, by go_num, rfl, hach.out, hdn.out, HC1.out, HC2.out, HB.out⟩
          case measure => simp [intOf]; omega
    · obtain rfl : i = n := by omega
      go_wp2_with fail
      go_ret2
      obtain ⟨i0, h1, h2⟩ := HA.out
      exact ⟨lg, ⟨⟨i0, h1, h2⟩, fun i1 L h3 h4 => by
        rcases Nat.lt_or_ge i1 i with h5 | h5
        · exact HOL.out i1 h5 L h3 h4
        · omega⟩, rfl, HB.out⟩
end Go.Proofs.Ytgjlhjklcgladaa
