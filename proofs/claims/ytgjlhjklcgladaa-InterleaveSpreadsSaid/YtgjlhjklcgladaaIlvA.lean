/-
  The contracts of the small functions of package interleave and of its reference.
-/
import Derived.Test.YtgjlhjklcgladaaChk
namespace Go.Proofs.Ytgjlhjklcgladaa
open Go.RowKit

def fitsE (rows n : Int) : Int := if rows < 1 ∨ 65536 < rows ∨ n < 1 ∨ 65536 < n then 2 else if n % rows ≠ 0 then 11 else 0

set_option maxHeartbeats 400000 in
theorem fits_any (rows n : Int) (w : World) :
    Calls Try.prog 32 #[.int .i64 rows, .int .i64 n] w fun e w' => e = .returned (.int .i64 (fitsE rows n)) ∧ w = w' := by
  by_cases h1 : rows < 1
  · have H := Lib.hid (show fitsE rows n = 2 by rw [fitsE, if_pos (by omega)])
    go_enter Try.func32, Try.ntmps32
    go_wp2
    go_ret
    exact ⟨by rw [H.out]; rfl, rfl⟩
  by_cases h2 : 65536 < rows
  · have H := Lib.hid (show fitsE rows n = 2 by rw [fitsE, if_pos (by omega)])
    go_enter Try.func32, Try.ntmps32
    go_wp2
    go_ret
    exact ⟨by rw [H.out]; rfl, rfl⟩
  by_cases h3 : n < 1
  · have H := Lib.hid (show fitsE rows n = 2 by rw [fitsE, if_pos (by omega)])
    go_enter Try.func32, Try.ntmps32
    go_wp2
    go_ret
    exact ⟨by rw [H.out]; rfl, rfl⟩
  by_cases h4 : 65536 < n
  · have H := Lib.hid (show fitsE rows n = 2 by rw [fitsE, if_pos (by omega)])
    go_enter Try.func32, Try.ntmps32
    go_wp2
    go_ret
    exact ⟨by rw [H.out]; rfl, rfl⟩
  have H0 := Lib.hid (show fitsE rows n = if n % rows ≠ 0 then 11 else 0 by rw [fitsE, if_neg (by omega)])
  have b1 : 1 ≤ rows := by omega
  have b3 : 1 ≤ n := by omega
  clear h1 h3
  by_cases h5 : n % rows = 0
  · have H := Lib.hid (show fitsE rows n = 0 by rw [H0.out, if_neg (by omega)])
    have h5' : (n % rows != 0) = false := by simp [h5]
    clear h5
    go_enter Try.func32, Try.ntmps32
    go_wp2
    go_ret
    exact ⟨by rw [H.out]; rfl, rfl⟩
  · have H := Lib.hid (show fitsE rows n = 11 by rw [H0.out, if_pos h5])
    have h5' : (n % rows != 0) = true := by simp [h5]
    clear h5
    go_enter Try.func32, Try.ntmps32
    go_wp2
    go_ret
    exact ⟨by rw [H.out]; rfl, rfl⟩

theorem gcd_step (p q : Int) (h : 0 ≤ p) (h2 : 0 ≤ q) : Int.gcd q (p % q) = Int.gcd p q := by
  obtain ⟨p, rfl⟩ := Int.eq_ofNat_of_zero_le h
  obtain ⟨q, rfl⟩ := Int.eq_ofNat_of_zero_le h2
  rw [← Int.natCast_emod]
  simp only [Int.gcd_natCast_natCast]
  rw [Nat.gcd_comm q, ← Nat.gcd_rec, Nat.gcd_comm]
set_option maxHeartbeats 400000 in
theorem gcd_any (a b : Int) (w : World) (ha : 1 ≤ a ∧ a ≤ 1000000) (hb : 0 ≤ b ∧ b ≤ 1000000) :
    Calls Try.prog 33 #[.int .i64 a, .int .i64 b] w fun e w' => e = .returned (.int .i64 (Int.gcd a b)) ∧ ∃ n, w' = w.drewN n := by
  go_enter Try.func33, Try.ntmps33
  go_wp2
  go_loopw [0, 1] (fun x y wr => ∃ p q : Int, 1 ≤ p ∧ p ≤ 1000000 ∧ 0 ≤ q ∧ q ≤ 1000000 ∧ x = .int .i64 p ∧ y = .int .i64 q ∧ Int.gcd p q = Int.gcd a b ∧ ∃ n, wr = w.drewN n) (fun _ y _ => (intOf y).toNat)
  case atStart => exact ⟨a, b, by omega, by omega, by omega, by omega, rfl, rfl, rfl, 0, rfl⟩
  case round =>
    obtain ⟨p, q, h1, h2, h3, h4, rfl, rfl, h5, h6⟩ := hrel
    have H5 := Lib.hid h5; clear h5
    have H6 := Lib.hid h6; clear h6
    by_cases hq : 0 < q
    · have hm1 : 0 ≤ p % q := Int.emod_nonneg _ (by omega)
      have hm2 : p % q < q := Int.emod_lt_of_pos _ hq
      go_wp2
      go_quiet (fail)
      go_wp2
      go_roundw
      case rel =>
        obtain ⟨n, hn⟩ := H6.out
        refine ⟨q, p % q, by omega, by omega, by omega, by omega, rfl, rfl, ?_, _, by rw [hn, World.drewN_drewN]⟩
        rw [← H5.out, gcd_step p q (by omega) h3]
      case measure => simp [intOf]; omega
    · go_wp2
      go_ret
      obtain rfl : q = 0 := by omega
      have h := H5.out
      refine ⟨?_, H6.out⟩
      rw [← h, Int.gcd_zero_right]
      have : ((p.natAbs : Nat) : Int) = p := by omega
      rw [this]; rfl

def ckBlock (rows : Int) (l : List UInt8) : Int :=
  if chk 16 l ≠ 0 then chk 16 l else if rows < 1 ∨ 65536 < rows then 2 else if (l.length : Int) % rows ≠ 0 then 11 else 0

set_option maxHeartbeats 400000 in
theorem checkBlock_any (rows : Int) (s : ByteArray) (w : World) (hs : s.size ≤ maxLen) :
    Calls Try.prog 28 #[.int .i64 rows, .string s] w fun e w' => e = .returned (.int .i64 (ckBlock rows s.data.toList)) ∧ ∃ n, w' = w.drewN n := by
  unfold maxLen at hs
  by_cases hc : chk 16 s.data.toList = 0
  · have hc' : (chk 16 s.data.toList != 0) = false := by simp [hc]
    have H0 := Lib.hid (show ckBlock rows s.data.toList = if rows < 1 ∨ 65536 < rows then 2 else if (s.data.toList.length : Int) % rows ≠ 0 then 11 else 0 by rw [ckBlock, if_neg (by simp [hc])])
    clear hc
    by_cases h1 : rows < 1
    · have H := Lib.hid (show ckBlock rows s.data.toList = 2 by rw [H0.out, if_pos (by omega)])
      go_enter Try.func28, Try.ntmps28
      go_wp2_with (go_at_call 42; refine (check_any _ _ _).mono ?_; rintro e w' ⟨rfl, n, rfl⟩)
      go_ret
      exact ⟨by rw [H.out]; rfl, _, rfl⟩
    by_cases h2 : 65536 < rows
    · have H := Lib.hid (show ckBlock rows s.data.toList = 2 by rw [H0.out, if_pos (by omega)])
      go_enter Try.func28, Try.ntmps28
      go_wp2_with (go_at_call 42; refine (check_any _ _ _).mono ?_; rintro e w' ⟨rfl, n, rfl⟩)
      go_ret
      exact ⟨by rw [H.out]; rfl, _, rfl⟩
    have b1 : 1 ≤ rows := by omega
    clear h1
    by_cases h5 : (s.size : Int) % rows = 0
    · have H := Lib.hid (show ckBlock rows s.data.toList = 0 by rw [H0.out, if_neg (by omega), if_neg]; simpa using h5)
      have h5' : ((s.size : Int) % rows != 0) = false := by simp [h5]
      clear h5
      go_enter Try.func28, Try.ntmps28
      go_wp2_with (go_at_call 42; refine (check_any _ _ _).mono ?_; rintro e w' ⟨rfl, n, rfl⟩)
      go_ret
      exact ⟨by rw [H.out]; rfl, _, rfl⟩
    · have H := Lib.hid (show ckBlock rows s.data.toList = 11 by rw [H0.out, if_neg (by omega), if_pos]; simpa using h5)
      have h5' : ((s.size : Int) % rows != 0) = true := by simp [h5]
      clear h5
      go_enter Try.func28, Try.ntmps28
      go_wp2_with (go_at_call 42; refine (check_any _ _ _).mono ?_; rintro e w' ⟨rfl, n, rfl⟩)
      go_ret
      exact ⟨by rw [H.out]; rfl, _, rfl⟩
  · have hc' : (chk 16 s.data.toList != 0) = true := by simp [hc]
    have H := Lib.hid (show ckBlock rows s.data.toList = chk 16 s.data.toList by rw [ckBlock, if_pos hc])
    clear hc
    go_enter Try.func28, Try.ntmps28
    go_wp2_with (go_at_call 42; refine (check_any _ _ _).mono ?_; rintro e w' ⟨rfl, n, rfl⟩)
    go_ret
    exact ⟨by rw [H.out]; rfl, _, rfl⟩
end Go.Proofs.Ytgjlhjklcgladaa
