/-
  The contract of watermark.Mark: pseudo-random words.
-/
import Derived.Test.YtpnfipemencgnaaWmA
import Derived.Test.YtpnfipemencgnaaBld
import Derived.Lib.RabinKarpLaws
namespace Go.Proofs.Ytpnfipemencgnaa
open Go.RowKit

def lcg (x : Nat) : Nat := (1103515245 * x + 12345) % 2147483648
def lcgN (seed : Nat) : Nat → Nat
  | 0 => seed
  | k + 1 => lcg (lcgN seed k)
theorem lcgN_lt (seed : Nat) (h : seed < 2147483648) : ∀ k, lcgN seed k < 2147483648
  | 0 => h
  | k + 1 => Nat.mod_lt _ (by omega)
def mkB (seed k : Nat) : UInt8 := UInt8.ofNat (48 + lcgN seed (k + 1) / 65536 % 2)
def mkS (seed n : Nat) : List UInt8 := (List.range n).map (mkB seed)
theorem mkS_succ (seed n : Nat) : mkS seed (n + 1) = mkS seed n ++ [mkB seed n] := by simp [mkS, List.range_succ]
theorem mkS_len (seed n : Nat) : (mkS seed n).length = n := by simp [mkS]

theorem lcg_slot (seed k : Nat) : (1103515245 * (lcgN seed k : Int) + 12345) % 2147483648 = (lcgN seed (k + 1) : Nat) := by
  have h : lcgN seed (k + 1) = (1103515245 * lcgN seed k + 12345) % 2147483648 := rfl
  omega
theorem mk_slot (seed k : Nat) : wrap64 (48 + bits BinOp.and IntKind.i64 ((1103515245 * (lcgN seed k : Int) + 12345) % 2147483648 / 65536) 1) % 256 = ((mkB seed k).toNat : Int) := by
  have h : lcgN seed (k + 1) = (1103515245 * lcgN seed k + 12345) % 2147483648 := rfl
  have e : (1103515245 * (lcgN seed k : Int) + 12345) % 2147483648 / 65536 = ((lcgN seed (k + 1) / 65536 : Nat) : Int) := by rw [h]; rfl
  rw [e, Go.Proofs.and_one _ (by omega)]
  have hm : lcgN seed (k + 1) / 65536 % 2 < 2 := Nat.mod_lt _ (by omega)
  rw [mkB, UInt8.toNat_ofNat']
  rw [IntWalk.wrap64_in _ (by omega)]
  omega
/-- The error of Mark. -/
def mkE (n seed : Int) : Int := if n < 0 ∨ 65536 < n ∨ seed < 0 ∨ 2147483648 ≤ seed then 2 else 0
def mkV (n seed : Int) : List UInt8 := if mkE n seed = 0 then mkS seed.toNat n.toNat else []

set_option maxHeartbeats 1000000 in
set_option maxRecDepth 100000 in
theorem mark_ok (n seed : Nat) (w : World) (hn : n ≤ 65536) (hs : seed < 2147483648) :
    Calls Try.prog 33 #[.int .i64 n, .int .i64 seed] w fun e w' => e = .returned (.tuple #[.string ⟨(mkS seed n).toArray⟩, .int .i64 0]) ∧ Below w.heap.size w w' := by
  have g1 : decide ((n : Int) < 0) = false := by simp
  have g2 : decide ((65536 : Int) < (n : Int)) = false := by simp; omega
  have g3 : decide ((seed : Int) < 0) = false := by simp
  have g4 : decide ((2147483648 : Int) ≤ (seed : Int)) = false := by simp; omega
  go_enter Try.func33, Try.ntmps33
  go_wp2_with fail
  go_loopw [7, 24] (fun x i wr => ∃ k : Nat, k ≤ n ∧ i = .int .i64 k ∧ x = .int .i64 (lcgN seed k : Nat) ∧ Bld w.heap.size (w.heap.size + 1) w.heap.size (mkS seed k) wr ∧ Below w.heap.size w wr) (fun _ i _ => n - (intOf i).toNat)
  case atStart => exact ⟨0, by omega, rfl, rfl, bld_new _ w (Nat.le_refl _), (Below.refl _ _).alloc (Nat.le_refl _) _⟩
  case round =>
    obtain ⟨k, hk, rfl, rfl, hbl, hb⟩ := hrel
    have HL := Lib.hid hbl; clear hbl
    have HB := Lib.hid hb; clear hb
    by_cases hlt : k < n
    · have hst := lcgN_lt seed hs k
      have hc := mk_slot seed k
      go_wp2_with fail
      rw [hc]
      refine (writeByte_any _ _ _ _ _ _ HL.out (by rw [mkS_len]; omega)).mono ?_
      rintro e w1 ⟨rfl, h1, h2, h3⟩
      have H1 := Lib.hid h1; clear h1 h2
      have H3 := Lib.hid h3; clear h3 hc
      have hx := lcg_slot seed k
      go_wp2_with fail
      go_roundw
      case rel => exact ⟨k + 1, by omega, by go_num, rfl, by rw [mkS_succ]; exact H1.out, HB.out.trans H3.out⟩
      case measure => simp [intOf]; omega
    · obtain rfl : k = n := by omega
      have hlt' : decide ((k : Int) < (k : Int)) = false := by simp
      go_wp2_with fail
      refine (builder_string _ _ _ _ _ HL.out).mono ?_
      rintro e w1 ⟨rfl, h1⟩
      have H1 := Lib.hid h1; clear h1
      go_wp2_with fail
      go_ret2
      exact ⟨rfl, HB.out.trans H1.out⟩

set_option maxHeartbeats 1000000 in
theorem mark_err (n seed : Int) (w : World) (h : n < 0 ∨ 65536 < n ∨ seed < 0 ∨ 2147483648 ≤ seed) :
    Calls Try.prog 33 #[.int .i64 n, .int .i64 seed] w fun e w' => e = .returned (.tuple #[.string ⟨#[]⟩, .int .i64 2]) ∧ w = w' := by
  by_cases h1 : n < 0
  · have g1 : decide (n < 0) = true := by simpa using h1
    clear h h1
    go_enter Try.func33, Try.ntmps33
    go_wp2_with fail
    go_ret2
    exact ⟨rfl, rfl⟩
  · have g1 : decide (n < 0) = false := by simpa using h1
    by_cases h2 : 65536 < n
    · have g2 : decide (65536 < n) = true := by simpa using h2
      clear h h1 h2
      go_enter Try.func33, Try.ntmps33
      go_wp2_with fail
      go_ret2
      exact ⟨rfl, rfl⟩
    · have g2 : decide (65536 < n) = false := by simpa using h2
      by_cases h3 : seed < 0
      · have g3 : decide (seed < 0) = true := by simpa using h3
        clear h h1 h2 h3
        go_enter Try.func33, Try.ntmps33
        go_wp2_with fail
        go_ret2
        exact ⟨rfl, rfl⟩
      · have g3 : decide (seed < 0) = false := by simpa using h3
        have g4 : decide (2147483648 ≤ seed) = true := by simp; omega
        clear h h1 h2 h3
        go_enter Try.func33, Try.ntmps33
        go_wp2_with fail
        go_ret2
        exact ⟨rfl, rfl⟩

theorem mark_any (n seed : Int) (w : World) :
    Calls Try.prog 33 #[.int .i64 n, .int .i64 seed] w fun e w' => e = .returned (.tuple #[.string ⟨(mkV n seed).toArray⟩, .int .i64 (mkE n seed)]) ∧ Below w.heap.size w w' := by
  by_cases h : n < 0 ∨ 65536 < n ∨ seed < 0 ∨ 2147483648 ≤ seed
  · refine (mark_err n seed w h).mono fun e w' ⟨h1, h2⟩ => ⟨?_, ?_⟩
    · have : mkE n seed = 2 := if_pos h
      rw [h1, mkV, this]; rfl
    · rw [← h2]; exact Below.refl _ _
  · obtain ⟨a, rfl⟩ := Int.eq_ofNat_of_zero_le (show 0 ≤ n by omega)
    obtain ⟨b, rfl⟩ := Int.eq_ofNat_of_zero_le (show 0 ≤ seed by omega)
    refine (mark_ok a b w (by omega) (by omega)).mono fun e w' ⟨h1, h2⟩ => ⟨?_, h2⟩
    have : mkE a b = 0 := if_neg h
    rw [h1, mkV, this]; rfl
end Go.Proofs.Ytpnfipemencgnaa
