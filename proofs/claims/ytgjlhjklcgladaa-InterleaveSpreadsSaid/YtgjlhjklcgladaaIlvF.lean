/-
  The helpers of the statements on interleaving: fine says what the plain fineB says; awake returns true.
-/
import Derived.Test.YtgjlhjklcgladaaIlvE
namespace Go.Proofs.Ytgjlhjklcgladaa
open Go.RowKit

def fineB (l : List UInt8) : Bool := decide (l.length ≤ 60) && (chk 16 l == 0)

set_option maxHeartbeats 400000 in
theorem fine_yes (s : ByteArray) (w : World) (h : fineB s.data.toList = true) :
    Calls Try.prog 10 #[.string s] w fun e w' => e = .returned (.bool true) ∧ w = w' := by
  unfold fineB at h
  rw [Bool.and_eq_true, decide_eq_true_eq, beq_iff_eq] at h
  obtain ⟨h1, h2⟩ := h
  have h1' : (s.size : Int) ≤ 60 := Int.ofNat_le.2 h1
  have h3 : (chk 16 s.data.toList == 0) = true := by simp [h2]
  clear h1 h2
  go_enter Try.func10, Try.ntmps10
  go_wp2_with (go_at_call 27; refine (refCheck_any _ _ _).mono ?_; rintro e w' ⟨rfl, rfl⟩)
  go_ret
  exact ⟨rfl, rfl⟩
set_option maxHeartbeats 400000 in
theorem fine_no (s : ByteArray) (w : World) (h : fineB s.data.toList = false) :
    Calls Try.prog 10 #[.string s] w fun e w' => e = .returned (.bool false) ∧ w = w' := by
  by_cases h1 : s.size ≤ 60
  · have h3 : (chk 16 s.data.toList == 0) = false := by
      unfold fineB at h
      have : decide (s.data.toList.length ≤ 60) = true := decide_eq_true h1
      rwa [this, Bool.true_and] at h
    clear h
    go_enter Try.func10, Try.ntmps10
    go_wp2_with (go_at_call 27; refine (refCheck_any _ _ _).mono ?_; rintro e w' ⟨rfl, rfl⟩)
    go_ret
    exact ⟨rfl, rfl⟩
  · have h3 : decide ((s.size : Int) ≤ 60) = false := by rw [decide_eq_false_iff_not]; omega
    clear h h1
    go_enter Try.func10, Try.ntmps10
    go_wp2_with (go_at_call 27; refine (refCheck_any _ _ _).mono ?_; rintro e w' ⟨rfl, rfl⟩)
    go_ret
    exact ⟨rfl, rfl⟩

theorem ex_block (w : World) : Calls Try.prog 12 #[.int .i64 2, .string ⟨#[48, 49, 50, 51, 52, 53]⟩] w fun e w' => e = .returned (.tuple #[.string ⟨#[48, 51, 49, 52, 50, 53]⟩, .int .i64 0]) ∧ Below w.heap.size w w' :=
  (blockB_any 2 ⟨#[48, 49, 50, 51, 52, 53]⟩ w (by decide)).mono fun e w' ⟨he, hb⟩ => ⟨by
    rw [he, show blkS 2 (⟨#[48, 49, 50, 51, 52, 53]⟩ : ByteArray).data.toList = [48, 51, 49, 52, 50, 53] by decide +kernel, show ckBlock 2 (⟨#[48, 49, 50, 51, 52, 53]⟩ : ByteArray).data.toList = 0 by decide +kernel], hb⟩
theorem ex_unblock (w : World) : Calls Try.prog 13 #[.int .i64 2, .string ⟨#[48, 51, 49, 52, 50, 53]⟩] w fun e w' => e = .returned (.tuple #[.string ⟨#[48, 49, 50, 51, 52, 53]⟩, .int .i64 0]) ∧ Below w.heap.size w w' :=
  (unblockB_any 2 ⟨#[48, 51, 49, 52, 50, 53]⟩ w (by decide)).mono fun e w' ⟨he, hb⟩ => ⟨by
    rw [he, show ublS 2 (⟨#[48, 51, 49, 52, 50, 53]⟩ : ByteArray).data.toList = [48, 49, 50, 51, 52, 53] by decide +kernel, show ckBlock 2 (⟨#[48, 51, 49, 52, 50, 53]⟩ : ByteArray).data.toList = 0 by decide +kernel], hb⟩
theorem ex_position (w : World) : Calls Try.prog 14 #[.int .i64 2, .int .i64 6, .int .i64 1] w fun e w' => e = .returned (.tuple #[.int .i64 2, .int .i64 0]) ∧ Below w.heap.size w w' :=
  (position_any 2 6 1 w).mono fun e w' ⟨he, hb⟩ => ⟨by rw [he, show posV 2 6 1 = 2 by decide +kernel, show posE 2 6 1 = 0 by decide +kernel], hb⟩
theorem ex_delay (w : World) : Calls Try.prog 19 #[.int .i64 1, .string ⟨#[49, 50, 51, 52, 53, 54]⟩] w fun e w' => e = .returned (.tuple #[.string ⟨#[49, 48, 48, 52, 50, 48, 48, 53, 51, 48, 48, 54]⟩, .int .i64 0]) ∧ Below w.heap.size w w' :=
  (delay_any 1 ⟨#[49, 50, 51, 52, 53, 54]⟩ w (by decide)).mono fun e w' ⟨he, hb⟩ => ⟨by
    rw [he, show dlyS 1 (⟨#[49, 50, 51, 52, 53, 54]⟩ : ByteArray).data.toList = [49, 48, 48, 52, 50, 48, 48, 53, 51, 48, 48, 54] by decide +kernel, show dlyE 1 (⟨#[49, 50, 51, 52, 53, 54]⟩ : ByteArray).data.toList = 0 by decide +kernel], hb⟩
theorem ex_order (w : World) : Calls Try.prog 15 #[.int .i64 2, .int .i64 6] w fun e w' => e = .returned (.tuple #[.int .i64 4, .int .i64 0]) ∧ Below w.heap.size w w' :=
  (order_ok 2 6 w (by decide +kernel) (by omega) (by decide +kernel)).mono fun e w' ⟨he, hb⟩ => ⟨by rw [he, show ordR 2 6 = 4 by decide +kernel]; rfl, hb⟩

set_option maxHeartbeats 800000 in
theorem awake_any (w : World) : Calls Try.prog 11 #[] w fun e w' => e = .returned (.bool true) ∧ Below w.heap.size w w' := by
  go_enter Try.func11, Try.ntmps11
  go_wp2_with fail
  refine (ex_block _).mono ?_
  rintro e w1 ⟨rfl, h1⟩
  have H1 := Lib.hid h1; clear h1
  go_wp2_with fail
  refine (ex_unblock _).mono ?_
  rintro e w2 ⟨rfl, h2⟩
  have H2 := Lib.hid h2; clear h2
  go_wp2_with fail
  refine (ex_position _).mono ?_
  rintro e w3 ⟨rfl, h3⟩
  have H3 := Lib.hid h3; clear h3
  go_wp2_with fail
  refine (ex_delay _).mono ?_
  rintro e w4 ⟨rfl, h4⟩
  have H4 := Lib.hid h4; clear h4
  go_wp2_with fail
  refine (ex_order _).mono ?_
  rintro e w5 ⟨rfl, h5⟩
  have H5 := Lib.hid h5; clear h5
  go_wp2_with fail
  go_ret
  exact ⟨rfl, ext_trans H1.out (ext_trans H2.out (ext_trans H3.out (ext_trans H4.out H5.out)))⟩
end Go.Proofs.Ytgjlhjklcgladaa
