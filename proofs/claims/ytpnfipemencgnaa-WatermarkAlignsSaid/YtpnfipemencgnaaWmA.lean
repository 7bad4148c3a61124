/-
  The contracts of watermark.check, checkAlign and the reference check: the errors of a mark and a received word.
-/
import Derived.Test.YtpnfipemencgnaaChk
import Derived.Test.YtpnfipemencgnaaMem
namespace Go.Proofs.Ytpnfipemencgnaa
open Go.RowKit

def chk2 (m r : List UInt8) : Int := if chk 2 m = 0 then chk 2 r else chk 2 m
def chkA (m r : List UInt8) : Int := if chk2 m r = 0 then (if 256 < m.length ∨ 256 < r.length then 4 else 0) else chk2 m r

theorem drewN_drewN (w : World) (a b : Nat) : (w.drewN a).drewN b = w.drewN (a + b) := by
  simp [World.drewN, Nat.add_comm, Nat.add_left_comm]

set_option maxHeartbeats 400000 in
theorem wcheck_any (m r : ByteArray) (w : World) :
    Calls Try.prog 51 #[.string m, .string r] w fun e w' => e = .returned (.int .i64 (chk2 m.data.toList r.data.toList)) ∧ ∃ n, w' = w.drewN n := by
  by_cases h : chk 2 m.data.toList = 0
  · have hc := Lib.hid (show chk2 m.data.toList r.data.toList = chk 2 r.data.toList by rw [chk2, if_pos h])
    go_enter Try.func51, Try.ntmps51
    go_wp2_with (go_at_call 36; refine (check_any _ _ _).mono ?_; rintro e w' ⟨rfl, n, rfl⟩; try rw [h])
    go_ret
    refine ⟨?_, _, rfl⟩
    rw [hc.out]; rfl
  · have hb : (chk 2 m.data.toList == 0) = false := by simpa using h
    have hc := Lib.hid (show chk2 m.data.toList r.data.toList = chk 2 m.data.toList by rw [chk2, if_neg h])
    go_enter Try.func51, Try.ntmps51
    go_wp2_with (go_at_call 36; refine (check_any _ _ _).mono ?_; rintro e w' ⟨rfl, n, rfl⟩)
    go_ret
    refine ⟨?_, _, rfl⟩
    rw [hc.out]; rfl

set_option maxHeartbeats 400000 in
theorem checkAlign_any (m r : ByteArray) (w : World) :
    Calls Try.prog 42 #[.string m, .string r] w fun e w' => e = .returned (.int .i64 (chkA m.data.toList r.data.toList)) ∧ ∃ n, w' = w.drewN n := by
  by_cases h : chk2 m.data.toList r.data.toList = 0
  · have hc := Lib.hid (show chkA m.data.toList r.data.toList = if 256 < m.size ∨ 256 < r.size then 4 else 0 by rw [chkA, if_pos h]; rfl)
    by_cases h1 : 256 < m.size
    · go_enter Try.func42, Try.ntmps42
      go_wp2_with (go_at_call 51; refine (wcheck_any _ _ _).mono ?_; rintro e w' ⟨rfl, n, rfl⟩; try rw [h])
      go_ret
      refine ⟨?_, _, rfl⟩
      rw [hc.out, if_pos (.inl h1)]; rfl
    · by_cases h2 : 256 < r.size
      · go_enter Try.func42, Try.ntmps42
        go_wp2_with (go_at_call 51; refine (wcheck_any _ _ _).mono ?_; rintro e w' ⟨rfl, n, rfl⟩; try rw [h])
        go_ret
        refine ⟨?_, _, rfl⟩
        rw [hc.out, if_pos (.inr h2)]; rfl
      · go_enter Try.func42, Try.ntmps42
        go_wp2_with (go_at_call 51; refine (wcheck_any _ _ _).mono ?_; rintro e w' ⟨rfl, n, rfl⟩; try rw [h])
        go_ret
        refine ⟨?_, _, rfl⟩
        rw [hc.out, if_neg (by omega)]; rfl
  · have hb : (chk2 m.data.toList r.data.toList == 0) = false := by simpa using h
    have hc := Lib.hid (show chkA m.data.toList r.data.toList = chk2 m.data.toList r.data.toList by rw [chkA, if_neg h])
    go_enter Try.func42, Try.ntmps42
    go_wp2_with (go_at_call 51; refine (wcheck_any _ _ _).mono ?_; rintro e w' ⟨rfl, n, rfl⟩)
    go_ret
    refine ⟨?_, _, rfl⟩
    rw [hc.out]; rfl

set_option maxHeartbeats 400000 in
theorem rcheck_any (m r : ByteArray) (w : World) :
    Calls Try.prog 48 #[.string m, .string r] w fun e w' => e = .returned (.int .i64 (chkA m.data.toList r.data.toList)) ∧ w = w' := by
  by_cases h : chk 2 m.data.toList = 0
  · by_cases k : chk 2 r.data.toList = 0
    · have hc := Lib.hid (show chkA m.data.toList r.data.toList = if 256 < m.size ∨ 256 < r.size then 4 else 0 by rw [chkA, chk2, if_pos h, if_pos k]; rfl)
      by_cases h1 : 256 < m.size
      · go_enter Try.func48, Try.ntmps48
        go_wp2_with (go_at_call 56; refine (refCheck_any _ _ _).mono ?_; rintro e w' ⟨rfl, rfl⟩; first | rw [h] | rw [k])
        go_ret
        refine ⟨?_, rfl⟩
        rw [hc.out, if_pos (.inl h1)]; rfl
      · by_cases h2 : 256 < r.size
        · go_enter Try.func48, Try.ntmps48
          go_wp2_with (go_at_call 56; refine (refCheck_any _ _ _).mono ?_; rintro e w' ⟨rfl, rfl⟩; first | rw [h] | rw [k])
          go_ret
          refine ⟨?_, rfl⟩
          rw [hc.out, if_pos (.inr h2)]; rfl
        · go_enter Try.func48, Try.ntmps48
          go_wp2_with (go_at_call 56; refine (refCheck_any _ _ _).mono ?_; rintro e w' ⟨rfl, rfl⟩; first | rw [h] | rw [k])
          go_ret
          refine ⟨?_, rfl⟩
          rw [hc.out, if_neg (by omega)]; rfl
    · have hb : (chk 2 r.data.toList == 0) = false := by simpa using k
      have hc := Lib.hid (show chkA m.data.toList r.data.toList = chk 2 r.data.toList by rw [chkA, chk2, if_pos h, if_neg k])
      go_enter Try.func48, Try.ntmps48
      go_wp2_with (go_at_call 56; refine (refCheck_any _ _ _).mono ?_; rintro e w' ⟨rfl, rfl⟩; try rw [h])
      go_ret
      refine ⟨?_, rfl⟩
      rw [hc.out]; rfl
  · have hb : (chk 2 m.data.toList == 0) = false := by simpa using h
    have hc := Lib.hid (show chkA m.data.toList r.data.toList = chk 2 m.data.toList by rw [chkA, chk2, if_neg h, if_neg h])
    go_enter Try.func48, Try.ntmps48
    go_wp2_with (go_at_call 56; refine (refCheck_any _ _ _).mono ?_; rintro e w' ⟨rfl, rfl⟩)
    go_ret
    refine ⟨?_, rfl⟩
    rw [hc.out]; rfl
end Go.Proofs.Ytpnfipemencgnaa
