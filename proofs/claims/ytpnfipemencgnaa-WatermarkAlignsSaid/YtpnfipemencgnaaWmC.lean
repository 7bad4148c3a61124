/-
  The contract of watermark.Cost.
-/
import Derived.Test.YtpnfipemencgnaaWmB
namespace Go.Proofs.Ytpnfipemencgnaa
open Go.RowKit

theorem chkA_len {m r : List UInt8} (h : chkA m r = 0) : m.length ≤ 256 ∧ r.length ≤ 256 := by
  unfold chkA at h
  split at h
  · split at h
    · cases h
    · omega
  · exfalso; apply ‹¬ _›; exact h

theorem cf_zero (m r : List UInt8) (z : Value) : (cf m r 0 (r.length + 1) (0, 0)).getD z = .int .i64 (wc m r : Nat) := by
  rw [cf_get 0 0 (by omega) (by omega) (.inl (by omega))]
  unfold wcI; rfl

def costV (m r : List UInt8) : Int := if chkA m r = 0 then (wc m r : Nat) else 0

set_option maxHeartbeats 800000 in
set_option maxRecDepth 100000 in
theorem cost_any (m r : ByteArray) (w : World) :
    Calls Try.prog 14 #[.string m, .string r] w fun e w' => e = .returned (.tuple #[.int .i64 (costV m.data.toList r.data.toList), .int .i64 (chkA m.data.toList r.data.toList)]) ∧ Below w.heap.size w w' := by
  by_cases h : chkA m.data.toList r.data.toList = 0
  · have hl := chkA_len h
    have HV := Lib.hid (show costV m.data.toList r.data.toList = (wc m.data.toList r.data.toList : Nat) by rw [costV, if_pos h])
    have HZ := Lib.hid (show ∀ z, (cf m.data.toList r.data.toList 0 (r.size + 1) (0, 0)).getD z = .int .i64 (wc m.data.toList r.data.toList : Nat) from fun z => cf_zero m.data.toList r.data.toList z)
    have hm : m.size ≤ 256 := hl.1
    have hr : r.size ≤ 256 := hl.2
    clear hl
    go_enter Try.func14, Try.ntmps14
    go_wp2_with fail
    refine (checkAlign_any _ _ _).mono ?_
    rintro e w1 ⟨rfl, n, rfl⟩
    rw [h]
    go_wp2_with fail
    refine (costs_any m r _ hm hr).mono ?_
    rintro e w2 ⟨B, rfl, hB, hmap, hb⟩
    have HM := Lib.hid hmap; clear hmap
    have HB := Lib.hid hb; clear hb
    go_wp2_with (at_lookup; refine wpList_lookM _ rfl _ _ _ rfl Try.underlying61 keyLaw_rest (z := .int .i64 0) (by kernel_rfl) _ _ rfl HM.out (0, 0) rfl ?_; rw [HZ.out])
    go_ret2
    exact ⟨by rw [HV.out, h]; rfl, (below_ofN n).trans HB.out⟩
  · have hb : (chkA m.data.toList r.data.toList != 0) = true := by simpa using h
    have HV := Lib.hid (show costV m.data.toList r.data.toList = 0 by rw [costV, if_neg h])
    clear h
    go_enter Try.func14, Try.ntmps14
    go_wp2_with (go_at_call 42; refine (checkAlign_any _ _ _).mono ?_; rintro e w1 ⟨rfl, n, rfl⟩)
    go_ret2
    exact ⟨by rw [HV.out]; rfl, below_ofN n⟩
end Go.Proofs.Ytpnfipemencgnaa
