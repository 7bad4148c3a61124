/-
  The contracts of Align, Extract and Drift.
-/
import Derived.Test.YtpnfipemencgnaaWmE
namespace Go.Proofs.Ytpnfipemencgnaa
open Go.RowKit

/-- The alignment that Align returns; empty with an error. -/
def alE (m r : List UInt8) : List Int := if chkA m r = 0 then alL m r else []
theorem alE_ok {m r : List UInt8} (h : chkA m r = 0) : alE m r = alL m r := if_pos h
theorem alE_no {m r : List UInt8} (h : ¬ chkA m r = 0) : alE m r = [] := if_neg h
theorem alL_len (m r : List UInt8) : (alL m r).length = m.length := alI_len _ _ _ _ _

set_option maxHeartbeats 800000 in
set_option maxRecDepth 100000 in
theorem walign_any (m r : ByteArray) (w : World) :
    Calls Try.prog 15 #[.string m, .string r] w fun e w' => ∃ v, e = .returned (.tuple #[v, .int .i64 (costV m.data.toList r.data.toList), .int .i64 (chkA m.data.toList r.data.toList)]) ∧ Own w' w.heap.size 3 v (ints (alE m.data.toList r.data.toList)) ∧ Below w.heap.size w w' := by
  by_cases h : chkA m.data.toList r.data.toList = 0
  · have hl := chkA_len h
    have HV := Lib.hid (show costV m.data.toList r.data.toList = (wc m.data.toList r.data.toList : Nat) by rw [costV, if_pos h])
    have HE := Lib.hid (alE_ok h)
    have hm : m.size ≤ 256 := hl.1
    have hr : r.size ≤ 256 := hl.2
    clear hl
    go_enter Try.func15, Try.ntmps15
    go_wp2_with fail
    refine (checkAlign_any _ _ _).mono ?_
    rintro e w1 ⟨rfl, n, rfl⟩
    rw [h]
    go_wp2_with fail
    refine (align_any m r _ hm hr).mono ?_
    rintro e w2 ⟨v, rfl, hown, hb⟩
    have HO := Lib.hid hown; clear hown
    have HB := Lib.hid hb; clear hb
    go_wp2_with fail
    go_ret3
    exact ⟨v, by rw [HV.out, h]; rfl, by rw [HE.out]; exact HO.out, (below_ofN n).trans HB.out⟩
  · have hb : (chkA m.data.toList r.data.toList != 0) = true := by simpa using h
    have HV := Lib.hid (show costV m.data.toList r.data.toList = 0 by rw [costV, if_neg h])
    have HE := Lib.hid (alE_no h)
    clear h
    go_enter Try.func15, Try.ntmps15
    go_wp2_with (go_at_call 42; refine (checkAlign_any _ _ _).mono ?_; rintro e w1 ⟨rfl, n, rfl⟩)
    go_ret3
    exact ⟨_, by rw [HV.out]; rfl, by rw [HE.out]; exact own_nil _ _ _, below_ofN n⟩
end Go.Proofs.Ytpnfipemencgnaa
