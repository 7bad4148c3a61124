/-
  The helper binary: whether words are binary, and short enough.
-/
import Derived.Test.YtpnfipemencgnaaWmFnd
import Derived.Test.YtpnfipemencgnaaChk
namespace Go.Proofs.Ytpnfipemencgnaa
open Go.RowKit

def bin (n : Int) (s : ByteArray) : Bool := decide ((s.size : Int) ≤ n) && (chk 2 s.data.toList == 0)

set_option maxHeartbeats 400000 in
theorem bin1_any (n : Int) (s : ByteArray) (b : Nat) (w : World) (hc : w.cell? ⟨b, 0, none⟩ = some (.int .i64 n)) :
    Calls Try.prog 41 #[.string s, .pointer (some ⟨b, 0, none⟩)] w fun e w' => e = .returned (.bool (!bin n s)) ∧ ∃ r, w' = w.drewN r := by
  by_cases h1 : (s.size : Int) ≤ n
  · have d1 : decide (n < (s.size : Int)) = false := by simpa using h1
    by_cases h2 : chk 2 s.data.toList = 0
    · have HB := Lib.hid (show bin n s = true by simp [bin, h1, h2])
      clear h1
      go_enter Try.func41, Try.ntmps41
      go_wp2_with fail
      refine (check_any _ _ _).mono ?_
      rintro e w1 ⟨rfl, n, rfl⟩
      rw [h2]
      go_wp2_with fail
      go_ret
      exact ⟨by rw [HB.out]; rfl, _, rfl⟩
    · have HB := Lib.hid (show bin n s = false by simp [bin, h2])
      have d2 : (chk 2 s.data.toList != 0) = true := by simpa using h2
      clear h1 h2
      go_enter Try.func41, Try.ntmps41
      go_wp2_with fail
      refine (check_any _ _ _).mono ?_
      rintro e w1 ⟨rfl, n, rfl⟩
      go_wp2_with fail
      go_ret
      exact ⟨by rw [HB.out]; rfl, _, rfl⟩
  · have d1 : decide (n < (s.size : Int)) = true := by rw [decide_eq_true_eq]; omega
    have HB := Lib.hid (show bin n s = false by simp [bin, h1])
    clear h1
    go_enter Try.func41, Try.ntmps41
    go_wp2_with fail
    go_ret
    exact ⟨by rw [HB.out]; rfl, 0, rfl⟩

set_option maxHeartbeats 400000 in
theorem binary_any (n : Int) (g o c : Nat) (ss : List ByteArray) (w : World) (hs : Strs w g o ss) (hg : g < w.heap.size) (hl : ss.length ≤ 9223372036854775807) :
    Calls Try.prog 12 #[.int .i64 n, .slice (some ⟨g, o, none⟩) ss.length c] w fun e w' => e = .returned (.bool (ss.all (bin n))) ∧ Below w.heap.size w w' := by
  have HF := Lib.hid (show Reads #[.pointer (some ⟨w.heap.size, 0, none⟩)] (fun s => !bin n s) (w.alloc (.cells #[.int .i64 n] 3)) from fun s k => bin1_any n s w.heap.size _ ((row_new w 3 [.int .i64 n]).cell 0))
  have HS := Lib.hid (show Strs (w.alloc (.cells #[.int .i64 n] 3)) g o ss from fun j hj => by
    have hb : Below w.heap.size w (w.alloc (.cells #[.int .i64 n] 3)) := (Below.refl _ _).alloc (Nat.le_refl _) _
    rw [hb.cell (p := ⟨g, o + j, none⟩) hg]; exact hs j hj)
  have HA := Lib.hid (show (!ss.any (fun s => !bin n s)) = ss.all (bin n) by rw [List.not_any_eq_all_not]; simp)
  clear hs
  go_enter Try.func12, Try.ntmps12
  go_wp2_with fail
  refine (containsFunc_str _ (fun s => !bin n s) g o c ss _ HS.out HF.out hl).mono ?_
  rintro e w' ⟨rfl, q, rfl⟩
  go_wp2_with fail
  go_ret
  exact ⟨by rw [← HA.out]; rfl, below_drewN ((Below.refl _ _).alloc (Nat.le_refl _) _) _⟩
end Go.Proofs.Ytpnfipemencgnaa
