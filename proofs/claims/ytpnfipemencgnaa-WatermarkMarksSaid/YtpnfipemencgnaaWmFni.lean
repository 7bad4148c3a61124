/-
  slices.IndexFunc and ContainsFunc over ints, the function being a closure that says false of each element.
-/
import Derived.Test.YtpnfipemencgnaaWmK
import Derived.Test.YtpnfipemencgnaaProg
namespace Go.Proofs.Ytpnfipemencgnaa
open Go.RowKit

set_option maxHeartbeats 1000000 in
theorem indexFunc_no (caps : Array Value) (v : Value) (l : List Int) (w : World) (hv : Holds w v l) (hF : ∀ x ∈ l, Calls Try.prog 39 (#[.int .i64 x] ++ caps) w fun e w' => e = .returned (.bool false) ∧ w = w') (hl : l.length ≤ 9223372036854775807) :
    Calls Try.prog 63 #[v, .func (.func 39) #[] caps] w fun e w' => e = .returned (.int .i64 (-1)) ∧ w = w' := by
  obtain ⟨a, c, rfl, hcell⟩ := hv.parts
  have HC := Lib.hid hcell; clear hcell hv
  have HF := Lib.hid hF; clear hF
  go_enter Try.func63, Try.ntmps63
  go_wp2_with fail
  go_loop [5, 8] (fun _ i => ∃ k : Nat, k ≤ l.length ∧ i = .int .i64 k) (fun _ i => l.length - (intOf i).toNat)
  case atStart => exact ⟨0, by omega, rfl⟩
  case round =>
    obtain ⟨k, hk, rfl⟩ := hrel
    by_cases hlt : k < l.length
    · obtain ⟨g, o, rfl, hc⟩ := HC.out k hlt
      go_wp2_with fail
      refine (HF.out l[k] (List.getElem_mem hlt)).mono ?_
      rintro e w' ⟨rfl, rfl⟩
      go_wp2_with fail
      go_round
      case rel => exact ⟨k + 1, by omega, by go_num⟩
      case measure => simp [intOf]; omega
    · obtain rfl : k = l.length := by omega
      have hd : decide ((l.length : Int) < (l.length : Int)) = false := by simp
      go_wp2_with fail
      go_ret
      exact ⟨rfl, rfl⟩

set_option maxHeartbeats 400000 in
theorem containsFunc_no (caps : Array Value) (v : Value) (l : List Int) (w : World) (hv : Holds w v l) (hF : ∀ x ∈ l, Calls Try.prog 39 (#[.int .i64 x] ++ caps) w fun e w' => e = .returned (.bool false) ∧ w = w') (hl : l.length ≤ 9223372036854775807) :
    Calls Try.prog 38 #[v, .func (.func 39) #[] caps] w fun e w' => e = .returned (.bool false) ∧ w = w' := by
  have HI := Lib.hid (indexFunc_no caps v l w hv hF hl)
  clear hv hF
  go_enter Try.func38, Try.ntmps38
  go_wp2_with fail
  refine HI.out.mono ?_
  rintro e w' ⟨rfl, rfl⟩
  go_wp2_with fail
  go_ret
  exact ⟨rfl, rfl⟩
end Go.Proofs.Ytpnfipemencgnaa
