/-
  slices.IndexFunc and ContainsFunc over strings, the function being a closure that only reads.
-/
import Derived.Test.YtpnfipemencgnaaMem
import Derived.Test.YtpnfipemencgnaaProg
namespace Go.Proofs.Ytpnfipemencgnaa
open Go.RowKit

/-- The strings of a slice. -/
def Strs (w : World) (g o : Nat) (ss : List ByteArray) : Prop := ∀ j (h : j < ss.length), w.cell? ⟨g, o + j, none⟩ = some (.string ss[j])
/-- The closure says p of each string; it only reads. -/
def Reads (caps : Array Value) (p : ByteArray → Bool) (w : World) : Prop := ∀ s n, Calls Try.prog 41 (#[.string s] ++ caps) (w.drewN n) fun e w' => e = .returned (.bool (p s)) ∧ ∃ r, w' = (w.drewN n).drewN r
theorem any_take_succ (p : ByteArray → Bool) (l : List ByteArray) (k : Nat) (h : k < l.length) : (l.take (k + 1)).any p = ((l.take k).any p || p l[k]) := by
  rw [List.take_succ_eq_append_getElem h, List.any_append]; simp

set_option maxHeartbeats 1000000 in
theorem indexFunc_str (caps : Array Value) (p : ByteArray → Bool) (g o c : Nat) (ss : List ByteArray) (w : World) (hs : Strs w g o ss) (hF : Reads caps p w) (hl : ss.length ≤ 9223372036854775807) :
    Calls Try.prog 64 #[.slice (some ⟨g, o, none⟩) ss.length c, .func (.func 41) #[] caps] w fun e w' => ∃ r : Int, e = .returned (.int .i64 r) ∧ (0 ≤ r ↔ ss.any p = true) ∧ ∃ q, w' = w.drewN q := by
  have HS := Lib.hid hs; clear hs
  have HF := Lib.hid hF; clear hF
  go_enter Try.func64, Try.ntmps64
  go_wp2_with fail
  go_loopw [5, 8] (fun _ i wr => ∃ k n : Nat, k ≤ ss.length ∧ i = .int .i64 k ∧ (ss.take k).any p = false ∧ wr = w.drewN n) (fun _ i _ => ss.length - (intOf i).toNat)
  case atStart => exact ⟨0, 0, by omega, rfl, rfl, rfl⟩
  case round =>
    obtain ⟨k, n, hk, rfl, hp, rfl⟩ := hrel
    have HP := Lib.hid hp; clear hp
    by_cases hlt : k < ss.length
    · have hc : (w.drewN n).cell? ⟨g, o + k, none⟩ = some (.string ss[k]) := HS.out k hlt
      have HA := Lib.hid (any_take_succ p ss k hlt)
      by_cases hpk : p ss[k] = true
      · have HK := Lib.hid hpk
        go_wp2_with fail
        refine (HF.out ss[k] n).mono ?_
        rintro e w' ⟨rfl, r, rfl⟩
        rw [hpk]
        clear hpk
        go_wp2_with fail
        go_ret
        refine ⟨k, rfl, ⟨fun _ => ?_, fun _ => by omega⟩, _, rfl⟩
        rw [List.any_eq_true]; exact ⟨_, List.getElem_mem hlt, HK.out⟩
      · have hpk' : p ss[k] = false := by simpa using hpk
        have HK := Lib.hid hpk'
        clear hpk
        go_wp2_with fail
        refine (HF.out ss[k] n).mono ?_
        rintro e w' ⟨rfl, r, rfl⟩
        rw [hpk']
        clear hpk'
        go_wp2_with fail
        go_roundw
        case rel => exact ⟨k + 1, _, by omega, by go_num, by rw [HA.out, HP.out, HK.out]; rfl, rfl⟩
        case measure => simp [intOf]; omega
    · obtain rfl : k = ss.length := by omega
      have hd : decide ((ss.length : Int) < (ss.length : Int)) = false := by simp
      go_wp2_with fail
      go_ret
      refine ⟨-1, rfl, ⟨fun h => by omega, fun h => ?_⟩, _, rfl⟩
      have := HP.out
      rw [List.take_length, h] at this; cases this

set_option maxHeartbeats 400000 in
theorem containsFunc_str (caps : Array Value) (p : ByteArray → Bool) (g o c : Nat) (ss : List ByteArray) (w : World) (hs : Strs w g o ss) (hF : Reads caps p w) (hl : ss.length ≤ 9223372036854775807) :
    Calls Try.prog 40 #[.slice (some ⟨g, o, none⟩) ss.length c, .func (.func 41) #[] caps] w fun e w' => e = .returned (.bool (ss.any p)) ∧ ∃ q, w' = w.drewN q := by
  have HI := Lib.hid (indexFunc_str caps p g o c ss w hs hF hl)
  clear hs hF
  cases ha : ss.any p
  · go_enter Try.func40, Try.ntmps40
    go_wp2_with fail
    refine HI.out.mono ?_
    rintro e w' ⟨r, rfl, hr, n, rfl⟩
    have hd : decide (0 ≤ r) = false := by rw [decide_eq_false_iff_not, hr, ha]; simp
    clear hr ha
    go_wp2_with fail
    go_ret
    exact ⟨rfl, _, rfl⟩
  · go_enter Try.func40, Try.ntmps40
    go_wp2_with fail
    refine HI.out.mono ?_
    rintro e w' ⟨r, rfl, hr, n, rfl⟩
    have hd : decide (0 ≤ r) = true := by rw [decide_eq_true_eq, hr, ha]
    clear hr ha
    go_wp2_with fail
    go_ret
    exact ⟨rfl, _, rfl⟩
end Go.Proofs.Ytpnfipemencgnaa
