/-
  slices.ContainsFunc at []string with the closure of StuffingBack.
-/
import Derived.Test.YtdalcopbaaabiaaDoorStS
namespace Go.Proofs.YtdalcopbaaabiaaDoor
open Go.RowKit

theorem notBin_any (s : ByteArray) (w : World) :
    Calls Tryd.prog 42 #[.string s] w fun e w' => e = .returned (.bool (!binT s.data.toList)) ∧ Below w.heap.size w w' := by
  obtain ⟨b, hb⟩ : ∃ b, binT s.data.toList = b := ⟨_, rfl⟩
  have HB := Lib.hid hb
  rw [hb]; clear hb
  go_enter Tryd.func42, Tryd.ntmps42
  go_wp2_with fail
  refine (binary_any _ _).mono ?_
  rintro e x1 ⟨rfl, h1⟩
  rw [HB.out]
  have H1 := Lib.hid h1; clear h1
  go_wp2_with fail
  go_ret
  exact ⟨rfl, H1.out⟩

set_option maxHeartbeats 1000000 in
set_option maxRecDepth 100000 in
theorem indexFunc_any (a : Option Addr) (c : Nat) (ss : List ByteArray) (w : World) (hrow : SRow w a ss) (hlen : ss.length ≤ 9223372036854775807) :
    Calls Tryd.prog 67 #[.slice a ss.length c, .func (.func 42) #[] #[]] w
      fun e w' => (∃ z : Int, e = .returned (.int .i64 z) ∧ decide (0 ≤ z) = !binA ss) ∧ Below w.heap.size w w' := by
  have HR := Lib.hid hrow; clear hrow
  go_enter Tryd.func67, Tryd.ntmps67
  go_wp2_with fail
  go_loopw [8] (fun i wr => ∃ k : Nat, k ≤ ss.length ∧ i = .int .i64 k ∧ binA (ss.take k) = true ∧ Below w.heap.size w wr) (fun i _ => ss.length - (intOf i).toNat)
  case atStart => exact ⟨0, by omega, rfl, rfl, Below.refl _ _⟩
  case round =>
    obtain ⟨k, hk, rfl, hall, hb⟩ := hrel
    have HB := Lib.hid hb
    have HA := Lib.hid hall; clear hall
    by_cases hlt : k < ss.length
    · obtain ⟨g, o, rfl, hc⟩ := (HR.out.below hb) k hlt
      clear hb
      go_wp2_with fail
      refine (notBin_any _ _).mono ?_
      rintro e x1 ⟨rfl, h1⟩
      have H1 := Lib.hid (HB.out.trans (h1.mono HB.out.size)); clear h1
      cases hbt : binT ss[k].data.toList with
      | true =>
        have HBT := Lib.hid hbt; clear hbt
        go_wp2_with fail
        go_roundw
        case rel => exact ⟨k + 1, by omega, by go_num, by
          have := HA.out
          unfold binA at this ⊢
          rw [List.take_add_one, List.getElem?_eq_getElem hlt, Option.toList_some, List.all_append, this]
          simp [HBT.out], H1.out⟩
        case measure => simp [intOf]; omega
      | false =>
        have HBT := Lib.hid (show binA ss = false by
          unfold binA
          rw [Bool.eq_false_iff]
          intro h
          rw [List.all_eq_true] at h
          have := h _ (List.getElem_mem hlt)
          rw [hbt] at this; cases this)
        clear hbt
        go_wp2_with fail
        go_ret
        exact ⟨⟨_, rfl, by rw [HBT.out]; simp⟩, H1.out⟩
    · obtain rfl : k = ss.length := by omega
      have hd : decide ((ss.length : Int) < (ss.length : Int)) = false := by simp
      have HBA := Lib.hid (show binA ss = true by have := HA.out; rwa [List.take_length] at this)
      clear hb
      go_wp2_with fail
      go_ret
      exact ⟨⟨_, rfl, by rw [HBA.out]; rfl⟩, HB.out⟩

theorem containsFunc_any (a : Option Addr) (c : Nat) (ss : List ByteArray) (w : World) (hrow : SRow w a ss) (hlen : ss.length ≤ 9223372036854775807) :
    Calls Tryd.prog 41 #[.slice a ss.length c, .func (.func 42) #[] #[]] w
      fun e w' => e = .returned (.bool (!binA ss)) ∧ Below w.heap.size w w' := by
  go_enter Tryd.func41, Tryd.ntmps41
  go_wp2_with fail
  refine (indexFunc_any a c ss w hrow hlen).mono ?_
  rintro e x1 ⟨⟨z, rfl, hz⟩, h1⟩
  have H1 := Lib.hid h1; clear h1
  have HZ := Lib.hid hz; clear hz
  go_wp2_with fail
  go_ret
  exact ⟨by rw [HZ.out]; rfl, H1.out⟩
end Go.Proofs.YtdalcopbaaabiaaDoor
