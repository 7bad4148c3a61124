/-
  The contract of digest.Check, and the plain functions of digests.
-/
import Derived.Test.YtdogepiddjoemaaBin
namespace Go.Proofs.Ytdogepiddjoemaa
open Go.RowKit

def bt (c : UInt8) : Nat := if c = 49 then 1 else 0
theorem bt_le (c : UInt8) : bt c ≤ 1 := by unfold bt; split <;> omega
def vlF (n : Nat) (l : List UInt8) : Nat := l.foldl (fun n c => 2 * n + bt c) n
def vl (l : List UInt8) : Nat := vlF 0 l
def gck (l : List UInt8) : Int := if l.length < 2 ∨ 33 < l.length then 4 else if l.all isB = true then (if l.getD 0 0 = 49 ∧ l.getD (l.length - 1) 0 = 49 then 0 else 3) else 13
theorem count_le (l : List UInt8) : l.count 48 + l.count 49 ≤ l.length ∧ (l.count 48 + l.count 49 = l.length ↔ l.all isB = true) := by
  induction l with
  | nil => simp
  | cons a l ih =>
    rw [List.count_cons, List.count_cons, List.all_cons, List.length_cons, Bool.and_eq_true]
    by_cases h0 : a = 48
    · subst h0
      have e : isB 48 = true := by decide
      simp only [e, true_and, show ((48 : UInt8) == 48) = true by decide, show ((48 : UInt8) == 49) = false by decide, if_true, Bool.false_eq_true, if_false]
      refine ⟨by omega, ?_⟩
      rw [← ih.2]; omega
    · by_cases h1 : a = 49
      · subst h1
        have e : isB 49 = true := by decide
        simp only [e, true_and, show ((49 : UInt8) == 49) = true by decide, show ((49 : UInt8) == 48) = false by decide, if_true, Bool.false_eq_true, if_false]
        refine ⟨by omega, ?_⟩
        rw [← ih.2]; omega
      · have e0 : (a == 48) = false := by simpa using h0
        have e1 : (a == 49) = false := by simpa using h1
        have e : isB a = false := by simp [isB, e0, e1]
        simp only [e0, e1, e, Bool.false_eq_true, if_false, false_and, iff_false]
        exact ⟨by omega, by omega⟩
theorem getD_at (s : ByteArray) (k : Nat) (h : k < s.size) : s.data.toList.getD k 0 = s[k] := by
  rw [List.getD_eq_getElem?_getD, List.getElem?_eq_getElem (by simpa using h)]; rfl
theorem ne49 {c : UInt8} (h : ¬ c = 49) : ((c.toNat : Int) != 49) = true := by
  rw [bne_iff_ne]; intro he; apply h; rw [← UInt8.toNat_inj]
  have e : (49 : UInt8).toNat = 49 := rfl
  omega
theorem eq49 {c : UInt8} (h : c = 49) : ((c.toNat : Int) != 49) = false := by rw [h]; rfl

set_option maxHeartbeats 1000000 in
set_option maxRecDepth 100000 in
theorem gCheck_any (g : ByteArray) (w : World) : Calls Try.prog 27 #[.string g] w fun e w' => e = .returned (.int .i64 (gck g.data.toList)) ∧ w = w' := by
  have e0 : g.data.toList.length = g.size := rfl
  by_cases h1 : g.size < 2
  · have HV := Lib.hid (show gck g.data.toList = 4 by rw [gck, if_pos (.inl (by omega))])
    clear e0
    go_enter Try.func27, Try.ntmps27
    go_wp2_with fail
    go_ret
    exact ⟨by rw [HV.out]; rfl, rfl⟩
  · by_cases h2 : 33 < g.size
    · have HV := Lib.hid (show gck g.data.toList = 4 by rw [gck, if_pos (.inr (by omega))])
      clear e0
      go_enter Try.func27, Try.ntmps27
      go_wp2_with fail
      go_ret
      exact ⟨by rw [HV.out]; rfl, rfl⟩
    · have hv : gck g.data.toList = if g.data.toList.all isB = true then (if g.data.toList.getD 0 0 = 49 ∧ g.data.toList.getD (g.data.toList.length - 1) 0 = 49 then 0 else 3) else 13 := by rw [gck, if_neg (by omega)]
      obtain ⟨hcl, hci⟩ := count_le g.data.toList
      rw [e0] at hcl hci hv
      have HV := Lib.hid hv; clear hv
      have HI := Lib.hid hci; clear hci
      have hz0 : 0 < g.size := by omega
      have hz1 : g.size - 1 < g.size := by omega
      obtain ⟨a, ha⟩ : ∃ a, g[0]'hz0 = a := ⟨_, rfl⟩
      obtain ⟨b, hb⟩ : ∃ b, g[g.size - 1]'hz1 = b := ⟨_, rfl⟩
      have HD0 := Lib.hid ((getD_at g 0 hz0).trans ha)
      have HD1 := Lib.hid ((getD_at g (g.size - 1) hz1).trans hb)
      have hC0 : Lib.countByte g.data.toList 48 = g.data.toList.count 48 := rfl
      have hC1 : Lib.countByte g.data.toList 49 = g.data.toList.count 49 := rfl
      obtain ⟨A, hA⟩ : ∃ A, g.data.toList.count 48 = A := ⟨_, rfl⟩
      obtain ⟨B, hB⟩ : ∃ B, g.data.toList.count 49 = B := ⟨_, rfl⟩
      rw [hA, hB] at HI hcl
      have HA := Lib.hid (hC0.trans hA)
      have HB := Lib.hid (hC1.trans hB)
      clear hA hB hC0 hC1 e0
      have hgl : ¬ g.size < 2 := h1
      by_cases hab : A + B = g.size
      · have HV2 := Lib.hid (show gck g.data.toList = if a = 49 ∧ b = 49 then 0 else 3 by rw [HV.out, if_pos (HI.out.1 hab), HD0.out, HD1.out])
        have ht : (((A : Int) + (B : Int)) != (g.size : Int)) = false := by simp; omega
        clear hab
        by_cases h49 : a = 49
        · have ht0 : (((g[0]'hz0).toNat : Int) != 49) = false := by rw [ha]; exact eq49 h49
          by_cases h50 : b = 49
          · have ht1 : (((g[g.size - 1]'hz1).toNat : Int) != 49) = false := by rw [hb]; exact eq49 h50
            have HV3 := Lib.hid (show gck g.data.toList = 0 by rw [HV2.out, if_pos ⟨h49, h50⟩])
            clear h49 h50 ha hb
            go_enter Try.func27, Try.ntmps27
            go_wp2_with fail
            refine (Try.strings_Count_one g 48 _).mono ?_
            rintro e w1 ⟨rfl, rfl⟩
            rw [HA.out]
            go_wp2_with fail
            refine (Try.strings_Count_one g 49 _).mono ?_
            rintro e w1 ⟨rfl, rfl⟩
            rw [HB.out]
            go_wp2_with fail
            go_ret
            exact ⟨by rw [HV3.out]; rfl, rfl⟩
          · have ht1 : (((g[g.size - 1]'hz1).toNat : Int) != 49) = true := by rw [hb]; exact ne49 h50
            have HV3 := Lib.hid (show gck g.data.toList = 3 by rw [HV2.out, if_neg (fun h => h50 h.2)])
            clear h49 h50 ha hb
            go_enter Try.func27, Try.ntmps27
            go_wp2_with fail
            refine (Try.strings_Count_one g 48 _).mono ?_
            rintro e w1 ⟨rfl, rfl⟩
            rw [HA.out]
            go_wp2_with fail
            refine (Try.strings_Count_one g 49 _).mono ?_
            rintro e w1 ⟨rfl, rfl⟩
            rw [HB.out]
            go_wp2_with fail
            go_ret
            exact ⟨by rw [HV3.out]; rfl, rfl⟩
        · have ht0 : (((g[0]'hz0).toNat : Int) != 49) = true := by rw [ha]; exact ne49 h49
          have HV3 := Lib.hid (show gck g.data.toList = 3 by rw [HV2.out, if_neg (fun h => h49 h.1)])
          clear h49 ha hb
          go_enter Try.func27, Try.ntmps27
          go_wp2_with fail
          refine (Try.strings_Count_one g 48 _).mono ?_
          rintro e w1 ⟨rfl, rfl⟩
          rw [HA.out]
          go_wp2_with fail
          refine (Try.strings_Count_one g 49 _).mono ?_
          rintro e w1 ⟨rfl, rfl⟩
          rw [HB.out]
          go_wp2_with fail
          go_ret
          exact ⟨by rw [HV3.out]; rfl, rfl⟩
      · have HV2 := Lib.hid (show gck g.data.toList = 13 by rw [HV.out, if_neg (fun h => hab (HI.out.2 h))])
        have ht : (((A : Int) + (B : Int)) != (g.size : Int)) = true := by simp; omega
        clear hab ha hb
        go_enter Try.func27, Try.ntmps27
        go_wp2_with fail
        refine (Try.strings_Count_one g 48 _).mono ?_
        rintro e w1 ⟨rfl, rfl⟩
        rw [HA.out]
        go_wp2_with fail
        refine (Try.strings_Count_one g 49 _).mono ?_
        rintro e w1 ⟨rfl, rfl⟩
        rw [HB.out]
        go_wp2_with fail
        go_ret
        exact ⟨by rw [HV2.out]; rfl, rfl⟩
end Go.Proofs.Ytdogepiddjoemaa
