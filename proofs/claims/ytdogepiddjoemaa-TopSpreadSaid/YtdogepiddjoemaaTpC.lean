/-
  The contract of the reference Check.
-/
import Derived.Test.YtdogepiddjoemaaDgG
namespace Go.Proofs.Ytdogepiddjoemaa
open Go.RowKit

theorem chk2_13 {l : List UInt8} (h1 : l.length ≤ 65536) (h2 : ¬ l.all isB = true) : chk 2 l = 13 := by
  have h3 : chk 2 l ≠ 0 := fun h => h2 ((chk2_iff l).1 h).2
  unfold chk at h3 ⊢
  rw [if_neg (by omega), if_neg (by omega)] at h3 ⊢
  split
  · rename_i h4; rw [if_pos h4] at h3; exact absurd rfl h3
  · rfl
set_option maxHeartbeats 1000000 in
theorem refGCheck_any (g : ByteArray) (w : World) : Calls Try.prog 5 #[.string g] w fun e w' => e = .returned (.int .i64 (gck g.data.toList)) ∧ w = w' := by
  have e0 : g.data.toList.length = g.size := rfl
  by_cases h1 : g.size < 2
  · have HV := Lib.hid (show gck g.data.toList = 4 by rw [gck, if_pos (.inl (by omega))])
    have hd : decide ((g.size : Int) < 2) = true := by simp; omega
    clear e0
    go_enter Try.func5, Try.ntmps5
    go_wp2_with fail
    go_ret
    exact ⟨by rw [HV.out]; rfl, rfl⟩
  · have hd : decide ((g.size : Int) < 2) = false := by simp; omega
    by_cases h2 : 33 < g.size
    · have HV := Lib.hid (show gck g.data.toList = 4 by rw [gck, if_pos (.inr (by omega))])
      have hd2 : decide ((33 : Int) < (g.size : Int)) = true := by simp; omega
      clear e0
      go_enter Try.func5, Try.ntmps5
      go_wp2_with fail
      go_ret
      exact ⟨by rw [HV.out]; rfl, rfl⟩
    · have hd2 : decide ((33 : Int) < (g.size : Int)) = false := by simp; omega
      have hv : gck g.data.toList = if g.data.toList.all isB = true then (if g.data.toList.getD 0 0 = 49 ∧ g.data.toList.getD (g.data.toList.length - 1) 0 = 49 then 0 else 3) else 13 := by rw [gck, if_neg (by omega)]
      by_cases hb : g.data.toList.all isB = true
      · rw [if_pos hb, e0] at hv
        have HC := Lib.hid ((chk2_iff g.data.toList).2 ⟨by omega, hb⟩)
        have hz0 : 0 < g.size := by omega
        have hz1 : g.size - 1 < g.size := by omega
        rw [getD_at g 0 hz0, getD_at g (g.size - 1) hz1] at hv
        by_cases h49 : g[0]'hz0 = 49
        · have ht0 : (((g[0]'hz0).toNat : Int) != 49) = false := eq49 h49
          by_cases h50 : g[g.size - 1]'hz1 = 49
          · have ht1 : (((g[g.size - 1]'hz1).toNat : Int) != 49) = false := eq49 h50
            have HV := Lib.hid (show gck g.data.toList = 0 by rw [hv, if_pos ⟨h49, h50⟩])
            clear h49 h50 hv hb e0
            go_enter Try.func5, Try.ntmps5
            go_wp2_with fail
            refine (refCheck_any _ _ _).mono ?_
            rintro e w1 ⟨rfl, rfl⟩
            rw [HC.out]
            go_wp2_with fail
            go_ret
            exact ⟨by rw [HV.out]; rfl, rfl⟩
          · have ht1 : (((g[g.size - 1]'hz1).toNat : Int) != 49) = true := ne49 h50
            have HV := Lib.hid (show gck g.data.toList = 3 by rw [hv, if_neg (fun h => h50 h.2)])
            clear h49 h50 hv hb e0
            go_enter Try.func5, Try.ntmps5
            go_wp2_with fail
            refine (refCheck_any _ _ _).mono ?_
            rintro e w1 ⟨rfl, rfl⟩
            rw [HC.out]
            go_wp2_with fail
            go_ret
            exact ⟨by rw [HV.out]; rfl, rfl⟩
        · have ht0 : (((g[0]'hz0).toNat : Int) != 49) = true := ne49 h49
          have HV := Lib.hid (show gck g.data.toList = 3 by rw [hv, if_neg (fun h => h49 h.1)])
          clear h49 hv hb e0
          go_enter Try.func5, Try.ntmps5
          go_wp2_with fail
          refine (refCheck_any _ _ _).mono ?_
          rintro e w1 ⟨rfl, rfl⟩
          rw [HC.out]
          go_wp2_with fail
          go_ret
          exact ⟨by rw [HV.out]; rfl, rfl⟩
      · have HV := Lib.hid (show gck g.data.toList = 13 by rw [hv, if_neg hb])
        have HC := Lib.hid (chk2_13 (l := g.data.toList) (by omega) hb)
        clear hv hb e0
        go_enter Try.func5, Try.ntmps5
        go_wp2_with fail
        refine (refCheck_any _ _ _).mono ?_
        rintro e w1 ⟨rfl, rfl⟩
        rw [HC.out]
        go_wp2_with fail
        go_ret
        exact ⟨by rw [HV.out]; rfl, rfl⟩
end Go.Proofs.Ytdogepiddjoemaa
