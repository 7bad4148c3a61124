/-
  The law of joining and splitting.
-/
import Derived.Test.YtagelndnhpijfaaRnU
namespace Go.Proofs.Ytagelndnhpijfaa
open Go.RowKit

set_option maxHeartbeats 4000000 in
set_option maxRecDepth 100000 in
theorem law_runsJoined (s : ByteArray) (a : Option Addr) (c : Nat) (l : List (Int × Int)) (t : Int) (w : World) (hrow : PRow w a l) (hl : l.length ≤ 9223372036854775807) (hwf : ∀ p ∈ l, p.2 ≤ 9223372036854775807) (ht : (Lit.int .u8 t).wf = true) :
    Calls Try.prog 9 #[.string s, .slice a l.length c, .int .u8 t] w fun e w' => e = .returned (.bool true) ∧ Below w.heap.size w w' := by
  have HR := Lib.hid hrow; clear hrow
  simp [Lit.wf, IntKind.min, IntKind.max, IntKind.signed, IntKind.bits] at ht
  obtain ⟨T, rfl⟩ : ∃ T : Nat, t = T := ⟨t.toNat, by omega⟩
  have e1 : ((T : Int)).tmod 16 = ((T % 16 : Nat) : Int) := by rw [Int.tmod_eq_emod_of_nonneg (by omega)]; omega
  have hT : T % 16 < 16 := Nat.mod_lt _ (by omega)
  generalize T % 16 = q at *
  generalize hg : grt s.size = g
  have HG := Lib.hid hg; clear hg
  generalize hg2 : grl l = g2
  have HG2 := Lib.hid hg2; clear hg2
  cases g with
  | true =>
    go_enter Try.func9, Try.ntmps9
    go_wp2_with fail
    refine (great_any _ _).mono ?_
    rintro e w1 ⟨rfl, rfl⟩
    rw [HG.out]
    go_wp2_with fail
    refine (awake_any _).mono ?_
    rintro e w2 ⟨rfl, hb⟩
    have HB := Lib.hid hb; clear hb
    go_wp2_with fail
    go_ret
    exact ⟨rfl, HB.out⟩
  | false =>
    cases g2 with
    | true =>
      go_enter Try.func9, Try.ntmps9
      go_wp2_with fail
      refine (great_any _ _).mono ?_
      rintro e w1 ⟨rfl, rfl⟩
      rw [HG.out]
      go_wp2_with fail
      refine (greatList_any _ _ _ _ HR.out hl).mono ?_
      rintro e w1 ⟨rfl, rfl⟩
      rw [HG2.out]
      go_wp2_with fail
      refine (awake_any _).mono ?_
      rintro e w2 ⟨rfl, hb⟩
      have HB := Lib.hid hb; clear hb
      go_wp2_with fail
      go_ret
      exact ⟨rfl, HB.out⟩
    | false =>
      have hl12 : l.length ≤ 12 := by
        have := HG2.out
        simp only [grl, Bool.or_eq_false_iff, decide_eq_false_iff_not] at this
        omega
      by_cases hck : chk 16 s.data.toList = 0
      · have HCK := Lib.hid hck
        clear hck
        by_cases hj0 : jnE l = 0
        · have HSJ := Lib.hid (split_join hj0)
          have HJ0 := Lib.hid hj0
          have HJO := Lib.hid (show jnO l = joL l by rw [jnO, if_pos hj0])
          clear hj0
          go_enter Try.func9, Try.ntmps9
          go_wp2_with fail
          refine (great_any _ _).mono ?_
          rintro e w1 ⟨rfl, rfl⟩
          rw [HG.out]
          go_wp2_with fail
          refine (greatList_any _ _ _ _ HR.out hl).mono ?_
          rintro e w1 ⟨rfl, rfl⟩
          rw [HG2.out]
          go_wp2_with fail
          refine (Join_any _ _ _ _ HR.out (by omega) hwf).mono ?_
          rintro e w2 ⟨rfl, hb⟩
          have HR2 := Lib.hid (HR.out.below hb)
          have HB2 := Lib.hid hb; clear hb
          rw [HJ0.out, HJO.out]
          go_wp2_with fail
          refine (Split_any _ _).mono ?_
          rintro e w3 ⟨v3, rfl, ho, hb⟩
          rw [show chk 16 (⟨(joL l).toArray⟩ : ByteArray).data.toList = 0 from HSJ.out.1]
          have HV3 := Lib.hid (show HoldsP w3 v3 l by have h := ho.holds; rwa [show spV (⟨(joL l).toArray⟩ : ByteArray).data.toList = l from HSJ.out.2] at h); clear ho
          have HR3 := Lib.hid (HR2.out.below hb)
          have HB3 := Lib.hid (HB2.out.trans (hb.mono HB2.out.size)); clear hb
          go_wp2_with fail
          refine (Same_any _ _ _ _ _ HV3.out ⟨a, c, rfl, HR3.out⟩ (by omega) (by omega)).mono ?_
          rintro e w4 ⟨rfl, n4, rfl⟩
          rw [decide_eq_true rfl]
          have HB4 := Lib.hid (below_drewN HB3.out n4)
          go_wp2_with fail
          refine (Split_any _ _).mono ?_
          rintro e w5 ⟨v5, rfl, ho, hb⟩
          rw [HCK.out]
          have HB5 := Lib.hid (HB4.out.trans (hb.mono HB4.out.size)); clear hb
          obtain ⟨a5, c5, rfl, hc⟩ := ho.holds
          clear ho
          have HC5 := Lib.hid hc; clear hc
          have hsl := spV_len s.data.toList
          have HJS := Lib.hid (join_split HCK.out)
          have HPW := Lib.hid (show ∀ p ∈ spV s.data.toList, p.2 ≤ 9223372036854775807 from fun p hp => by have := ((joE_ok _ _ _ HJS.out.1).1 p hp).2.2.2; omega)
          have HLG := Lib.hid (show lgE (q : Int) s.data.toList = 0 ∧ lgV (q : Int) s.data.toList = mxL (q : Int) (spV s.data.toList) (spV s.data.toList).length by
            have h := lg_in (t := (q : Int)) HCK.out (by omega)
            rw [spV_ok HCK.out]; exact h)
          have HJE := Lib.hid HJS.out.1
          have HJL := Lib.hid (show jnO (spV s.data.toList) = s.data.toList by rw [jnO, if_pos HJS.out.1]; exact HJS.out.2)
          generalize spV s.data.toList = m at *
          go_wp2_with fail
          refine (Join_any _ _ _ _ HC5.out (by omega) HPW.out).mono ?_
          rintro e w6 ⟨rfl, hb⟩
          rw [HJE.out, HJL.out, show (⟨s.data.toList.toArray⟩ : ByteArray) = s from by simp]
          have HC6 := Lib.hid (show ∀ j (h : j < m.length), ∃ g o, a5 = some ⟨g, o, none⟩ ∧ w6.cell? ⟨g, o + j * 2, none⟩ = some (.int .i64 m[j].1) ∧ w6.cell? ⟨g, o + j * 2 + 1, none⟩ = some (.int .i64 m[j].2) from (show PRow w5 a5 m from HC5.out).below hb)
          have HB6 := Lib.hid (HB5.out.trans (hb.mono HB5.out.size)); clear hb
          go_wp2_with fail
          go_loopw [15, 67] (fun u i wr => ∃ j : Nat, j ≤ m.length ∧ i = .int .i64 j ∧ u = .int .i64 (mxL (q : Int) m j) ∧ Below w6.heap.size w6 wr) (fun _ i _ => m.length - (intOf i).toNat)
          case atStart => exact ⟨0, by omega, rfl, rfl, Below.refl _ _⟩
          case round =>
            obtain ⟨j, hj, rfl, rfl, hbb⟩ := hrel
            have HBB := Lib.hid hbb; clear hbb
            by_cases hlt : j < m.length
            · obtain ⟨g, o, rfl, h1, h2⟩ := HC6.out j hlt
              have c1 := cell_below h1 HBB.out (cell_lt h1)
              have c2 := cell_below h2 HBB.out (cell_lt h2)
              have HM := Lib.hid (show mxL (q : Int) m (j + 1) = if m[j].1 = (q : Int) then max (mxL (q : Int) m j) m[j].2 else mxL (q : Int) m j by rw [mxL, getD_pair hlt])
              generalize m[j] = p at *
              obtain ⟨p1, p2⟩ := p
              clear h1 h2
              by_cases hp : p1 = (q : Int)
              · have hq : (p1 == (q : Int)) = true := by simpa using hp
                have HM2 := Lib.hid (show mxL (q : Int) m (j + 1) = max (mxL (q : Int) m j) p2 by rw [HM.out]; exact if_pos hp)
                clear hp
                go_wp2_with fail
                go_roundw
                case rel => exact ⟨j + 1, by omega, by go_num, by rw [HM2.out], HBB.out.alloc HBB.out.size _⟩
                case measure => simp [intOf]; omega
              · have hq : (p1 == (q : Int)) = false := by simpa using hp
                have HM2 := Lib.hid (show mxL (q : Int) m (j + 1) = mxL (q : Int) m j by rw [HM.out]; exact if_neg hp)
                clear hp
                go_wp2_with fail
                go_roundw
                case rel => exact ⟨j + 1, by omega, by go_num, by rw [HM2.out], HBB.out.alloc HBB.out.size _⟩
                case measure => simp [intOf]; omega
            · obtain rfl : j = m.length := by omega
              have hd : decide ((m.length : Int) < (m.length : Int)) = false := by simp
              have HBW := Lib.hid (HB6.out.trans (HBB.out.mono HB6.out.size))
              go_wp2_with fail
              refine (Longest_any _ _ _).mono ?_
              rintro e w7 ⟨rfl, hb⟩
              rw [HLG.out.1, HLG.out.2]
              have HB7 := Lib.hid (HBW.out.trans (hb.mono HBW.out.size)); clear hb
              go_wp2_with fail
              refine (awake_any _).mono ?_
              rintro e w8 ⟨rfl, hb⟩
              have HB8 := Lib.hid (HB7.out.trans (hb.mono HB7.out.size)); clear hb
              go_wp2_with fail
              go_ret
              exact ⟨rfl, HB8.out⟩
        · have hjb : (jnE l == 0) = false := by simpa using hj0
          clear hj0
          go_enter Try.func9, Try.ntmps9
          go_wp2_with fail
          refine (great_any _ _).mono ?_
          rintro e w1 ⟨rfl, rfl⟩
          rw [HG.out]
          go_wp2_with fail
          refine (greatList_any _ _ _ _ HR.out hl).mono ?_
          rintro e w1 ⟨rfl, rfl⟩
          rw [HG2.out]
          go_wp2_with fail
          refine (Join_any _ _ _ _ HR.out (by omega) hwf).mono ?_
          rintro e w2 ⟨rfl, hb⟩
          have HR2 := Lib.hid (HR.out.below hb)
          have HB2 := Lib.hid hb; clear hb
          have HB4 := HB2
          go_wp2_with fail
          refine (Split_any _ _).mono ?_
          rintro e w5 ⟨v5, rfl, ho, hb⟩
          rw [HCK.out]
          have HB5 := Lib.hid (HB4.out.trans (hb.mono HB4.out.size)); clear hb
          obtain ⟨a5, c5, rfl, hc⟩ := ho.holds
          clear ho
          have HC5 := Lib.hid hc; clear hc
          have hsl := spV_len s.data.toList
          have HJS := Lib.hid (join_split HCK.out)
          have HPW := Lib.hid (show ∀ p ∈ spV s.data.toList, p.2 ≤ 9223372036854775807 from fun p hp => by have := ((joE_ok _ _ _ HJS.out.1).1 p hp).2.2.2; omega)
          have HLG := Lib.hid (show lgE (q : Int) s.data.toList = 0 ∧ lgV (q : Int) s.data.toList = mxL (q : Int) (spV s.data.toList) (spV s.data.toList).length by
            have h := lg_in (t := (q : Int)) HCK.out (by omega)
            rw [spV_ok HCK.out]; exact h)
          have HJE := Lib.hid HJS.out.1
          have HJL := Lib.hid (show jnO (spV s.data.toList) = s.data.toList by rw [jnO, if_pos HJS.out.1]; exact HJS.out.2)
          generalize spV s.data.toList = m at *
          go_wp2_with fail
          refine (Join_any _ _ _ _ HC5.out (by omega) HPW.out).mono ?_
          rintro e w6 ⟨rfl, hb⟩
          rw [HJE.out, HJL.out, show (⟨s.data.toList.toArray⟩ : ByteArray) = s from by simp]
          have HC6 := Lib.hid (show ∀ j (h : j < m.length), ∃ g o, a5 = some ⟨g, o, none⟩ ∧ w6.cell? ⟨g, o + j * 2, none⟩ = some (.int .i64 m[j].1) ∧ w6.cell? ⟨g, o + j * 2 + 1, none⟩ = some (.int .i64 m[j].2) from (show PRow w5 a5 m from HC5.out).below hb)
          have HB6 := Lib.hid (HB5.out.trans (hb.mono HB5.out.size)); clear hb
          go_wp2_with fail
          go_loopw [15, 67] (fun u i wr => ∃ j : Nat, j ≤ m.length ∧ i = .int .i64 j ∧ u = .int .i64 (mxL (q : Int) m j) ∧ Below w6.heap.size w6 wr) (fun _ i _ => m.length - (intOf i).toNat)
          case atStart => exact ⟨0, by omega, rfl, rfl, Below.refl _ _⟩
          case round =>
            obtain ⟨j, hj, rfl, rfl, hbb⟩ := hrel
            have HBB := Lib.hid hbb; clear hbb
            by_cases hlt : j < m.length
            · obtain ⟨g, o, rfl, h1, h2⟩ := HC6.out j hlt
              have c1 := cell_below h1 HBB.out (cell_lt h1)
              have c2 := cell_below h2 HBB.out (cell_lt h2)
              have HM := Lib.hid (show mxL (q : Int) m (j + 1) = if m[j].1 = (q : Int) then max (mxL (q : Int) m j) m[j].2 else mxL (q : Int) m j by rw [mxL, getD_pair hlt])
              generalize m[j] = p at *
              obtain ⟨p1, p2⟩ := p
              clear h1 h2
              by_cases hp : p1 = (q : Int)
              · have hq : (p1 == (q : Int)) = true := by simpa using hp
                have HM2 := Lib.hid (show mxL (q : Int) m (j + 1) = max (mxL (q : Int) m j) p2 by rw [HM.out]; exact if_pos hp)
                clear hp
                go_wp2_with fail
                go_roundw
                case rel => exact ⟨j + 1, by omega, by go_num, by rw [HM2.out], HBB.out.alloc HBB.out.size _⟩
                case measure => simp [intOf]; omega
              · have hq : (p1 == (q : Int)) = false := by simpa using hp
                have HM2 := Lib.hid (show mxL (q : Int) m (j + 1) = mxL (q : Int) m j by rw [HM.out]; exact if_neg hp)
                clear hp
                go_wp2_with fail
                go_roundw
                case rel => exact ⟨j + 1, by omega, by go_num, by rw [HM2.out], HBB.out.alloc HBB.out.size _⟩
                case measure => simp [intOf]; omega
            · obtain rfl : j = m.length := by omega
              have hd : decide ((m.length : Int) < (m.length : Int)) = false := by simp
              have HBW := Lib.hid (HB6.out.trans (HBB.out.mono HB6.out.size))
              go_wp2_with fail
              refine (Longest_any _ _ _).mono ?_
              rintro e w7 ⟨rfl, hb⟩
              rw [HLG.out.1, HLG.out.2]
              have HB7 := Lib.hid (HBW.out.trans (hb.mono HBW.out.size)); clear hb
              go_wp2_with fail
              refine (awake_any _).mono ?_
              rintro e w8 ⟨rfl, hb⟩
              have HB8 := Lib.hid (HB7.out.trans (hb.mono HB7.out.size)); clear hb
              go_wp2_with fail
              go_ret
              exact ⟨rfl, HB8.out⟩
      · have HCK := Lib.hid hck
        have hckb : (chk 16 s.data.toList != 0) = true := by simpa using hck
        clear hck
        by_cases hj0 : jnE l = 0
        · have HSJ := Lib.hid (split_join hj0)
          have HJ0 := Lib.hid hj0
          have HJO := Lib.hid (show jnO l = joL l by rw [jnO, if_pos hj0])
          clear hj0
          go_enter Try.func9, Try.ntmps9
          go_wp2_with fail
          refine (great_any _ _).mono ?_
          rintro e w1 ⟨rfl, rfl⟩
          rw [HG.out]
          go_wp2_with fail
          refine (greatList_any _ _ _ _ HR.out hl).mono ?_
          rintro e w1 ⟨rfl, rfl⟩
          rw [HG2.out]
          go_wp2_with fail
          refine (Join_any _ _ _ _ HR.out (by omega) hwf).mono ?_
          rintro e w2 ⟨rfl, hb⟩
          have HR2 := Lib.hid (HR.out.below hb)
          have HB2 := Lib.hid hb; clear hb
          rw [HJ0.out, HJO.out]
          go_wp2_with fail
          refine (Split_any _ _).mono ?_
          rintro e w3 ⟨v3, rfl, ho, hb⟩
          rw [show chk 16 (⟨(joL l).toArray⟩ : ByteArray).data.toList = 0 from HSJ.out.1]
          have HV3 := Lib.hid (show HoldsP w3 v3 l by have h := ho.holds; rwa [show spV (⟨(joL l).toArray⟩ : ByteArray).data.toList = l from HSJ.out.2] at h); clear ho
          have HR3 := Lib.hid (HR2.out.below hb)
          have HB3 := Lib.hid (HB2.out.trans (hb.mono HB2.out.size)); clear hb
          go_wp2_with fail
          refine (Same_any _ _ _ _ _ HV3.out ⟨a, c, rfl, HR3.out⟩ (by omega) (by omega)).mono ?_
          rintro e w4 ⟨rfl, n4, rfl⟩
          rw [decide_eq_true rfl]
          have HB4 := Lib.hid (below_drewN HB3.out n4)
          go_wp2_with fail
          refine (Split_any _ _).mono ?_
          rintro e w5 ⟨v5, rfl, ho, hb⟩
          rw [spV_no HCK.out] at ho
          obtain ⟨a5, c5, rfl, _⟩ := ho.holds
          have HB5 := Lib.hid (HB4.out.trans (hb.mono HB4.out.size)); clear hb ho
          go_wp2_with fail
          refine (awake_any _).mono ?_
          rintro e w6 ⟨rfl, hb⟩
          have HB6 := Lib.hid (HB5.out.trans (hb.mono HB5.out.size)); clear hb
          go_wp2_with fail
          go_ret
          exact ⟨rfl, HB6.out⟩
        · have hjb : (jnE l == 0) = false := by simpa using hj0
          clear hj0
          go_enter Try.func9, Try.ntmps9
          go_wp2_with fail
          refine (great_any _ _).mono ?_
          rintro e w1 ⟨rfl, rfl⟩
          rw [HG.out]
          go_wp2_with fail
          refine (greatList_any _ _ _ _ HR.out hl).mono ?_
          rintro e w1 ⟨rfl, rfl⟩
          rw [HG2.out]
          go_wp2_with fail
          refine (Join_any _ _ _ _ HR.out (by omega) hwf).mono ?_
          rintro e w2 ⟨rfl, hb⟩
          have HR2 := Lib.hid (HR.out.below hb)
          have HB2 := Lib.hid hb; clear hb
          have HB4 := HB2
          go_wp2_with fail
          refine (Split_any _ _).mono ?_
          rintro e w5 ⟨v5, rfl, ho, hb⟩
          rw [spV_no HCK.out] at ho
          obtain ⟨a5, c5, rfl, _⟩ := ho.holds
          have HB5 := Lib.hid (HB4.out.trans (hb.mono HB4.out.size)); clear hb ho
          go_wp2_with fail
          refine (awake_any _).mono ?_
          rintro e w6 ⟨rfl, hb⟩
          have HB6 := Lib.hid (HB5.out.trans (hb.mono HB5.out.size)); clear hb
          go_wp2_with fail
          go_ret
          exact ⟨rfl, HB6.out⟩
end Go.Proofs.Ytagelndnhpijfaa
