/-
  The law of the charges of a word that is put together.
-/
import Derived.Test.YtagelndnhpijfaaRnL
namespace Go.Proofs.Ytagelndnhpijfaa
open Go.RowKit

theorem chS_app1 (v w : List UInt8) : ∀ k, k ≤ v.length → chS (v ++ w) k = chS v k
  | 0, _ => rfl
  | k + 1, h => by
    rw [chS, chS, chS_app1 v w k (by omega)]
    congr 2
    rw [List.getD_eq_getElem?_getD, List.getD_eq_getElem?_getD, List.getElem?_append_left (by omega)]
theorem chS_app2 (v w : List UInt8) : ∀ k, k ≤ w.length → chS (v ++ w) (v.length + k) = chS v v.length + chS w k
  | 0, _ => by rw [Nat.add_zero, chS_app1 _ _ _ (Nat.le_refl _)]; simp [chS]
  | k + 1, h => by
    rw [← Nat.add_assoc, chS, chS, chS_app2 v w k (by omega), Int.add_assoc]
    congr 3
    rw [List.getD_eq_getElem?_getD, List.getD_eq_getElem?_getD, List.getElem?_append_right (by omega)]
    congr 2; omega
theorem chS_next (l : List UInt8) (k : Nat) : chS l (k + 1) - chS l k = 1 ∨ chS l (k + 1) - chS l k = -1 := by
  rw [chS, stp]; split <;> omega
theorem chk2_app {v w : List UInt8} (hv : chk 2 v = 0) (hw : chk 2 w = 0) (h : v.length + w.length ≤ 65536) : chk 2 (v ++ w) = 0 := by
  rw [chk2_iff] at *
  exact ⟨by simp; omega, by rw [List.all_append, hv.2, hw.2]; rfl⟩
theorem dsV_ok {l : List UInt8} (h : chk 2 l = 0) : dsV l = chS l l.length := by
  rw [dsV, if_pos h, chS_all]
/-- What the slice of the charges is. -/
theorem chg_parts {w : World} {B : Nat} {v : Value} {l : List UInt8} (h : Own w B 3 v (ints (chgV l))) (hc : chk 2 l = 0) :
    ∃ g c, v = .slice (some ⟨g, 0, none⟩) (l.length + 1) c ∧ ∀ j, j ≤ l.length → w.cell? ⟨g, j, none⟩ = some (.int .i64 (chS l j)) := by
  rw [chgV_ok hc] at h
  rcases h.cases with ⟨h1, h2⟩ | ⟨g, cap, h1, _, _, _, h5, _⟩
  · have := congrArg List.length h2
    rw [ints_len, chL_len] at this; simp at this
  · refine ⟨g, cap, by rw [h1, ints_len, chL_len], fun j hj => ?_⟩
    rw [h5 j (by rw [ints_len, chL_len]; omega), ints_get, chL_get _ _ _ hj]; rfl

set_option maxHeartbeats 1000000 in
set_option maxRecDepth 100000 in
theorem law_runsAdded (s t : ByteArray) (_w0 : s.size ≤ maxLen) (_w1 : t.size ≤ maxLen) (w : World) :
    Calls Try.prog 5 #[.string s, .string t] w fun e w' => e = .returned (.bool true) ∧ Below w.heap.size w w' := by
  generalize hg : grt s.size = g
  generalize hg' : grt t.size = g'
  have HG := Lib.hid hg; clear hg
  have HG' := Lib.hid hg'; clear hg'
  have leave : ∀ w1 : World, Below w.heap.size w w1 → True := fun _ _ => trivial
  clear leave
  cases g with
  | true =>
    go_enter Try.func5, Try.ntmps5
    go_wp2_with fail
    refine (great_any _ _).mono ?_
    rintro e w1 ⟨rfl, rfl⟩
    rw [HG.out]
    go_wp2_with fail
    refine (awake_any _).mono ?_
    rintro e w2 ⟨rfl, hb⟩
    have HB := Lib.hid hb; clear hb
    go_wp2_with fail
    go_ret
    exact ⟨rfl, HB.out⟩
  | false =>
    cases g' with
    | true =>
      go_enter Try.func5, Try.ntmps5
      go_wp2_with fail
      refine (great_any _ _).mono ?_
      rintro e w1 ⟨rfl, rfl⟩
      rw [HG.out]
      go_wp2_with fail
      refine (great_any _ _).mono ?_
      rintro e w1 ⟨rfl, rfl⟩
      rw [HG'.out]
      go_wp2_with fail
      refine (awake_any _).mono ?_
      rintro e w2 ⟨rfl, hb⟩
      have HB := Lib.hid hb; clear hb
      go_wp2_with fail
      go_ret
      exact ⟨rfl, HB.out⟩
    | false =>
      by_cases hc : chk 2 s.data.toList = 0
      · by_cases hc2 : chk 2 t.data.toList = 0
        · have hs : s.size ≤ 60 := small HG.out rfl hc
          have ht : t.size ≤ 60 := small HG'.out rfl hc2
          have hcat : ¬ 9223372036854775807 < s.size + t.size := by omega
          have HST := Lib.hid (show (s ++ t).data.toList = s.data.toList ++ t.data.toList by rw [ByteArray.data_append, Array.toList_append])
          have H3 := Lib.hid (show chk 2 (s.data.toList ++ t.data.toList) = 0 from chk2_app hc hc2 (by have e : s.data.toList.length = s.size := rfl; have e' : t.data.toList.length = t.size := rfl; omega))
          have HDS := Lib.hid (dsV_ok hc)
          have HC := Lib.hid hc; clear hc
          have HC2 := Lib.hid hc2; clear hc2
          go_enter Try.func5, Try.ntmps5
          go_wp2_with fail
          refine (great_any _ _).mono ?_
          rintro e w1 ⟨rfl, rfl⟩
          rw [HG.out]
          go_wp2_with fail
          refine (great_any _ _).mono ?_
          rintro e w1 ⟨rfl, rfl⟩
          rw [HG'.out]
          go_wp2_with fail
          refine (refCheck_any _ _ _).mono ?_
          rintro e w1 ⟨rfl, rfl⟩
          rw [HC.out]
          go_wp2_with fail
          refine (refCheck_any _ _ _).mono ?_
          rintro e w1 ⟨rfl, rfl⟩
          rw [HC2.out]
          go_wp2_with fail
          refine (Charges_any _ _).mono ?_
          rintro e w2 ⟨a, rfl, ha, hb⟩
          rw [HC.out]
          have HA2 := Lib.hid ha; clear ha
          have HB2 := Lib.hid hb; clear hb
          go_wp2_with fail
          refine (Charges_any _ _).mono ?_
          rintro e w3 ⟨b, rfl, ha, hb⟩
          rw [HC2.out]
          have HV3 := Lib.hid ha; clear ha
          have HA3 := Lib.hid (HA2.out.below hb)
          have HB3 := Lib.hid (HB2.out.trans (hb.mono HB2.out.size)); clear hb HB2 HA2
          go_wp2_with fail
          refine (Charges_any _ _).mono ?_
          rintro e w4 ⟨c, rfl, ha, hb⟩
          rw [HST.out] at ha ⊢
          rw [H3.out]
          have HW4 := Lib.hid ha; clear ha
          have HV4 := Lib.hid (HV3.out.below hb)
          have HA4 := Lib.hid (HA3.out.below hb)
          have HB4 := Lib.hid (HB3.out.trans (hb.mono HB3.out.size)); clear hb HB3 HA3 HV3
          go_wp2_with fail
          refine (Disparity_any _ _).mono ?_
          rintro e w5 ⟨rfl, hb⟩
          rw [HC.out]
          have HW5 := Lib.hid (HW4.out.below hb)
          have HV5 := Lib.hid (HV4.out.below hb)
          have HA5 := Lib.hid (HA4.out.below hb)
          have HB5 := Lib.hid (HB4.out.trans (hb.mono HB4.out.size)); clear hb HB4 HA4 HV4 HW4
          rw [HDS.out]
          obtain ⟨g1, c1, rfl, hq1⟩ := chg_parts HA5.out HC.out
          obtain ⟨g2, c2, rfl, hq2⟩ := chg_parts HV5.out HC2.out
          obtain ⟨g3, c3, rfl, hq3⟩ := chg_parts HW5.out H3.out
          have Q1 := Lib.hid hq1; clear hq1
          have Q2 := Lib.hid hq2; clear hq2
          have Q3 := Lib.hid hq3; clear hq3
          have e1 : s.data.toList.length = s.size := rfl
          have e2 : t.data.toList.length = t.size := rfl
          rw [List.length_append] at Q3 ⊢
          rw [e1] at Q1 Q3 ⊢
          rw [e2] at Q2 Q3 ⊢
          have N1 := Lib.hid (show ∀ k, k ≤ s.size → chS (s.data.toList ++ t.data.toList) k = chS s.data.toList k from fun k h => chS_app1 s.data.toList t.data.toList k h)
          have N2 := Lib.hid (show ∀ k, k ≤ t.size → chS (s.data.toList ++ t.data.toList) (s.size + k) = chS s.data.toList s.size + chS t.data.toList k from fun k h => chS_app2 s.data.toList t.data.toList k h)
          have N3 := Lib.hid (fun k => chS_next (s.data.toList ++ t.data.toList) k)
          have N4 := Lib.hid (fun k => chS_bd (s.data.toList ++ t.data.toList) k)
          have N5 := Lib.hid (fun k => chS_bd t.data.toList k)
          have N6 := Lib.hid (fun k => chS_bd s.data.toList k)
          clear e1 e2 HA5 HV5 HW5 HDS HST
          generalize s.data.toList ++ t.data.toList = u at *
          go_wp2_with fail
          go_loopw [89] (fun i wr => ∃ j : Nat, j ≤ s.size + t.size + 1 ∧ i = .int .i64 j ∧ wr = w5) (fun i _ => s.size + t.size + 1 - (intOf i).toNat)
          case atStart => exact ⟨0, by omega, rfl, rfl⟩
          case round =>
            obtain ⟨j, hj, rfl, hw⟩ := hrel
            have Q1 := Lib.hid (by have := Q1.out; rw [← hw] at this; exact this)
            have Q2 := Lib.hid (by have := Q2.out; rw [← hw] at this; exact this)
            have Q3 := Lib.hid (by have := Q3.out; rw [← hw] at this; exact this)
            have HB5 := Lib.hid (by have := HB5.out; rw [← hw] at this; exact this)
            have HWR := Lib.hid hw; clear hw
            by_cases hlt : j < s.size + t.size + 1
            · have c3 := Q3.out j (by omega)
              have b3 := N4.out j
              have hnb : j = 0 ∨ ∃ i, j = i + 1 ∧ wr.cell? ⟨g3, i, none⟩ = some (.int .i64 (chS u i)) ∧ (chS u j - chS u i = 1 ∨ chS u j - chS u i = -1) ∧ (-(i : Int) ≤ chS u i ∧ chS u i ≤ i) := by
                rcases j with _ | i
                · exact .inl rfl
                · exact .inr ⟨i, rfl, Q3.out i (by omega), N3.out i, N4.out i⟩
              have HNB := Lib.hid hnb; clear hnb
              rcases Nat.lt_trichotomy j s.size with hp | hp | hp
              · have ca := Q1.out j (by omega)
                rw [← N1.out j (by omega)] at ca
                have q1 : j < s.size + 1 := by omega
                have d1 : decide ((j : Int) < (s.size : Int) + 1) = true := by simp; omega
                have d1' : decide (j < s.size + 1) = true := by simp; omega
                have d2 : decide ((s.size : Int) ≤ (j : Int)) = false := by simp; omega
                have d2' : decide (s.size ≤ j) = false := by simp; omega
                generalize chS u j = x at *
                rcases HNB.out with h0 | ⟨i, hi, ci, hdf, bi⟩
                · have di : decide ((0 : Int) < (j : Int)) = false := by simp; omega
                  have di2 : decide (0 < j) = false := by simp; omega
                  have H0 := Lib.hid h0; clear h0
                  have HP := Lib.hid hp; clear hp
                  go_wp2_with fail
                  go_roundw
                  case rel => exact ⟨j + 1, by omega, by go_num, HWR.out⟩
                  case measure => simp [intOf]; omega
                · generalize chS u i = p at *
                  have di : decide ((0 : Int) < (j : Int)) = true := by simp; omega
                  have di2 : decide (0 < j) = true := by simp; omega
                  have hi2 : (j : Int) - 1 = (i : Int) := by omega
                  have hi3 : i ≤ 120 := by omega
                  have hi4 : i < s.size + t.size + 1 := by omega
                  have HI := Lib.hid hi; clear hi
                  have HP := Lib.hid hp; clear hp
                  rcases hdf with hdf | hdf
                  · -- 1
                    go_wp2_with fail
                    go_roundw
                    case rel => exact ⟨j + 1, by omega, by go_num, HWR.out⟩
                    case measure => simp [intOf]; omega
                  · -- -1
                    go_wp2_with fail
                    go_roundw
                    case rel => exact ⟨j + 1, by omega, by go_num, HWR.out⟩
                    case measure => simp [intOf]; omega
              · have hdd : chS u j = chS s.data.toList s.size := by rw [hp]; exact N1.out s.size (by omega)
                have hca : chS s.data.toList j = chS s.data.toList s.size := by rw [hp]
                have ca := Q1.out j (by omega)
                rw [hca] at ca
                rw [hdd] at c3 b3
                have HNB := Lib.hid (by have := HNB.out; rw [hdd] at this; exact this)
                clear hdd hca
                have q1 : j < s.size + 1 := by omega
                have q2 : j ≤ 60 := by omega
                have cb : wr.cell? ⟨g2, 0, none⟩ = some (.int .i64 0) := Q2.out 0 (by omega)
                have d1 : decide ((j : Int) < (s.size : Int) + 1) = true := by simp; omega
                have d1' : decide (j < s.size + 1) = true := by simp; omega
                have d2 : decide ((s.size : Int) ≤ (j : Int)) = true := by simp; omega
                have d2' : decide (s.size ≤ j) = true := by simp; omega
                have hjs : (j : Int) - (s.size : Int) = 0 := by omega
                generalize chS s.data.toList s.size = dd at *
                rcases HNB.out with h0 | ⟨i, hi, ci, hdf, bi⟩
                · have di : decide ((0 : Int) < (j : Int)) = false := by simp; omega
                  have di2 : decide (0 < j) = false := by simp; omega
                  have H0 := Lib.hid h0; clear h0
                  have HP := Lib.hid hp; clear hp
                  go_wp2_with fail
                  go_roundw
                  case rel => exact ⟨j + 1, by omega, by go_num, HWR.out⟩
                  case measure => simp [intOf]; omega
                · generalize chS u i = p at *
                  have di : decide ((0 : Int) < (j : Int)) = true := by simp; omega
                  have di2 : decide (0 < j) = true := by simp; omega
                  have hi2 : (j : Int) - 1 = (i : Int) := by omega
                  have hi3 : i ≤ 120 := by omega
                  have hi4 : i < s.size + t.size + 1 := by omega
                  have HI := Lib.hid hi; clear hi
                  have HP := Lib.hid hp; clear hp
                  rcases hdf with hdf | hdf
                  · -- 1
                    go_wp2_with fail
                    go_roundw
                    case rel => exact ⟨j + 1, by omega, by go_num, HWR.out⟩
                    case measure => simp [intOf]; omega
                  · -- -1
                    go_wp2_with fail
                    go_roundw
                    case rel => exact ⟨j + 1, by omega, by go_num, HWR.out⟩
                    case measure => simp [intOf]; omega
              · obtain ⟨k, hk⟩ : ∃ k, j = s.size + k := ⟨j - s.size, by omega⟩
                have cb := Q2.out k (by omega)
                have q1 : k < t.size + 1 := by omega
                have q2 : k ≤ 60 := by omega
                have bb := N5.out k
                have hx : chS u j = chS t.data.toList k + chS s.data.toList s.size := by rw [hk, N2.out k (by omega), Int.add_comm]
                have d1 : decide ((j : Int) < (s.size : Int) + 1) = false := by simp; omega
                have d1' : decide (j < s.size + 1) = false := by simp; omega
                have d2 : decide ((s.size : Int) ≤ (j : Int)) = true := by simp; omega
                have d2' : decide (s.size ≤ j) = true := by simp; omega
                have hjs : (j : Int) - (s.size : Int) = (k : Int) := by omega
                have b6 := N6.out s.size
                rw [hx] at c3 b3
                have HNB := Lib.hid (by have := HNB.out; rw [hx] at this; exact this)
                clear hx
                have HK := Lib.hid hk; clear hk
                generalize chS t.data.toList k = y at *
                generalize chS s.data.toList s.size = dd at *
                rcases HNB.out with h0 | ⟨i, hi, ci, hdf, bi⟩
                · have := hp; omega
                · generalize chS u i = p at *
                  have di : decide ((0 : Int) < (j : Int)) = true := by simp; omega
                  have di2 : decide (0 < j) = true := by simp; omega
                  have hi2 : (j : Int) - 1 = (i : Int) := by omega
                  have hi3 : i ≤ 120 := by omega
                  have hi4 : i < s.size + t.size + 1 := by omega
                  have HI := Lib.hid hi; clear hi
                  have HP := Lib.hid hp; clear hp
                  rcases hdf with hdf | hdf
                  · -- 1
                    go_wp2_with fail
                    go_roundw
                    case rel => exact ⟨j + 1, by omega, by go_num, HWR.out⟩
                    case measure => simp [intOf]; omega
                  · -- -1
                    go_wp2_with fail
                    go_roundw
                    case rel => exact ⟨j + 1, by omega, by go_num, HWR.out⟩
                    case measure => simp [intOf]; omega
            · obtain rfl : j = s.size + t.size + 1 := by omega
              have hd : decide (((s.size + t.size + 1 : Nat) : Int) < ((s.size + t.size + 1 : Nat) : Int)) = false := by simp
              go_wp2_with fail
              refine (awake_any _).mono ?_
              rintro e w9 ⟨rfl, hb⟩
              have HB9 := Lib.hid (HB5.out.trans (hb.mono HB5.out.size)); clear hb
              go_wp2_with fail
              go_ret
              exact ⟨rfl, HB9.out⟩
        · have hc' : (chk 2 t.data.toList != 0) = true := by simpa using hc2
          have HC := Lib.hid hc
          clear hc hc2
          go_enter Try.func5, Try.ntmps5
          go_wp2_with fail
          refine (great_any _ _).mono ?_
          rintro e w1 ⟨rfl, rfl⟩
          rw [HG.out]
          go_wp2_with fail
          refine (great_any _ _).mono ?_
          rintro e w1 ⟨rfl, rfl⟩
          rw [HG'.out]
          go_wp2_with fail
          refine (refCheck_any _ _ _).mono ?_
          rintro e w1 ⟨rfl, rfl⟩
          rw [HC.out]
          go_wp2_with fail
          refine (refCheck_any _ _ _).mono ?_
          rintro e w1 ⟨rfl, rfl⟩
          go_wp2_with fail
          refine (awake_any _).mono ?_
          rintro e w2 ⟨rfl, hb⟩
          have HB := Lib.hid hb; clear hb
          go_wp2_with fail
          go_ret
          exact ⟨rfl, HB.out⟩
      · have hc' : (chk 2 s.data.toList != 0) = true := by simpa using hc
        clear hc
        go_enter Try.func5, Try.ntmps5
        go_wp2_with fail
        refine (great_any _ _).mono ?_
        rintro e w1 ⟨rfl, rfl⟩
        rw [HG.out]
        go_wp2_with fail
        refine (great_any _ _).mono ?_
        rintro e w1 ⟨rfl, rfl⟩
        rw [HG'.out]
        go_wp2_with fail
        refine (refCheck_any _ _ _).mono ?_
        rintro e w1 ⟨rfl, rfl⟩
        go_wp2_with fail
        refine (awake_any _).mono ?_
        rintro e w2 ⟨rfl, hb⟩
        have HB := Lib.hid hb; clear hb
        go_wp2_with fail
        go_ret
        exact ⟨rfl, HB.out⟩
end Go.Proofs.Ytagelndnhpijfaa
