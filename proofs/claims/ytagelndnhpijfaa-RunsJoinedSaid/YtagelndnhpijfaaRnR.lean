/-
  The references Split and Longest, and GreatList.
-/
import Derived.Test.YtagelndnhpijfaaRnG
import Derived.Test.YtagelndnhpijfaaRnE
namespace Go.Proofs.Ytagelndnhpijfaa
open Go.RowKit

theorem rn_last (l : List UInt8) : ∀ k, k + 1 ≤ l.length → ∃ ini n, rnS l (k + 1) = ini ++ [(l.getD k 0, n)] ∧ n ≤ k + 1
  | 0, _ => ⟨[], 1, by rw [rnS_new l 0 (.inl rfl)]; rfl, by omega⟩
  | k + 1, hk => by
    obtain ⟨ini, n, h1, h2⟩ := rn_last l k (by omega)
    by_cases he : l.getD (k + 1) 0 = l.getD k 0
    · exact ⟨ini, n + 1, by rw [rnS, if_pos ⟨by omega, by simpa using he⟩, h1, bump_snoc, he], by omega⟩
    · exact ⟨ini ++ [(l.getD k 0, n)], 1, by rw [rnS_new l (k + 1) (.inr (by simpa using he)), h1], by omega⟩
theorem rp_more (l : List UInt8) (k : Nat) (hk : k + 1 < l.length) (he : l.getD (k + 1) 0 = l.getD k 0) : ∃ ini n, n ≤ k + 1 ∧ rp l (k + 1) = ini ++ [(digit (l.getD k 0), ((n : Nat) : Int))] ∧ rp l (k + 1 + 1) = ini ++ [(digit (l.getD k 0), ((n : Nat) : Int) + 1)] := by
  obtain ⟨ini, n, h1, h2⟩ := rn_last l k (by omega)
  refine ⟨ini.map fun p => (digit p.1, ((p.2 : Nat) : Int)), n, h2, by rw [rp, h1]; simp, ?_⟩
  rw [rp, rnS, if_pos ⟨by omega, by simpa using he⟩, h1, bump_snoc]
  simp
theorem rp_new (l : List UInt8) (k : Nat) (h : k = 0 ∨ l.getD k 0 ≠ l.getD (k - 1) 0) : rp l (k + 1) = rp l k ++ [(digit (l.getD k 0), 1)] := by
  rw [rp, rnS_new l k h]; simp [rp]
theorem pcells_snoc (l : List (Int × Int)) (p q : Int × Int) : ((pcells (l ++ [p])).set (l.length * 2) (.int .i64 q.1)).set (l.length * 2 + 1) (.int .i64 q.2) = pcells (l ++ [q]) := by
  rw [pcells_app, pcells_app]
  have h := pcells_len l
  rw [List.set_append_right _ _ (by omega), List.set_append_right _ _ (by omega), h]
  simp [pcells]
theorem take_set2 {α : Type} (l : List α) (n i : Nat) (a : α) : (l.set i a).take n = (l.take n).set i a := by
  rw [List.take_set]
theorem Own2.last {w : World} {base : Nat} {T : TypeId} {g cap : Nat} {l : List (Int × Int)} {p : Int × Int} (h : Own2 w base T (.slice (some ⟨g, 0, none⟩) (l.length + 1) cap) (l ++ [p])) (q : Int × Int) :
    Own2 ((w.setCell ⟨g, l.length * 2, none⟩ (.int .i64 q.1)).setCell ⟨g, l.length * 2 + 1, none⟩ (.int .i64 q.2)) base T (.slice (some ⟨g, 0, none⟩) (l.length + 1) cap) (l ++ [q]) := by
  obtain ⟨hl, h | ⟨g', cap', cur, hv, hb, hg, hc, hm, hs, ht⟩⟩ := h
  · cases h.1
  · simp only [Value.slice.injEq, Option.some.injEq, Addr.mk.injEq] at hv
    obtain ⟨⟨rfl, _⟩, _, rfl⟩ := hv
    have e1 : (l ++ [p]).length = l.length + 1 := by simp
    have e2 : (l ++ [q]).length = l.length + 1 := by simp
    rw [e1] at ht hc
    refine ⟨by rw [pcells_len], .inr ⟨g, cap, (cur.setIfInBounds (l.length * 2) (.int .i64 q.1)).setIfInBounds (l.length * 2 + 1) (.int .i64 q.2), by rw [e2], hb, ?_, by rw [e2]; exact hc, hm, by simp [hs], ?_⟩⟩
    · simp [World.setCell, Array.getElem?_modify, hg]
    · rw [e2, Array.toList_setIfInBounds, Array.toList_setIfInBounds, take_set2, take_set2, ht, pcells_snoc]

set_option maxHeartbeats 2000000 in
set_option maxRecDepth 100000 in
theorem refSplit_any (s : ByteArray) (w : World) :
    Calls Try.prog 29 #[.string s] w fun e w' => ∃ v, e = .returned (.tuple #[v, .int .i64 (chk 16 s.data.toList)]) ∧ Own2 w' w.heap.size 50 v (spV s.data.toList) ∧ Below w.heap.size w w' := by
  by_cases h : chk 16 s.data.toList = 0
  · have hs : s.size ≤ 65536 := chk16_le h
    have HV := Lib.hid (show spV s.data.toList = rp s.data.toList s.size from spV_ok h)
    have HH := Lib.hid h; clear h
    go_enter Try.func29, Try.ntmps29
    go_wp2_with fail
    refine (refCheck_any _ _ _).mono ?_
    rintro e w1 ⟨rfl, rfl⟩
    rw [HH.out]
    have HO0 := Lib.hid (own2_lit w w.heap.size 50 [] (Nat.le_refl _) (by simp))
    go_wp2_with fail
    go_loopw [5, 6] (fun v i wr => ∃ (k : Nat) (v' : Value), k ≤ s.size ∧ i = .int .i64 k ∧ v = v' ∧ Own2 wr w.heap.size 50 v' (rp s.data.toList k) ∧ Below w.heap.size w wr) (fun _ i _ => s.size - (intOf i).toNat)
    case atStart => exact ⟨0, _, by omega, rfl, rfl, HO0.out, (Below.refl _ _).alloc (Nat.le_refl _) _⟩
    case round =>
      obtain ⟨k, v, hk, rfl, hv, hown, hbb⟩ := hrel
      have hv2 := hv.symm
      clear hv
      subst hv2
      have HOW := Lib.hid hown; clear hown
      have HBB := Lib.hid hbb; clear hbb
      have HRL := Lib.hid (show (rp s.data.toList k).length ≤ k by rw [rp, List.length_map]; exact rnS_len _ _)
      by_cases hlt : k < s.size
      · have HG := Lib.hid (show s.data.toList.getD k 0 = s[k] by rw [List.getD_eq_getElem?_getD, List.getElem?_eq_getElem (by simpa using hlt)]; rfl)
        --ROUND
        rcases (show k = 0 ∨ ∃ i, k = i + 1 from by rcases k with _ | i; exact .inl rfl; exact .inr ⟨i, rfl⟩) with hk0 | ⟨i, hki⟩
        · have di0 : decide ((0 : Int) < (k : Int)) = false := by rw [decide_eq_false_iff_not]; omega
          have di1 : decide (0 < k) = false := by rw [decide_eq_false_iff_not]; omega
          have HNEW := Lib.hid (rp_new s.data.toList k (.inl hk0))
          have HK0 := Lib.hid hk0; clear hk0
          go_wp2_with fail
          go_quiet (fail)
          obtain ⟨wx, hwx⟩ : ∃ wx, wx = wr.drewN nq := ⟨_, rfl⟩
          rw [← hwx]
          have HOX : Hid (Own2 wx w.heap.size 50 v (rp s.data.toList k)) := Lib.hid (by rw [hwx]; exact HOW.out.drewN nq)
          have HBX : Hid (Below w.heap.size w wx) := Lib.hid (by rw [hwx]; exact below_drewN HBB.out nq)
          clear hwx
          go_wp2_with fail
          refine (number_any _ _).mono ?_
          rintro e w3 ⟨rfl, rfl⟩
          have hdg := indexByte_bd s[k] letters
          have hdl : letters.length = 16 := rfl
          rw [hdl] at hdg
          obtain ⟨dg, hdg2⟩ : ∃ dg, digit s[k] = dg := ⟨_, rfl⟩
          have hdg3 : -1 ≤ dg ∧ dg < 16 := by rw [← hdg2]; exact hdg
          rw [hdg2]
          have HDG := Lib.hid hdg2; clear hdg2 hdg hdl
          go_wp2_with (at_builtin; refine wpList_app2 _ rfl _ _ _ rfl w.heap.size 50 (.agg #[.int .i64 0, .int .i64 0]) 16 Try.underlying36 (by kernel_rfl) rfl _ _ rfl (HOX.out.alloc _) wx.heap.size 1 (dg, 1) rfl (by exact (row_new wx 50 [_, _]).cell 0) (by exact (row_new wx 50 [_, _]).cell 1) ?c1 ?c2 ?c3 ?_)
          case c1 => have := HRL.out; omega
          case c2 => have := HRL.out; omega
          case c3 => have := HBX.out.size; simp; omega
          intro v' w4 hown' hgrow _
          have HO4 := Lib.hid hown'; clear hown'
          have HB4 := Lib.hid (below_grown2 (HBX.out.alloc HBX.out.size _) (HOX.out.alloc _) hgrow (by have := HBX.out.size; simp; omega)); clear hgrow
          go_wp2_with fail
          go_roundw
          case rel => exact ⟨k + 1, _, by omega, by go_num, rfl, by rw [HNEW.out, HG.out, HDG.out]; exact HO4.out, HB4.out⟩
          case measure => simp [intOf]; omega
        · have di0 : decide ((0 : Int) < (k : Int)) = true := by rw [decide_eq_true_iff]; omega
          have di1 : decide (0 < k) = true := by rw [decide_eq_true_iff]; omega
          have hi2 : (k : Int) - 1 = (i : Int) := by omega
          have hi3 : i < s.size := by omega
          have HGI := Lib.hid (show s.data.toList.getD i 0 = s[i] by rw [List.getD_eq_getElem?_getD, List.getElem?_eq_getElem (by simpa using hi3)]; rfl)
          by_cases he : s[k] = s[i]
          · have hb : ((s[k].toNat : Int) == (s[i].toNat : Int)) = true := by rw [he]; simp
            obtain ⟨ini, n, hn, hr1, hr2⟩ := rp_more s.data.toList i (by have e : s.data.toList.length = s.size := rfl; omega) (by rw [← hki, HG.out, HGI.out, he])
            rw [← hki] at hr1 hr2
            have HKI := Lib.hid hki; clear hki he
            have HR2 := Lib.hid hr2; clear hr2
            have HR1 := Lib.hid hr1; clear hr1
            go_wp2_with fail
            go_quiet (fail)
            obtain ⟨wx, hwx⟩ : ∃ wx, wx = wr.drewN nq := ⟨_, rfl⟩
            rw [← hwx]
            have HOX : Hid (Own2 wx w.heap.size 50 v (rp s.data.toList k)) := Lib.hid (by rw [hwx]; exact HOW.out.drewN nq)
            have HBX : Hid (Below w.heap.size w wx) := Lib.hid (by rw [hwx]; exact below_drewN HBB.out nq)
            clear hwx
            have hox := HOX.out
            rw [HR1.out] at hox
            have hil : ini.length ≤ 65536 := by have h1 := HRL.out; rw [HR1.out] at h1; simp at h1; omega
            rcases hox.cases with ⟨_, h0⟩ | ⟨g, cap, cur, rfl, hgb, hgc, hcs, hlc, hcm, htk⟩
            · simp at h0
            have e1 : (ini ++ [(digit (s.data.toList.getD i 0), ((n : Nat) : Int))]).length = ini.length + 1 := by simp
            rw [e1] at hox hlc ⊢
            obtain ⟨m, hm⟩ : ∃ m, ini.length = m := ⟨_, rfl⟩
            rw [hm] at hox hlc hil ⊢
            have HM := Lib.hid hm; clear hm htk e1
            obtain ⟨dg, hdg⟩ : ∃ dg, digit (s.data.toList.getD i 0) = dg := ⟨_, rfl⟩
            rw [hdg] at hox
            have HDG := Lib.hid hdg; clear hdg
            obtain ⟨a, c, hv, hc⟩ := hox.holds
            obtain ⟨g', o', ha, c1, c2⟩ := hc m (by simp [HM.out])
            have ee : (ini ++ [(dg, ((n : Nat) : Int))])[m]'(by simp [HM.out]) = (dg, ((n : Nat) : Int)) := by simp [← HM.out]
            rw [ee] at c1 c2
            simp only [Value.slice.injEq] at hv
            obtain ⟨ha2, hx1, hx2⟩ := hv
            clear hx1 hx2
            rw [ha] at ha2
            simp only [Option.some.injEq, Addr.mk.injEq] at ha2
            obtain ⟨rfl, rfl, _⟩ := ha2
            rw [Nat.zero_add] at c1 c2
            have f1 : wx.frozen? ⟨g, m * 2, none⟩ = false := Lib.frozen_of_heap hgc _
            have f2 : wx.frozen? ⟨g, m * 2 + 1, none⟩ = false := Lib.frozen_of_heap hgc _
            have HOX2 := Lib.hid hox
            have HGB := Lib.hid hgb; clear hox hc ha ee hgb hgc hcs hcm
            go_wp2_with fail
            go_region
            go_wp2_with fail
            go_roundw
            case rel =>
              have hh : Own2 wx w.heap.size 50 (.slice (some ⟨g, 0, none⟩) (ini.length + 1) cap) (ini ++ [(dg, ((n : Nat) : Int))]) := by rw [HM.out]; exact HOX2.out
              have h2 := hh.last (dg, ((n : Nat) : Int) + 1)
              rw [HM.out] at h2
              exact ⟨k + 1, _, by omega, by go_num, rfl, by rw [HR2.out, HDG.out]; exact h2, ((HBX.out.setCell (p := ⟨g, m * 2, none⟩) HGB.out _).setCell (p := ⟨g, m * 2 + 1, none⟩) HGB.out _).drew⟩
            case measure => simp [intOf]; omega
          · have hb : ((s[k].toNat : Int) == (s[i].toNat : Int)) = false := by
              rw [beq_eq_false_iff_ne]; intro h; apply he; rw [← UInt8.toNat_inj]; omega
            have hne : s.data.toList.getD k 0 ≠ s.data.toList.getD (k - 1) 0 := by
              have e : k - 1 = i := by omega
              rw [e, HG.out, HGI.out]; exact he
            have HNEW := Lib.hid (rp_new s.data.toList k (.inr hne)); clear hne
            have HKI := Lib.hid hki; clear hki he
            go_wp2_with fail
            go_quiet (fail)
            obtain ⟨wx, hwx⟩ : ∃ wx, wx = wr.drewN nq := ⟨_, rfl⟩
            rw [← hwx]
            have HOX : Hid (Own2 wx w.heap.size 50 v (rp s.data.toList k)) := Lib.hid (by rw [hwx]; exact HOW.out.drewN nq)
            have HBX : Hid (Below w.heap.size w wx) := Lib.hid (by rw [hwx]; exact below_drewN HBB.out nq)
            clear hwx
            go_wp2_with fail
            refine (number_any _ _).mono ?_
            rintro e w3 ⟨rfl, rfl⟩
            have hdg := indexByte_bd s[k] letters
            have hdl : letters.length = 16 := rfl
            rw [hdl] at hdg
            obtain ⟨dg, hdg2⟩ : ∃ dg, digit s[k] = dg := ⟨_, rfl⟩
            have hdg3 : -1 ≤ dg ∧ dg < 16 := by rw [← hdg2]; exact hdg
            rw [hdg2]
            have HDG := Lib.hid hdg2; clear hdg2 hdg hdl
            go_wp2_with (at_builtin; refine wpList_app2 _ rfl _ _ _ rfl w.heap.size 50 (.agg #[.int .i64 0, .int .i64 0]) 16 Try.underlying36 (by kernel_rfl) rfl _ _ rfl (HOX.out.alloc _) wx.heap.size 1 (dg, 1) rfl (by exact (row_new wx 50 [_, _]).cell 0) (by exact (row_new wx 50 [_, _]).cell 1) ?c1 ?c2 ?c3 ?_)
            case c1 => have := HRL.out; omega
            case c2 => have := HRL.out; omega
            case c3 => have := HBX.out.size; simp; omega
            intro v' w4 hown' hgrow _
            have HO4 := Lib.hid hown'; clear hown'
            have HB4 := Lib.hid (below_grown2 (HBX.out.alloc HBX.out.size _) (HOX.out.alloc _) hgrow (by have := HBX.out.size; simp; omega)); clear hgrow
            go_wp2_with fail
            go_roundw
            case rel => exact ⟨k + 1, _, by omega, by go_num, rfl, by rw [HNEW.out, HG.out, HDG.out]; exact HO4.out, HB4.out⟩
            case measure => simp [intOf]; omega
        --END
      · obtain rfl : k = s.size := by omega
        have hd : decide ((s.size : Int) < (s.size : Int)) = false := by simp
        go_wp2_with fail
        go_ret2
        exact ⟨_, by rw [HH.out]; rfl, by rw [HV.out]; exact HOW.out, HBB.out⟩
  · have HV := Lib.hid (spV_no h)
    have hb : (chk 16 s.data.toList != 0) = true := by simpa using h
    clear h
    go_enter Try.func29, Try.ntmps29
    go_wp2_with fail
    refine (refCheck_any _ _ _).mono ?_
    rintro e w1 ⟨rfl, rfl⟩
    go_wp2_with fail
    go_ret2
    rw [HV.out]
    exact ⟨_, rfl, own2_nil _ _ _, Below.refl _ _⟩

set_option maxHeartbeats 1000000 in
set_option maxRecDepth 100000 in
theorem refLongest_any (s : ByteArray) (t : Int) (w : World) :
    Calls Try.prog 33 #[.string s, .int .i64 t] w fun e w' => e = .returned (.tuple #[.int .i64 (lgV t s.data.toList), .int .i64 (lgE t s.data.toList)]) ∧ Below w.heap.size w w' := by
  by_cases h : chk 16 s.data.toList = 0
  · have hs : s.size ≤ 65536 := chk16_le h
    by_cases ht : t < 0 ∨ 16 ≤ t
    · have HV := Lib.hid (lg_out h ht)
      have HH := Lib.hid h
      go_enter Try.func33, Try.ntmps33
      go_wp2_with fail
      refine (refSplit_any _ _).mono ?_
      rintro e w1 ⟨v, rfl, hown, hb⟩
      rw [HH.out]
      have HB := Lib.hid hb; clear hb hown h
      by_cases h0 : t < 0
      · have hb : decide (t < 0) = true := by simpa using h0
        clear h0 ht
        go_wp2_with fail
        go_ret2
        exact ⟨by rw [HV.out.1, HV.out.2]; rfl, HB.out⟩
      · have hb : decide (t < 0) = false := by simpa using h0
        have hb2 : decide (15 < t) = true := by simp; omega
        clear h0 ht
        go_wp2_with fail
        go_ret2
        exact ⟨by rw [HV.out.1, HV.out.2]; rfl, HB.out⟩
    · have HV := Lib.hid (lg_in h ht)
      have hb : decide (t < 0) = false := by rw [decide_eq_false_iff_not]; omega
      have hb2 : decide (15 < t) = false := by rw [decide_eq_false_iff_not]; omega
      have HH := Lib.hid h
      have HSV := Lib.hid (show spV s.data.toList = rp s.data.toList s.size from spV_ok h)
      clear ht h
      go_enter Try.func33, Try.ntmps33
      go_wp2_with fail
      refine (refSplit_any _ _).mono ?_
      rintro e w2 ⟨v, rfl, hown, hb⟩
      rw [HH.out]
      rw [HSV.out] at hown
      have e : s.data.toList.length = s.size := rfl
      rw [e] at HV
      have hll : (rp s.data.toList s.size).length ≤ 65536 := by
        have := rnS_len s.data.toList s.size
        rw [rp, List.length_map]; omega
      generalize rp s.data.toList s.size = l at *
      have HB := Lib.hid hb; clear hb HSV
      obtain ⟨a, c, rfl, hc⟩ := hown.holds
      have HC := Lib.hid hc; clear hc hown e
      go_wp2_with fail
      go_loop [8, 9] (fun u i => ∃ j : Nat, j ≤ l.length ∧ i = .int .i64 j ∧ u = .int .i64 (mxL t l j)) (fun _ i => l.length - (intOf i).toNat)
      case atStart => exact ⟨0, by omega, rfl, rfl⟩
      case round =>
        obtain ⟨j, hj, rfl, rfl⟩ := hrel
        by_cases hlt : j < l.length
        · obtain ⟨g, o, rfl, c1, c2⟩ := HC.out j hlt
          have HM := Lib.hid (show mxL t l (j + 1) = if l[j].1 = t then max (mxL t l j) l[j].2 else mxL t l j by rw [mxL, getD_pair hlt])
          generalize l[j] = p at *
          obtain ⟨p1, p2⟩ := p
          generalize mxL t l j = x at *
          by_cases hp : p1 = t
          · have hq : (p1 == t) = true := by simpa using hp
            by_cases hx : x < p2
            · have hx' : decide (x < p2) = true := by simpa using hx
              have HM2 := Lib.hid (show mxL t l (j + 1) = p2 by rw [HM.out, if_pos hp]; show max x p2 = p2; omega)
              clear hp hx
              go_wp2_with fail
              go_round
              case rel => exact ⟨j + 1, by omega, by go_num, by rw [HM2.out]⟩
              case measure => simp [intOf]; omega
            · have hx' : decide (x < p2) = false := by simpa using hx
              have HM2 := Lib.hid (show mxL t l (j + 1) = x by rw [HM.out, if_pos hp]; show max x p2 = x; omega)
              clear hp hx
              go_wp2_with fail
              go_round
              case rel => exact ⟨j + 1, by omega, by go_num, by rw [HM2.out]⟩
              case measure => simp [intOf]; omega
          · have hq : (p1 == t) = false := by simpa using hp
            have HM2 := Lib.hid (show mxL t l (j + 1) = x by rw [HM.out, if_neg hp])
            clear hp
            go_wp2_with fail
            go_round
            case rel => exact ⟨j + 1, by omega, by go_num, by rw [HM2.out]⟩
            case measure => simp [intOf]; omega
        · obtain rfl : j = l.length := by omega
          have hd : decide ((l.length : Int) < (l.length : Int)) = false := by simp
          go_wp2_with fail
          go_ret2
          exact ⟨by rw [HV.out.1, HV.out.2]; rfl, HB.out⟩
  · have HV := Lib.hid (lg_no (t := t) h)
    have HH := Lib.hid h
    have hb : (chk 16 s.data.toList != 0) = true := by simpa using h
    clear h
    go_enter Try.func33, Try.ntmps33
    go_wp2_with fail
    refine (refSplit_any _ _).mono ?_
    rintro e w1 ⟨v, rfl, hown, hbe⟩
    have HB := Lib.hid hbe; clear hbe hown
    go_wp2_with fail
    go_ret2
    exact ⟨by rw [HV.out.1, HV.out.2]; rfl, HB.out⟩

def grl (l : List (Int × Int)) : Bool := decide (12 < l.length) || l.any fun p => decide (20 < p.2) && decide (p.2 ≤ 65536)
set_option maxHeartbeats 1000000 in
set_option maxRecDepth 100000 in
theorem greatList_any (a : Option Addr) (c : Nat) (l : List (Int × Int)) (w : World) (hrow : ∀ j (h : j < l.length), ∃ g o, a = some ⟨g, o, none⟩ ∧ w.cell? ⟨g, o + j * 2, none⟩ = some (.int .i64 l[j].1) ∧ w.cell? ⟨g, o + j * 2 + 1, none⟩ = some (.int .i64 l[j].2)) (hl : l.length ≤ 9223372036854775807) :
    Calls Try.prog 28 #[.slice a l.length c] w fun e w' => e = .returned (.bool (grl l)) ∧ w = w' := by
  by_cases h12 : 12 < l.length
  · have hd : decide ((12 : Int) < (l.length : Int)) = true := by rw [decide_eq_true_iff]; omega
    have HV := Lib.hid (show grl l = true by simp [grl, h12])
    go_enter Try.func28, Try.ntmps28
    go_wp2_with fail
    go_ret
    exact ⟨by rw [HV.out]; rfl, rfl⟩
  · have hd : decide ((12 : Int) < (l.length : Int)) = false := by rw [decide_eq_false_iff_not]; omega
    have HV := Lib.hid (show grl l = l.any fun p => decide (20 < p.2) && decide (p.2 ≤ 65536) by simp [grl]; omega)
    have HC := Lib.hid hrow; clear hrow
    go_enter Try.func28, Try.ntmps28
    go_wp2_with fail
    go_loop [3] (fun i => ∃ j : Nat, j ≤ l.length ∧ i = .int .i64 j ∧ grl l = (l.drop j).any fun p => decide (20 < p.2) && decide (p.2 ≤ 65536)) (fun i => l.length - (intOf i).toNat)
    case atStart => exact ⟨0, by omega, rfl, HV.out⟩
    case round =>
      obtain ⟨j, hj, rfl, hg⟩ := hrel
      by_cases hlt : j < l.length
      · obtain ⟨g, o, rfl, c1, c2⟩ := HC.out j hlt
        rw [List.drop_eq_getElem_cons hlt, List.any_cons] at hg
        generalize l[j].2 = p2 at *
        have HG := Lib.hid hg; clear hg c1
        by_cases h1 : 20 < p2
        · by_cases h2 : p2 ≤ 65536
          · have HF := Lib.hid (show grl l = true by rw [HG.out]; simp [h1, h2])
            go_wp2_with fail
            go_ret
            exact ⟨by rw [HF.out]; rfl, rfl⟩
          · have hd2 : decide (p2 ≤ 65536) = false := by simpa using h2
            have HF := Lib.hid (show grl l = (l.drop (j + 1)).any fun p => decide (20 < p.2) && decide (p.2 ≤ 65536) by rw [HG.out, hd2]; simp)
            clear h2
            go_wp2_with fail
            go_round
            case rel => exact ⟨j + 1, by omega, by go_num, HF.out⟩
            case measure => simp [intOf]; omega
        · have hd2 : decide (20 < p2) = false := by simpa using h1
          have HF := Lib.hid (show grl l = (l.drop (j + 1)).any fun p => decide (20 < p.2) && decide (p.2 ≤ 65536) by rw [HG.out, hd2]; simp)
          clear h1
          go_wp2_with fail
          go_round
          case rel => exact ⟨j + 1, by omega, by go_num, HF.out⟩
          case measure => simp [intOf]; omega
      · obtain rfl : j = l.length := by omega
        have hd2 : decide ((l.length : Int) < (l.length : Int)) = false := by simp
        have HF := Lib.hid (show grl l = false by rw [hg, List.drop_of_length_le (Nat.le_refl _)]; rfl)
        clear hg
        go_wp2_with fail
        go_ret
        exact ⟨by rw [HF.out]; rfl, rfl⟩
end Go.Proofs.Ytagelndnhpijfaa
