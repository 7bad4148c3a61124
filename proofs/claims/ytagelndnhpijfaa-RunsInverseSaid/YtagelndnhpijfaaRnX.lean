/-
  The law of the inverses: levels and transitions undo each other, and the levels from the other start are the opposite ones.
-/
import Derived.Test.YtagelndnhpijfaaRnL
import Derived.Test.YtagelndnhpijfaaRnW
import Derived.Test.YtagelndnhpijfaaRpG
namespace Go.Proofs.Ytagelndnhpijfaa
open Go.RowKit

theorem outs_B {s : UInt8} {l : List UInt8} (hs : isZ s = true) (hl : l.all isB = true) : (outs (lvO s l) l.length).all isB = true := by
  have h := Lw_all s l hs hl
  rw [Lw, List.all_cons, Bool.and_eq_true] at h
  exact h.2
theorem outsT_B {s : UInt8} {l : List UInt8} (hs : isZ s = true) (hl : l.all isB = true) : (outs (trO s l) l.length).all isB = true := by
  rw [List.all_eq_true]
  intro x hx
  rw [outs, List.mem_map] at hx
  obtain ⟨k, hk, rfl⟩ := hx
  have hk' : k < l.length := List.mem_range.1 hk
  exact isB_of (isZ_xor (trS_z s l hs hl k (by omega)) (trS_z s l hs hl (k + 1) (by omega)))
theorem lvV_eq {t : Int} {l : List UInt8} (h : chk 2 l = 0) (ht : t = 0 ∨ t = 1) : lvE t l = 0 ∧ lvV t l = outs (lvO (UInt8.ofNat t.toNat) l) l.length ∧ trV t l = outs (trO (UInt8.ofNat t.toNat) l) l.length := by
  have e : lvE t l = 0 := by rw [lvE, if_pos h, if_pos ht]
  exact ⟨e, by rw [lvV, if_pos e, putTo_all], by rw [trV, if_pos e, putTo_all]⟩
/-- What the calls of the law answer, for the start t and the other one. -/
theorem inv_plain {t t' : Int} (ht : (t = 0 ∧ t' = 1) ∨ (t = 1 ∧ t' = 0)) (s : ByteArray) (h : chk 2 s.data.toList = 0) :
    ∃ ZA ZC ZD : ByteArray, lvE t s.data.toList = 0 ∧ (⟨(lvV t s.data.toList).toArray⟩ : ByteArray) = ZA ∧ lvE t ZA.data.toList = 0 ∧ (⟨(trV t ZA.data.toList).toArray⟩ : ByteArray) = s ∧
      (⟨(trV t s.data.toList).toArray⟩ : ByteArray) = ZC ∧ lvE t ZC.data.toList = 0 ∧ (⟨(lvV t ZC.data.toList).toArray⟩ : ByteArray) = s ∧
      lvE t' s.data.toList = 0 ∧ (⟨(lvV t' s.data.toList).toArray⟩ : ByteArray) = ZD ∧ (⟨(ZA.data.toList.map opC).toArray⟩ : ByteArray) = ZD ∧
      (∀ k (hk : k < ZA.size), ZA[k] = 48 ∨ ZA[k] = 49) ∧ ZA.size ≤ 70000 := by
  have h1 : t = 0 ∨ t = 1 := by omega
  have h2 : t' = 0 ∨ t' = 1 := by omega
  obtain ⟨hn, hl⟩ := (chk2_iff _).1 h
  have hs : isZ (UInt8.ofNat t.toNat) = true := by rcases h1 with rfl | rfl <;> decide
  have hlen := chk2_le h
  generalize hL : s.data.toList = L at *
  have hsL : s = ⟨L.toArray⟩ := by apply ByteArray.ext; apply Array.ext'; rw [hL]
  obtain ⟨e1, v1, c1⟩ := lvV_eq h h1
  obtain ⟨e2, v2, c2⟩ := lvV_eq h h2
  have hA := outs_B hs hl
  have hC := outsT_B hs hl
  have lA : (outs (lvO (UInt8.ofNat t.toNat) L) L.length).length = L.length := outs_len _ _
  have lC : (outs (trO (UInt8.ofNat t.toNat) L) L.length).length = L.length := outs_len _ _
  have kA : chk 2 (outs (lvO (UInt8.ofNat t.toNat) L) L.length) = 0 := (chk2_iff _).2 ⟨by rw [lA]; exact hn, hA⟩
  have kC : chk 2 (outs (trO (UInt8.ofNat t.toNat) L) L.length) = 0 := (chk2_iff _).2 ⟨by rw [lC]; exact hn, hC⟩
  obtain ⟨e3, _, c3⟩ := lvV_eq kA h1
  obtain ⟨e4, v4, _⟩ := lvV_eq kC h1
  refine ⟨⟨(outs (lvO (UInt8.ofNat t.toNat) L) L.length).toArray⟩, ⟨(outs (trO (UInt8.ofNat t.toNat) L) L.length).toArray⟩, ⟨(outs (lvO (UInt8.ofNat t'.toNat) L) L.length).toArray⟩, e1, by rw [v1], e3, ?_, by rw [c1], e4, ?_, e2, by rw [v2], ?_, ?_, ?_⟩
  · show (⟨(trV t (outs (lvO (UInt8.ofNat t.toNat) L) L.length)).toArray⟩ : ByteArray) = s
    rw [c3, lA, tr_lv, hsL]
  · show (⟨(lvV t (outs (trO (UInt8.ofNat t.toNat) L) L.length)).toArray⟩ : ByteArray) = s
    rw [v4, lC, lv_tr, hsL]
  · show (⟨((outs (lvO (UInt8.ofNat t.toNat) L) L.length).map opC).toArray⟩ : ByteArray) = _
    rw [show (UInt8.ofNat t'.toNat) = UInt8.ofNat t.toNat ^^^ 1 by rcases ht with ⟨rfl, rfl⟩ | ⟨rfl, rfl⟩ <;> decide, lv_other _ hs L hl]
    rfl
  · intro k hk
    have hk' : k < (outs (lvO (UInt8.ofNat t.toNat) L) L.length).length := hk
    rw [List.all_eq_true] at hA
    exact isB_cases (hA _ (List.getElem_mem hk'))
  · show (outs (lvO (UInt8.ofNat t.toNat) L) L.length).length ≤ 70000
    rw [lA]; omega

set_option maxHeartbeats 4000000 in
set_option maxRecDepth 100000 in
theorem law_runsInverse (a0 : Int) (s : ByteArray) (w0 : (Lit.int .u8 a0).wf = true) (_w1 : s.size ≤ maxLen) (w : World) :
    Calls Try.prog 10 #[.int .u8 a0, .string s] w fun e w' => e = .returned (.bool true) ∧ Below w.heap.size w w' := by
  generalize hg : grt s.size = g
  have HG := Lib.hid hg; clear hg
  go_enter Try.func10, Try.ntmps10
  cases g with
  | true =>
    go_wp2_with fail
    refine (great_any _ _).mono ?_
    rintro e w1 ⟨rfl, rfl⟩
    rw [HG.out]
    go_wp2_with fail
    refine (awake_any _).mono ?_
    rintro e w2 ⟨rfl, hb⟩
    have HB := Lib.hid hb; clear hb
    go_wp2_with fail
    go_ret
    exact ⟨rfl, HB.out⟩
  | false =>
    by_cases hc : chk 2 s.data.toList = 0
    · have HC := Lib.hid hc; clear hc
      go_wp2_with fail
      refine (great_any _ _).mono ?_
      rintro e w1 ⟨rfl, rfl⟩
      rw [HG.out]
      go_wp2_with fail
      refine (refCheck_any _ _ _).mono ?_
      rintro e w1 ⟨rfl, rfl⟩
      rw [HC.out]
      have h0 : 0 ≤ a0 ∧ a0 < 256 := by simp [Lit.wf, IntKind.min, IntKind.max, IntKind.signed, IntKind.bits] at w0; omega
      have ht : a0.tmod 2 = 0 ∨ a0.tmod 2 = 1 := by
        have := Int.tmod_eq_emod_of_nonneg (b := 2) h0.1
        omega
      clear w0 h0
      rcases ht with ht | ht
      · obtain ⟨ZA, ZC, ZD, e1, va, e2, v2, vc, e4, v4, e5, vd, v6, hbi, hsz⟩ := inv_plain (t := 0) (t' := 1) (.inl ⟨rfl, rfl⟩) s HC.out
        have E1 := Lib.hid e1
        have E2 := Lib.hid e2
        have E4 := Lib.hid e4
        have E5 := Lib.hid e5
        have VA := Lib.hid va
        have V2 := Lib.hid v2
        have VC := Lib.hid vc
        have V4 := Lib.hid v4
        have VD := Lib.hid vd
        have V6 := Lib.hid v6
        have HBI := Lib.hid hbi
        have HSZ := Lib.hid hsz
        clear e1 va e2 v2 vc e4 v4 e5 vd v6 hbi hsz
        go_wp2_with fail
        refine (Levels_any _ _ _).mono ?_
        rintro e w2 ⟨rfl, hb⟩
        have HB2 := Lib.hid hb; clear hb
        rw [E1.out, VA.out]
        go_wp2_with fail
        refine (Transitions_any _ _ _).mono ?_
        rintro e w3 ⟨rfl, hb⟩
        have HB3 := Lib.hid (HB2.out.trans (hb.mono HB2.out.size)); clear hb
        rw [E2.out, V2.out]
        go_wp2_with fail
        refine (Transitions_any _ _ _).mono ?_
        rintro e w4 ⟨rfl, hb⟩
        have HB4 := Lib.hid (HB3.out.trans (hb.mono HB3.out.size)); clear hb
        rw [E1.out, VC.out]
        go_wp2_with fail
        refine (Levels_any _ _ _).mono ?_
        rintro e w5 ⟨rfl, hb⟩
        have HB5 := Lib.hid (HB4.out.trans (hb.mono HB4.out.size)); clear hb
        rw [E4.out, V4.out]
        go_wp2_with fail
        refine (Levels_any _ _ _).mono ?_
        rintro e w6 ⟨rfl, hb⟩
        have HB6 := Lib.hid (HB5.out.trans (hb.mono HB5.out.size)); clear hb
        rw [E5.out, VD.out]
        go_wp2_with fail
        have HF := Lib.hid (show Four (w6.alloc (.cells [s48, s49, s49, s48].toArray 9)) w6.heap.size from ⟨(row_new w6 _ _).cell 0, (row_new w6 _ _).cell 1, (row_new w6 _ _).cell 2, (row_new w6 _ _).cell 3⟩)
        have HB7 := Lib.hid (HB6.out.alloc HB6.out.size (.cells [s48, s49, s49, s48].toArray 9))
        refine (newReplacer_any w6.heap.size _ HF.out).mono ?_
        rintro e w7 ⟨rb, sb, rfl, hrb, hb, hraw, hc0, hc1⟩
        have HR := Lib.hid hraw
        have HC0 := Lib.hid hc0
        have HC1 := Lib.hid hc1
        have HB8 := Lib.hid (HB7.out.trans (hb.mono HB7.out.size))
        have HRB := Lib.hid (Nat.le_trans HB7.out.size hrb)
        clear hrb hb hraw hc0 hc1
        go_wp2_with fail
        refine (replace_any rb sb ZA w7 HR.out HC0.out HC1.out HBI.out HSZ.out).mono ?_
        rintro e w8 ⟨rfl, hb⟩
        have HB9 := Lib.hid (HB8.out.trans (hb.mono HRB.out)); clear hb
        rw [V6.out]
        go_wp2_with fail
        refine (awake_any _).mono ?_
        rintro e w9 ⟨rfl, hb⟩
        have HB10 := Lib.hid (HB9.out.trans (hb.mono HB9.out.size)); clear hb
        go_wp2_with fail
        go_ret
        exact ⟨rfl, HB10.out⟩
      · obtain ⟨ZA, ZC, ZD, e1, va, e2, v2, vc, e4, v4, e5, vd, v6, hbi, hsz⟩ := inv_plain (t := 1) (t' := 0) (.inr ⟨rfl, rfl⟩) s HC.out
        have E1 := Lib.hid e1
        have E2 := Lib.hid e2
        have E4 := Lib.hid e4
        have E5 := Lib.hid e5
        have VA := Lib.hid va
        have V2 := Lib.hid v2
        have VC := Lib.hid vc
        have V4 := Lib.hid v4
        have VD := Lib.hid vd
        have V6 := Lib.hid v6
        have HBI := Lib.hid hbi
        have HSZ := Lib.hid hsz
        clear e1 va e2 v2 vc e4 v4 e5 vd v6 hbi hsz
        go_wp2_with fail
        refine (Levels_any _ _ _).mono ?_
        rintro e w2 ⟨rfl, hb⟩
        have HB2 := Lib.hid hb; clear hb
        rw [E1.out, VA.out]
        go_wp2_with fail
        refine (Transitions_any _ _ _).mono ?_
        rintro e w3 ⟨rfl, hb⟩
        have HB3 := Lib.hid (HB2.out.trans (hb.mono HB2.out.size)); clear hb
        rw [E2.out, V2.out]
        go_wp2_with fail
        refine (Transitions_any _ _ _).mono ?_
        rintro e w4 ⟨rfl, hb⟩
        have HB4 := Lib.hid (HB3.out.trans (hb.mono HB3.out.size)); clear hb
        rw [E1.out, VC.out]
        go_wp2_with fail
        refine (Levels_any _ _ _).mono ?_
        rintro e w5 ⟨rfl, hb⟩
        have HB5 := Lib.hid (HB4.out.trans (hb.mono HB4.out.size)); clear hb
        rw [E4.out, V4.out]
        go_wp2_with fail
        refine (Levels_any _ _ _).mono ?_
        rintro e w6 ⟨rfl, hb⟩
        have HB6 := Lib.hid (HB5.out.trans (hb.mono HB5.out.size)); clear hb
        rw [E5.out, VD.out]
        go_wp2_with fail
        have HF := Lib.hid (show Four (w6.alloc (.cells [s48, s49, s49, s48].toArray 9)) w6.heap.size from ⟨(row_new w6 _ _).cell 0, (row_new w6 _ _).cell 1, (row_new w6 _ _).cell 2, (row_new w6 _ _).cell 3⟩)
        have HB7 := Lib.hid (HB6.out.alloc HB6.out.size (.cells [s48, s49, s49, s48].toArray 9))
        refine (newReplacer_any w6.heap.size _ HF.out).mono ?_
        rintro e w7 ⟨rb, sb, rfl, hrb, hb, hraw, hc0, hc1⟩
        have HR := Lib.hid hraw
        have HC0 := Lib.hid hc0
        have HC1 := Lib.hid hc1
        have HB8 := Lib.hid (HB7.out.trans (hb.mono HB7.out.size))
        have HRB := Lib.hid (Nat.le_trans HB7.out.size hrb)
        clear hrb hb hraw hc0 hc1
        go_wp2_with fail
        refine (replace_any rb sb ZA w7 HR.out HC0.out HC1.out HBI.out HSZ.out).mono ?_
        rintro e w8 ⟨rfl, hb⟩
        have HB9 := Lib.hid (HB8.out.trans (hb.mono HRB.out)); clear hb
        rw [V6.out]
        go_wp2_with fail
        refine (awake_any _).mono ?_
        rintro e w9 ⟨rfl, hb⟩
        have HB10 := Lib.hid (HB9.out.trans (hb.mono HB9.out.size)); clear hb
        go_wp2_with fail
        go_ret
        exact ⟨rfl, HB10.out⟩
    · have hc' : (chk 2 s.data.toList != 0) = true := by simpa using hc
      clear hc
      go_wp2_with fail
      refine (great_any _ _).mono ?_
      rintro e w1 ⟨rfl, rfl⟩
      rw [HG.out]
      go_wp2_with fail
      refine (refCheck_any _ _ _).mono ?_
      rintro e w1 ⟨rfl, rfl⟩
      go_wp2_with fail
      refine (awake_any _).mono ?_
      rintro e w2 ⟨rfl, hb⟩
      have HB := Lib.hid hb; clear hb
      go_wp2_with fail
      go_ret
      exact ⟨rfl, HB.out⟩
end Go.Proofs.Ytagelndnhpijfaa
