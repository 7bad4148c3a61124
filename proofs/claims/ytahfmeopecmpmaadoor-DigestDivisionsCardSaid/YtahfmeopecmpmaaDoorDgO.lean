/-
  The contract of Divide.
-/
import Derived.Test.YtahfmeopecmpmaaDoorDgN
namespace Go.Proofs.YtahfmeopecmpmaaDoor
open Go.RowKit

theorem ba_len' (l : List UInt8) : (⟨l.toArray⟩ : ByteArray).size = l.length := by simp [ByteArray.size]
def dvE (g w : List UInt8) : Int := if tw g w = 0 then (if trm g = [] then 9 else 0) else tw g w
def qtV (g w : List UInt8) : List UInt8 := if dvE g w = 0 then qtO g w else []
def rsV (g w : List UInt8) : List UInt8 := if dvE g w = 0 then rsO g w else []
theorem dR_next {g w : List UInt8} {i : Nat} (h : (dR g w i).getD i 0 = 49) : dR g w (i + 1) = xk (dR g w i) i g g.length ∧ dQ g w (i + 1) = (dQ g w i).set (i + g.length - 1) 49 := by
  rw [dR, dQ, if_pos h, if_pos h]; exact ⟨rfl, rfl⟩
theorem dR_same {g w : List UInt8} {i : Nat} (h : ¬ (dR g w i).getD i 0 = 49) : dR g w (i + 1) = dR g w i ∧ dQ g w (i + 1) = dQ g w i := by
  rw [dR, dQ, if_neg h, if_neg h]; exact ⟨rfl, rfl⟩

set_option maxHeartbeats 2000000 in
set_option maxRecDepth 100000 in
theorem Divide_any (g s : ByteArray) (w : World) : Calls Tryd.prog 25 #[.string g, .string s] w fun e w' =>
    e = .returned (.tuple #[.string ⟨(qtV g.data.toList s.data.toList).toArray⟩, .string ⟨(rsV g.data.toList s.data.toList).toArray⟩, .int .i64 (dvE g.data.toList s.data.toList)]) ∧ Below w.heap.size w w' := by
  by_cases h : tw g.data.toList s.data.toList = 0
  · obtain ⟨hl, hgb, hsb⟩ := tw_ok h
    have hls : g.size + s.size ≤ 4096 := hl
    by_cases h0 : trm g.data.toList = []
    · have HE := Lib.hid (show dvE g.data.toList s.data.toList = 9 by rw [dvE, if_pos h, if_pos h0])
      have HQ := Lib.hid (show qtV g.data.toList s.data.toList = [] by rw [qtV, HE.out]; rfl)
      have HR := Lib.hid (show rsV g.data.toList s.data.toList = [] by rw [rsV, HE.out]; rfl)
      have H := Lib.hid h
      have H0 := Lib.hid h0
      clear h h0 hl hgb hsb
      go_enter Tryd.func25, Tryd.ntmps25
      go_wp2_with fail
      refine (two_any _ _ _).mono ?_
      rintro e w1 ⟨rfl, n, rfl⟩
      rw [H.out]
      have H1 := Lib.hid (below_drewN (Below.refl w.heap.size w) n)
      go_wp2_with fail
      refine (trim_any _ _).mono ?_
      rintro e w2 ⟨rfl, rfl⟩
      rw [H0.out]
      go_wp2_with fail
      go_ret3
      exact ⟨by rw [HE.out, HQ.out, HR.out]; rfl, H1.out⟩
    · have HE := Lib.hid (show dvE g.data.toList s.data.toList = 0 by rw [dvE, if_pos h, if_neg h0])
      have HQ := Lib.hid (show qtV g.data.toList s.data.toList = qtO g.data.toList s.data.toList by rw [qtV, if_pos HE.out])
      have HR := Lib.hid (show rsV g.data.toList s.data.toList = rsO g.data.toList s.data.toList by rw [rsV, if_pos HE.out])
      obtain ⟨GT, hGT⟩ : ∃ GT : ByteArray, (⟨(trm g.data.toList).toArray⟩ : ByteArray) = GT := ⟨_, rfl⟩
      have hGd : GT.data.toList = trm g.data.toList := by rw [← hGT]
      have hG1 : 1 ≤ GT.size := by
        have : GT.size = (trm g.data.toList).length := by rw [← hGT, ba_len']
        rw [this]; exact List.length_pos_iff.2 h0
      have hG2 : GT.size ≤ 4096 := by
        have : GT.size = (trm g.data.toList).length := by rw [← hGT, ba_len']
        have := trm_le g.data.toList
        have e0 : g.data.toList.length = g.size := rfl
        omega
      have hGe2 : GT.toList.isEmpty = false := by
        have e : GT.toList = GT.data.toList := ByteArray.toList_eq GT
        rw [e, hGd]
        cases h9 : trm g.data.toList with
        | nil => exact absurd h9 h0
        | cons a t => rfl
      have HQ2 := Lib.hid (show qtV g.data.toList s.data.toList = trm (dQ GT.data.toList s.data.toList (stp GT.data.toList s.data.toList)) by rw [HQ.out, hGd]; rfl)
      have HR2 := Lib.hid (show rsV g.data.toList s.data.toList = trm (dR GT.data.toList s.data.toList (stp GT.data.toList s.data.toList)) by rw [HR.out, hGd]; rfl)
      have HST := Lib.hid (show stp GT.data.toList s.data.toList = s.size + 1 - GT.size from rfl)
      have HRL := Lib.hid (fun i => dR_len GT.data.toList s.data.toList i)
      have HQL := Lib.hid (fun i => dQ_len GT.data.toList s.data.toList i)
      have HNX := Lib.hid (fun i => dR_next (g := GT.data.toList) (w := s.data.toList) (i := i))
      have HSM := Lib.hid (fun i => dR_same (g := GT.data.toList) (w := s.data.toList) (i := i))
      have e1 : s.data.toList.length = s.size := rfl
      have H := Lib.hid h
      have HGT := Lib.hid hGT
      have HGE := Lib.hid hGe2
      obtain ⟨N, hN⟩ : ∃ N, s.size = N := ⟨_, rfl⟩
      have hN4 : N ≤ 4096 := by omega
      rw [hN] at HST
      rw [e1, hN] at HRL HQL
      have HD0 := Lib.hid (show dQ GT.data.toList s.data.toList 0 = List.replicate N 48 by rw [dQ, e1, hN])
      have HR0 := Lib.hid (show dR GT.data.toList s.data.toList 0 = s.data.toList from rfl)
      clear h h0 hl hgb hsb hGT hGd hGe2
      go_enter Tryd.func25, Tryd.ntmps25
      go_wp2_with fail
      refine (two_any _ _ _).mono ?_
      rintro e w1 ⟨rfl, n, rfl⟩
      rw [H.out]
      have H1 := Lib.hid (below_drewN (Below.refl w.heap.size w) n)
      go_wp2_with fail
      refine (trim_any _ _).mono ?_
      rintro e w2 ⟨rfl, rfl⟩
      rw [HGT.out]
      have hGE := HGE.out
      go_wp2_with (refine wpList_bytes _ rfl _ 9 57 5 rfl Tryd.underlying9 Tryd.underlying57 Tryd.underlying5 s rfl ?_)
      intro w3 c3 hrow3 hb3 hz3 hc3
      rw [← HR0.out] at hrow3
      have HR3 := Lib.hid hrow3
      have H3 := Lib.hid (H1.out.trans (hb3.mono H1.out.size))
      have hz3' : w3.heap.size = w.heap.size + 1 := hz3
      have HZ3 := Lib.hid (show w.heap.size ≤ w.heap.size ∧ w.heap.size < w3.heap.size from ⟨Nat.le_refl _, by omega⟩)
      clear hrow3 hb3 hz3 hz3'
      go_wp2_with fail
      refine (Tryd.strings_Repeat ⟨#[48]⟩ N _ (by omega) (by simp [ByteArray.size]; omega)).mono ?_
      rintro e w4 ⟨rfl, h4⟩
      rw [show Lib.repeatL (⟨#[48]⟩ : ByteArray).data.toList N = List.replicate N 48 from repeatL_one 48 N]
      have HR4 := Lib.hid (HR3.out.below h4 HZ3.out.2)
      have H4 := Lib.hid (H3.out.trans (h4.mono H3.out.size))
      have HZ4 := Lib.hid (show w.heap.size ≤ w.heap.size ∧ w.heap.size < w4.heap.size from ⟨HZ3.out.1, Nat.lt_of_lt_of_le HZ3.out.2 h4.size⟩)
      clear h4
      obtain ⟨Z, hZ⟩ : ∃ Z : ByteArray, (⟨(List.replicate N (48 : UInt8)).toArray⟩ : ByteArray) = Z := ⟨_, rfl⟩
      rw [hZ]
      have hZs : Z.size = N := by rw [← hZ]; simp [ByteArray.size]
      have HZ := Lib.hid (show Z.data.toList = dQ GT.data.toList s.data.toList 0 by rw [← hZ, HD0.out])
      clear hZ
      go_wp2_with (refine wpList_bytes _ rfl _ 9 57 5 rfl Tryd.underlying9 Tryd.underlying57 Tryd.underlying5 Z rfl ?_)
      intro w5 c5 hrow5 hb5 hz5 hc5
      rw [HZ.out] at hrow5
      have HQ5 := Lib.hid hrow5
      have HR5 := Lib.hid (HR4.out.below hb5 HZ4.out.2)
      have H5 := Lib.hid (H4.out.trans (hb5.mono H4.out.size))
      have HZ5 := Lib.hid (show w.heap.size ≤ w.heap.size ∧ w.heap.size < w4.heap.size ∧ w.heap.size ≤ w4.heap.size from ⟨HZ4.out.1, HZ4.out.2, H4.out.size⟩)
      clear hrow5 hb5 hz5
      obtain ⟨B2, hB2⟩ : ∃ B, w4.heap.size = B := ⟨_, rfl⟩
      rw [hB2] at HQ5 HZ5 ⊢
      clear hB2 hc3 hc5
      have hw.heap.size2 : (⟨B2, 0, none⟩ : Addr) ≠ ⟨w.heap.size, 0, none⟩ := by intro h; simp at h; have := HZ5.out.2.1; omega
      go_wp2_with fail
      go_loopw [10] (fun i wr => ∃ k : Nat, (k = 0 ∨ k + GT.size ≤ N + 1) ∧ i = .int .i64 k ∧ RowP wr w.heap.size 5 (bts (dR GT.data.toList s.data.toList k)) ∧ RowP wr B2 5 (bts (dQ GT.data.toList s.data.toList k)) ∧ Below w.heap.size w wr) (fun i _ => N + 1 - (intOf i).toNat)
      case atStart => exact ⟨0, .inl rfl, rfl, HR5.out, HQ5.out, H5.out⟩
      case round =>
        obtain ⟨k, hk, rfl, hrR, hrQ, hb⟩ := hrel
        have hk4 : k ≤ 4097 := by omega
        by_cases hlt : k + GT.size ≤ N
        · have hd : decide ((k : Int) + (GT.size : Int) ≤ (N : Int)) = true := by simp; omega
          have hlR : (bts (dR GT.data.toList s.data.toList k)).length = N := by rw [bts_len, HRL.out]
          have hlQ : (bts (dQ GT.data.toList s.data.toList k)).length = N := by rw [bts_len, HQL.out]
          have hkN : k < N := by omega
          obtain ⟨y, hy⟩ : ∃ y, (dR GT.data.toList s.data.toList k).getD k 0 = y := ⟨_, rfl⟩
          have c1 : wr.cell? ⟨w.heap.size, k, none⟩ = some (.int .u8 (y.toNat : Int)) := by
            rw [hrR.cell k (by omega), bts_get, ← hy, List.getD_eq_getElem?_getD, List.getElem?_eq_getElem (by rw [HRL.out]; exact hkN)]; rfl
          have HRR := Lib.hid hrR
          have HRQ := Lib.hid hrQ
          have HB := Lib.hid hb
          have HLQ := Lib.hid hlQ
          clear hrR hrQ hb hlR hlQ HR5 HQ5 H5
          by_cases h49 : y = 49
          · have HX := Lib.hid (HNX.out k (by rw [hy]; exact h49))
            have ht : ((y.toNat : Int) == 49) = true := by rw [h49]; rfl
            obtain ⟨P, hP⟩ : ∃ P, k + GT.size - 1 = P := ⟨_, rfl⟩
            have hPi : (k : Int) + (GT.size : Int) - 1 = (P : Int) := by omega
            have hPN : P < N := by omega
            have hadd := fun wq hq => add_any w.heap.size c3 k (dR GT.data.toList s.data.toList k) GT wq hq (by rw [HRL.out]; omega) (by rw [HRL.out]; omega)
            rw [HRL.out] at hadd
            have HADD := Lib.hid hadd
            have HPX := Lib.hid (show k + GT.data.toList.length - 1 = P from hP)
            clear hadd h49 hy hP
            go_wp2_with fail
            refine (HADD.out _ HRR.out).mono ?_
            rintro e w6 ⟨⟨v, rfl⟩, hr6, hg6⟩
            have hq6 := HRQ.out.grown hg6 (by intro h; cases h; have := HZ5.out.2.1; omega)
            have HB6 := Lib.hid (below_grown_at HB.out hg6 HZ5.out.1 HB.out.size)
            have HR6 := Lib.hid hr6
            have HQS := Lib.hid (hq6.set P (.int .u8 49) (by rw [HLQ.out]; exact hPN))
            have hfz : w6.frozen? ⟨B2, P, none⟩ = false := hq6.frozen P (by rw [HLQ.out]; exact hPN)
            have hcl : ∃ u, w6.cell? ⟨B2, P, none⟩ = some u := by
              rw [hq6.cell P (by rw [HLQ.out]; exact hPN), List.getElem?_eq_getElem (by rw [HLQ.out]; exact hPN)]; exact ⟨_, rfl⟩
            obtain ⟨u, hcu⟩ := hcl
            clear hr6 hg6 hq6
            go_wp2_with fail
            go_roundw
            case rel =>
              refine ⟨k + 1, .inr (by omega), by go_num, ?_, ?_, HB6.out.setCell (p := ⟨B2, P, none⟩) HZ5.out.2.2 _⟩
              · rw [HX.out.1]
                exact HR6.out.set_other _ _ (by have := HZ5.out.2.1; simp; omega)
              · rw [HX.out.2, HPX.out]
                have h2 := HQS.out
                rw [show (Value.int .u8 49) = .int .u8 ((49 : UInt8).toNat : Int) from rfl, bts_set] at h2
                exact h2
            case measure => simp [intOf]; omega
          · have HX := Lib.hid (HSM.out k (by rw [hy]; exact h49))
            have ht : ((y.toNat : Int) == 49) = false := by
              rw [beq_eq_false_iff_ne]; intro he; apply h49; rw [← UInt8.toNat_inj]
              have e : (49 : UInt8).toNat = 49 := rfl
              omega
            clear h49 hy
            go_wp2_with fail
            go_roundw
            case rel => exact ⟨k + 1, .inr (by omega), by go_num, by rw [HX.out.1]; exact HRR.out, by rw [HX.out.2]; exact HRQ.out, HB.out⟩
            case measure => simp [intOf]; omega
        · have hd : decide ((k : Int) + (GT.size : Int) ≤ (N : Int)) = false := by simp; omega
          have HK := Lib.hid (show stp GT.data.toList s.data.toList = k by rw [HST.out]; omega)
          have hcv1 := run_string_rowP (P := Tryd.prog) (src := 57) (dst := 9) (c := c3) (n := N) Tryd.underlying57 Tryd.underlying5 Tryd.underlying9 hrR (HRL.out k)
          have hcv2 := run_string_rowP (P := Tryd.prog) (src := 57) (dst := 9) (c := c5) (n := N) Tryd.underlying57 Tryd.underlying5 Tryd.underlying9 hrQ (HQL.out k)
          have hcv3 := run_string_rowP (P := Tryd.prog) (src := 57) (dst := 9) (c := c3) (n := N) Tryd.underlying57 Tryd.underlying5 Tryd.underlying9 hrR.drew (HRL.out k)
          have hcv4 := run_string_rowP (P := Tryd.prog) (src := 57) (dst := 9) (c := c5) (n := N) Tryd.underlying57 Tryd.underlying5 Tryd.underlying9 hrQ.drew (HQL.out k)
          have HB := Lib.hid hb
          have HT := Lib.hid (show trm (dQ GT.data.toList s.data.toList k) = qtV g.data.toList s.data.toList ∧ trm (dR GT.data.toList s.data.toList k) = rsV g.data.toList s.data.toList from ⟨by rw [HQ2.out, HK.out], by rw [HR2.out, HK.out]⟩)
          clear hb HR5 HQ5 H5 hlt hk
          go_wp2_with fail
          go_region_with (go_at_call 55; refine (trim_any _ _).mono ?_; rintro e w6 ⟨rfl, rfl⟩)
          all_goals
            go_wp2_with fail
            go_ret3
            exact ⟨by rw [HE.out, ← HT.out.1, ← HT.out.2]; rfl, HB.out.os, HB.out.tape, HB.out.output, HB.out.size, HB.out.block⟩
  · have HE := Lib.hid (show dvE g.data.toList s.data.toList = tw g.data.toList s.data.toList by rw [dvE, if_neg h])
    have HQ := Lib.hid (show qtV g.data.toList s.data.toList = [] by rw [qtV, HE.out, if_neg h])
    have HR := Lib.hid (show rsV g.data.toList s.data.toList = [] by rw [rsV, HE.out, if_neg h])
    have hb : (tw g.data.toList s.data.toList != 0) = true := by simpa using h
    clear h
    go_enter Tryd.func25, Tryd.ntmps25
    go_wp2_with fail
    refine (two_any _ _ _).mono ?_
    rintro e w1 ⟨rfl, n, rfl⟩
    have H1 := Lib.hid (below_drewN (Below.refl w.heap.size w) n)
    go_wp2_with fail
    go_ret3
    exact ⟨by rw [HE.out, HQ.out, HR.out]; rfl, H1.out⟩
end Go.Proofs.YtahfmeopecmpmaaDoor
