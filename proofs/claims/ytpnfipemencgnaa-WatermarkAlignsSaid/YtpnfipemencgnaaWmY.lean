/-
  The reference: Unique.
-/
import Derived.Test.YtpnfipemencgnaaWmV
import Derived.Test.YtpnfipemencgnaaWmT
namespace Go.Proofs.Ytpnfipemencgnaa
open Go.RowKit

theorem rowOf_set0 (F : Nat → Nat → Nat) (len i J : Nat) : (ints (rowOf F len i (J + 1))).set J (.int .i64 0) = ints (rowOf F len i (J + 1)) := by
  apply List.ext_getElem?
  intro j
  rw [List.getElem?_set]
  by_cases he : J = j
  · subst he
    rw [if_pos rfl, ints_len, rowOf_len]
    by_cases hj : J < len
    · rw [if_pos hj, rowOf_get _ _ _ _ _ hj, if_neg (by omega)]
    · rw [if_neg hj, List.getElem?_eq_none (by rw [ints_len, rowOf_len]; omega)]
  · rw [if_neg he]

set_option maxHeartbeats 4000000 in
set_option maxRecDepth 100000 in
theorem refUnique_ok (m r : ByteArray) (w : World) (h : chkA m.data.toList r.data.toList = 0) :
    Calls Try.prog 26 #[.string m, .string r] w fun e w' => e = .returned (.tuple #[.bool (((wy m.data.toList r.data.toList 0 0 : Nat) : Int) == 1), .int .i64 0]) ∧ Below w.heap.size w w' := by
  have hl := chkA_len h
  have hm : m.size ≤ 256 := hl.1
  have hr : r.size ≤ 256 := hl.2
  clear hl
  have HW := Lib.hid (wcI_le m.data.toList r.data.toList)
  have HY := Lib.hid (wy_le m.data.toList r.data.toList)
  have HCH := Lib.hid h; clear h
  go_enter Try.func26, Try.ntmps26
  go_wp2_with fail
  refine (rcheck_any _ _ _).mono ?_
  rintro e w1 ⟨rfl, rfl⟩
  rw [HCH.out]
  go_wp2_with fail
  refine (table_any m r _ hm hr).mono ?_
  rintro e w2 ⟨gt, grt, rfl, hmat, hb⟩
  have HT0 := Lib.hid hmat; clear hmat
  have hs1 : w.heap.size ≤ w2.heap.size := hb.size
  have HB1 := Lib.hid hb; clear hb
  go_wp2_with (at_make; refine wpList_mkrow _ rfl _ _ rfl 28 (.slice none 0 0) 24 Try.underlying75 (by kernel_rfl) rfl ((m.size : Int) + 1) (m.size + 1) rfl rfl (by omega) (by omega) ?_; intro w3 hrow1 hb1 hsz1; have HM1 := Lib.hid (mat_start (base := w2.heap.size) (r.size + 1) (wy m.data.toList r.data.toList) (fun _ => 0) hrow1 (Nat.le_refl _)); clear hrow1; have HB2 := Lib.hid hb1; clear hb1)
  go_loopw [11] (fun a wr => ∃ (I : Nat) (gr : Nat → Nat), I ≤ m.size + 1 ∧ a = .int .i64 ((I : Int) - 1) ∧ Mat wr w2.heap.size w2.heap.size (m.size + 1) (r.size + 1) I I (wy m.data.toList r.data.toList) gr ∧ Below w2.heap.size w2 wr) (fun a _ => (intOf a + 1).toNat)
  case atStart => exact ⟨m.size + 1, _, by omega, by go_num, HM1.out, HB2.out⟩
  case round =>
    obtain ⟨I, gr, hI, hv, hmat, hb⟩ := hrel
    have HM := Lib.hid hmat; clear hmat
    have HB := Lib.hid hb; clear hb
    by_cases h0 : I = 0
    · subst h0
      subst hv
      have oI := HM.out.out 0 (Nat.zero_le _) (by omega)
      have gJ := HM.out.cell 0 0 (Nat.zero_le _) (by omega) (by omega)
      go_wp2_with fail
      go_ret2
      exact ⟨rfl, HB1.out.trans (HB.out.mono hs1)⟩
    · obtain ⟨i, rfl⟩ : ∃ i, I = i + 1 := ⟨I - 1, by omega⟩
      rw [show (((i + 1 : Nat) : Int) - 1) = (i : Int) by omega] at hv
      subst hv
      have hwr : w2.heap.size < wr.heap.size := HM.out.1.lt
      have HGL := Lib.hid (fun j (h1 : i + 1 ≤ j) (h2 : j < m.size + 1) => (HM.out.2.2 j h1 h2).2.2.lt)
      go_wp2_with (at_make; refine wpList_mkrow _ rfl _ _ rfl 3 (.int .i64 0) 8 Try.underlying28 (by kernel_rfl) rfl ((r.size : Int) + 1) (r.size + 1) rfl rfl (by omega) (by omega) ?_; intro w4 hrow2 hb2 hsz2; have HM2 := Lib.hid (HM.out.below hb2); have old : ∃ v, w4.cell? ⟨w2.heap.size, i, none⟩ = some v := ⟨_, (by rw [HM2.out.1.cell, outer_get _ _ _ _ _ (by omega)])⟩; obtain ⟨vold, old⟩ := old; have fold := HM2.out.1.frozen i; have HR2 := Lib.hid hrow2; clear hrow2; have HB3 := Lib.hid (ext_trans HB.out hb2); clear hb2)
      obtain ⟨B, hBe⟩ : ∃ B, B = wr.heap.size := ⟨_, rfl⟩
      obtain ⟨gr2, hg2⟩ : ∃ gr2 : Nat → Nat, gr2 = fun j => if j = i then B else gr j := ⟨_, rfl⟩
      have hgi : gr2 i = B := by rw [hg2]; simp
      have hBg : B ≠ w2.heap.size := by rw [hBe]; omega
      have hBb : w2.heap.size ≤ B := by rw [hBe]; omega
      have hgn : ∀ j, i + 1 ≤ j → j < m.size + 1 → B ≠ gr2 j := fun j h1 h2 => by
        have := HGL.out j h1 h2
        rw [hg2, hBe]; dsimp only; rw [if_neg (show ¬ j = i by omega)]; omega
      have HM3 := Lib.hid (show Mat (w4.setCell ⟨w2.heap.size, i, none⟩ (.slice (some ⟨wr.heap.size, 0, none⟩) (r.size + 1) (r.size + 1))) w2.heap.size w2.heap.size (m.size + 1) (r.size + 1) i (i + 1) (wy m.data.toList r.data.toList) gr2 by
        rw [hg2, hBe]; exact HM2.out.put (by omega) _ (by omega))
      have HR3 := Lib.hid (show Row (w4.setCell ⟨w2.heap.size, i, none⟩ (.slice (some ⟨wr.heap.size, 0, none⟩) (r.size + 1) (r.size + 1))) B 3 (ints (rowOf (wy m.data.toList r.data.toList) (r.size + 1) i (r.size + 1))) by
        rw [hBe, ← rowOf_start]; exact HR2.out.set_other _ _ (show wr.heap.size ≠ w2.heap.size by omega))
      have HB4 := Lib.hid (HB3.out.setCell (p := ⟨w2.heap.size, i, none⟩) (Nat.le_refl _) (.slice (some ⟨wr.heap.size, 0, none⟩) (r.size + 1) (r.size + 1)))
      have HGI := Lib.hid hgi
      have HGN := Lib.hid hgn
      clear hg2 hgi hgn old fold HM2 HR2 HB3 HM HGL HB
      clear hBe hwr
      go_loopw [12] (fun a wr => ∃ J : Nat, J ≤ r.size + 1 ∧ a = .int .i64 ((J : Int) - 1) ∧ Mat wr w2.heap.size w2.heap.size (m.size + 1) (r.size + 1) i (i + 1) (wy m.data.toList r.data.toList) gr2 ∧ Row wr B 3 (ints (rowOf (wy m.data.toList r.data.toList) (r.size + 1) i J)) ∧ Below w2.heap.size w2 wr) (fun a _ => (intOf a + 1).toNat)
      case atStart => exact ⟨r.size + 1, by omega, by go_num, HM3.out, HR3.out, HB4.out⟩
      case round =>
        obtain ⟨J, hJ, hv, hmat, hrw, hb⟩ := hrel
        have HM := Lib.hid hmat; clear hmat
        have HR := Lib.hid hrw; clear hrw
        have HB := Lib.hid hb; clear hb
        by_cases hJ0 : J = 0
        · subst hJ0
          subst hv
          have HMF := Lib.hid (HM.out.full (by rw [HGI.out]; exact hBb) (by rw [HGI.out]; exact hBg) (by rw [HGI.out]; exact HR.out))
          go_wp2_with fail
          go_roundw
          case rel => exact ⟨i, gr2, by omega, by go_num, HMF.out, HB.out⟩
          case measure => simp [intOf]
        · obtain ⟨j, rfl⟩ : ∃ j, J = j + 1 := ⟨J - 1, by omega⟩
          rw [show (((j + 1 : Nat) : Int) - 1) = (j : Int) by omega] at hv
          subst hv
          have HPUT := Lib.hid (rowOf_put (wy m.data.toList r.data.toList) (r.size + 1) i j (by omega))
          have HS0 := Lib.hid (rowOf_set0 (wy m.data.toList r.data.toList) (r.size + 1) i j)
          by_cases hlast : i = m.size
          · have HV := Lib.hid (show (wy m.data.toList r.data.toList) i j = 1 by rw [hlast]; exact wy_last m.data.toList r.data.toList j)
            have hE0 : ((i : Int) == (m.size : Int)) = true := by simp [hlast]
            have hil : i ≤ m.size := by omega
            clear hlast
            have HR0 := Lib.hid HR.out
            have HR : Hid (Row wr B 3 ((ints (rowOf (wy m.data.toList r.data.toList) (r.size + 1) i (j + 1))).set j (.int .i64 0))) := Lib.hid (by rw [HS0.out]; exact HR0.out)
            clear HR0
            have oI : wr.cell? ⟨w2.heap.size, i, none⟩ = some (.slice (some ⟨B, 0, none⟩) (r.size + 1) (r.size + 1)) := by rw [HM.out.out i (Nat.le_refl _) (by omega), HGI.out]
            have cJ : wr.cell? ⟨B, j, none⟩ = some (.int .i64 0) := by rw [HR.out.cell, List.getElem?_set, if_pos rfl, if_pos (by rw [ints_len, rowOf_len]; omega)]
            have fJ := HR.out.frozen j
            go_wp2_with fail
            clear oI cJ fJ
            obtain ⟨wy', hwx⟩ : ∃ wy', wy' = (wr).setCell ⟨B, j, none⟩ (.int .i64 1) := ⟨_, rfl⟩
            rw [← hwx]
            have HM' : Hid (Mat wy' w2.heap.size w2.heap.size (m.size + 1) (r.size + 1) i (i + 1) (wy m.data.toList r.data.toList) gr2) := Lib.hid (by rw [hwx]; exact HM.out.set_other _ _ hBg HGN.out)
            have HR' : Hid (Row wy' B 3 ((ints (rowOf (wy m.data.toList r.data.toList) (r.size + 1) i (j + 1))).set j (.int .i64 1))) := Lib.hid (by rw [hwx]; have := HR.out.set j (.int .i64 1); rwa [List.set_set] at this)
            have HB' : Hid (Below w2.heap.size w2 wy') := Lib.hid (by rw [hwx]; exact HB.out.setCell (p := ⟨B, j, none⟩) hBb _)
            clear hwx HM HR HB
            obtain ⟨wx, rfl⟩ : ∃ wx, wx = wy' := ⟨_, rfl⟩
            have HM := HM'; have HR := HR'; have HB := HB'
            clear HM' HR' HB'
            go_roundw
            case rel =>
              refine ⟨j, by omega, by go_num, HM.out, ?_, HB.out⟩
              have := HR.out
              rw [show (Value.int .i64 1) = .int .i64 (((wy m.data.toList r.data.toList) i j : Nat) : Int) by rw [HV.out]; rfl, HPUT.out] at this
              exact this
            case measure => simp [intOf]
          · have hi1 : i < m.size := by omega
            have hE0 : ((i : Int) == (m.size : Int)) = false := by simp; omega
            have HV := Lib.hid (wy_step m.data.toList r.data.toList i j (by simp; omega))
            have HT := Lib.hid (HT0.out.below HB.out)
            have hz := HW.out (i + 1) j
            have hz2 := HW.out i j
            have hy1 := HY.out (i + 1) j
            simp only [Array.length_toList, ByteArray.size_data] at hz hz2
            obtain ⟨b, hT⟩ : ∃ b : Bool, ((2 + ((wcI m.data.toList r.data.toList (i + 1) j : Nat) : Int)) == ((wcI m.data.toList r.data.toList i j : Nat) : Int)) = b := ⟨_, rfl⟩
            have HN0 := Lib.hid (show (if 2 + wcI m.data.toList r.data.toList (i + 1) j = wcI m.data.toList r.data.toList i j then wy m.data.toList r.data.toList (i + 1) j else 0) = (if b then wy m.data.toList r.data.toList (i + 1) j else 0) by
              by_cases h : 2 + wcI m.data.toList r.data.toList (i + 1) j = wcI m.data.toList r.data.toList i j
              · have : b = true := by rw [← hT, beq_iff_eq]; omega
                rw [if_pos h, this]; rfl
              · have : b = false := by rw [← hT, beq_eq_false_iff_ne]; omega
                rw [if_neg h, this]; rfl)
            cases b with
            | true =>
              have tI := HT.out.out i (Nat.zero_le _) (by omega)
              have tI1 := HT.out.out (i + 1) (Nat.zero_le _) (by omega)
              have tJ := HT.out.cell i j (Nat.zero_le _) (by omega) (by omega)
              have tJ1 := HT.out.cell (i + 1) j (Nat.zero_le _) (by omega) (by omega)
              go_wp2_with fail
              go_quiet (fail)
              clear tI tI1 tJ tJ1
              obtain ⟨wq, hwq⟩ : ∃ wq, wq = wr.drewN nq := ⟨_, rfl⟩
              rw [← hwq]
              have HM : Hid (Mat wq w2.heap.size w2.heap.size (m.size + 1) (r.size + 1) i (i + 1) (wy m.data.toList r.data.toList) gr2) := Lib.hid (by rw [hwq]; exact HM.out.drewN _)
              have HR : Hid (Row wq B 3 ((ints (rowOf (wy m.data.toList r.data.toList) (r.size + 1) i (j + 1))).set j (.int .i64 0))) := Lib.hid (by rw [hwq, HS0.out]; exact HR.out.drewN _)
              have HB : Hid (Below w2.heap.size w2 wq) := Lib.hid (by rw [hwq]; exact below_drewN HB.out _)
              clear hwq
              have oI : wq.cell? ⟨w2.heap.size, i, none⟩ = some (.slice (some ⟨B, 0, none⟩) (r.size + 1) (r.size + 1)) := by rw [HM.out.out i (Nat.le_refl _) (by omega), HGI.out]
              have cJ : wq.cell? ⟨B, j, none⟩ = some (.int .i64 0) := by rw [HR.out.cell, List.getElem?_set, if_pos rfl, if_pos (by rw [ints_len, rowOf_len]; omega)]
              have fJ := HR.out.frozen j
              have oI1 := HM.out.out (i + 1) (by omega) (by omega)
              have gJ := HM.out.cell (i + 1) j (Nat.le_refl _) (by omega) (by omega)
              go_wp2_with fail
              refine wp_region_quiet_tail 14 (by kernel_rfl) (by kernel_rfl) ?_
              simp only [List.take_succ_cons, List.take_zero, List.drop_succ_cons, List.drop_zero]
              repeat (go_big_quiet_step (fail))
              refine wpQuiet_nil ?_
              rintro _ ⟨nr, rfl⟩
              go_wp2_with fail
              clear oI cJ fJ oI1 gJ
              obtain ⟨wy', hwx⟩ : ∃ wy', wy' = (wq.drewN nr).setCell ⟨B, j, none⟩ (.int .i64 (((wy m.data.toList r.data.toList) (i + 1) j : Nat) : Int)) := ⟨_, rfl⟩
              rw [← hwx]
              have HM' : Hid (Mat wy' w2.heap.size w2.heap.size (m.size + 1) (r.size + 1) i (i + 1) (wy m.data.toList r.data.toList) gr2) := Lib.hid (by rw [hwx]; exact (HM.out.drewN nr).set_other _ _ hBg HGN.out)
              have HR' : Hid (Row wy' B 3 ((ints (rowOf (wy m.data.toList r.data.toList) (r.size + 1) i (j + 1))).set j (.int .i64 (((wy m.data.toList r.data.toList) (i + 1) j : Nat) : Int)))) := Lib.hid (by rw [hwx]; have := (HR.out.drewN nr).set j (.int .i64 (((wy m.data.toList r.data.toList) (i + 1) j : Nat) : Int)); rwa [List.set_set] at this)
              have HB' : Hid (Below w2.heap.size w2 wy') := Lib.hid (by rw [hwx]; exact (below_drewN HB.out nr).setCell (p := ⟨B, j, none⟩) hBb _)
              clear hwx HM HR HB
              obtain ⟨wx, rfl⟩ : ∃ wx, wx = wy' := ⟨_, rfl⟩
              have HM := HM'; have HR := HR'; have HB := HB'
              clear HM' HR' HB'
              go_loopw [13] (fun a wr4 => ∃ (kk cu : Nat), j ≤ kk ∧ kk ≤ r.size ∧ a = .int .i64 kk ∧ cu ≤ 2 ∧ min (cu + sm (hit m.data.toList r.data.toList i j) ((wy m.data.toList r.data.toList) (i + 1)) (r.size - kk) kk) 2 = (wy m.data.toList r.data.toList) i j ∧ Mat wr4 w2.heap.size w2.heap.size (m.size + 1) (r.size + 1) i (i + 1) (wy m.data.toList r.data.toList) gr2 ∧ Row wr4 B 3 ((ints (rowOf (wy m.data.toList r.data.toList) (r.size + 1) i (j + 1))).set j (.int .i64 (cu : Nat))) ∧ Below w2.heap.size w2 wr4) (fun a _ => r.size - (intOf a).toNat)
              case atStart => exact ⟨j, (wy m.data.toList r.data.toList) (i + 1) j, Nat.le_refl _, by omega, rfl, by omega, by rw [HV.out, HN0.out]; rfl, HM.out, HR.out, HB.out⟩
              case round =>
                obtain ⟨kk, cu, hk1, hk2, rfl, hcu, hmin, hmat, hrw, hb⟩ := hrel
                have HM := Lib.hid hmat; clear hmat
                have HR := Lib.hid hrw; clear hrw
                have HB := Lib.hid hb; clear hb
                have HMIN := Lib.hid hmin; clear hmin
                have HT := Lib.hid (HT0.out.below HB.out)
                by_cases hlt : kk < r.size
                · have hz3 := HW.out (i + 1) (kk + 1)
                  have hz4 := HW.out i j
                  have hy3 := HY.out (i + 1) (kk + 1)
                  have b4 := dif_le m[i] r[kk]
                  simp only [Array.length_toList, ByteArray.size_data] at hz3 hz4
                  have tI := HT.out.out i (Nat.zero_le _) (by omega)
                  have tI1 := HT.out.out (i + 1) (Nat.zero_le _) (by omega)
                  have tJ := HT.out.cell i j (Nat.zero_le _) (by omega) (by omega)
                  have tK1 := HT.out.cell (i + 1) (kk + 1) (Nat.zero_le _) (by omega) (by omega)
                  have hTT := hit_int m r i j kk hi1 hlt hk1
                  have HSM := Lib.hid (sm_step (hit m.data.toList r.data.toList i j) ((wy m.data.toList r.data.toList) (i + 1)) (r.size - kk) kk (by omega))
                  by_cases hh : hit m.data.toList r.data.toList i j kk = true
                  · rw [hh] at hTT
                    have HH := Lib.hid hh; clear hh
                    go_wp2_with fail
                    go_quiet ((go_at_call 50; exact Calls.quiet_of_same (differs_same _ _ _)))
                    clear tI tI1 tJ tK1
                    obtain ⟨wq, hwq⟩ : ∃ wq, wq = wr.drewN nq := ⟨_, rfl⟩
                    rw [← hwq]
                    have HM : Hid (Mat wq w2.heap.size w2.heap.size (m.size + 1) (r.size + 1) i (i + 1) (wy m.data.toList r.data.toList) gr2) := Lib.hid (by rw [hwq]; exact HM.out.drewN _)
                    have HR : Hid (Row wq B 3 ((ints (rowOf (wy m.data.toList r.data.toList) (r.size + 1) i (j + 1))).set j (.int .i64 (cu : Nat)))) := Lib.hid (by rw [hwq]; exact HR.out.drewN _)
                    have HB : Hid (Below w2.heap.size w2 wq) := Lib.hid (by rw [hwq]; exact below_drewN HB.out _)
                    clear hwq
                    have oI : wq.cell? ⟨w2.heap.size, i, none⟩ = some (.slice (some ⟨B, 0, none⟩) (r.size + 1) (r.size + 1)) := by rw [HM.out.out i (Nat.le_refl _) (by omega), HGI.out]
                    have cJ : wq.cell? ⟨B, j, none⟩ = some (.int .i64 (cu : Nat)) := by rw [HR.out.cell, List.getElem?_set, if_pos rfl, if_pos (by rw [ints_len, rowOf_len]; omega)]
                    have fJ := HR.out.frozen j
                    have oI1 := HM.out.out (i + 1) (by omega) (by omega)
                    have gK1 := HM.out.cell (i + 1) (kk + 1) (Nat.le_refl _) (by omega) (by omega)
                    go_wp2_with fail
                    refine wp_region_quiet_tail 24 (by kernel_rfl) (by kernel_rfl) ?_
                    simp only [List.take_succ_cons, List.take_zero, List.drop_succ_cons, List.drop_zero]
                    repeat (go_big_quiet_step (fail))
                    refine wpQuiet_nil ?_
                    rintro _ ⟨nr, rfl⟩
                    go_wp2_with fail
                    clear oI cJ fJ oI1 gK1
                    have HVM := Lib.hid (show Value.int .i64 (min 2 (((cu : Nat) : Int) + (((wy m.data.toList r.data.toList) (i + 1) (kk + 1) : Nat) : Int))) = Value.int .i64 ((min 2 (cu + (wy m.data.toList r.data.toList) (i + 1) (kk + 1)) : Nat) : Int) by congr 1; omega)
                    rw [HVM.out]
                    obtain ⟨wy', hwx⟩ : ∃ wy', wy' = (wq.drewN nr).setCell ⟨B, j, none⟩ (.int .i64 ((min 2 (cu + (wy m.data.toList r.data.toList) (i + 1) (kk + 1)) : Nat) : Int)) := ⟨_, rfl⟩
                    rw [← hwx]
                    have HM' : Hid (Mat wy' w2.heap.size w2.heap.size (m.size + 1) (r.size + 1) i (i + 1) (wy m.data.toList r.data.toList) gr2) := Lib.hid (by rw [hwx]; exact (HM.out.drewN nr).set_other _ _ hBg HGN.out)
                    have HR' : Hid (Row wy' B 3 ((ints (rowOf (wy m.data.toList r.data.toList) (r.size + 1) i (j + 1))).set j (.int .i64 ((min 2 (cu + (wy m.data.toList r.data.toList) (i + 1) (kk + 1)) : Nat) : Int)))) := Lib.hid (by rw [hwx]; have := (HR.out.drewN nr).set j (.int .i64 ((min 2 (cu + (wy m.data.toList r.data.toList) (i + 1) (kk + 1)) : Nat) : Int)); rwa [List.set_set] at this)
                    have HB' : Hid (Below w2.heap.size w2 wy') := Lib.hid (by rw [hwx]; exact (below_drewN HB.out nr).setCell (p := ⟨B, j, none⟩) hBb _)
                    clear hwx HM HR HB
                    obtain ⟨wx, rfl⟩ : ∃ wx, wx = wy' := ⟨_, rfl⟩
                    have HM := HM'; have HR := HR'; have HB := HB'
                    clear HM' HR' HB'
                    go_roundw
                    case rel =>
                      refine ⟨kk + 1, min 2 (cu + (wy m.data.toList r.data.toList) (i + 1) (kk + 1)), by omega, by omega, by go_num, by omega, ?_, HM.out, HR.out, HB.out⟩
                      rw [← HMIN.out, HSM.out, if_pos HH.out, Nat.sub_sub]; omega
                    case measure => simp [intOf]; omega
                  · have hh' : hit m.data.toList r.data.toList i j kk = false := by simpa using hh
                    rw [hh'] at hTT
                    have HH := Lib.hid hh; clear hh hh'
                    go_wp2_with fail
                    go_quiet ((go_at_call 50; exact Calls.quiet_of_same (differs_same _ _ _)))
                    go_wp2_with fail
                    go_roundw
                    case rel =>
                      refine ⟨kk + 1, cu, by omega, by omega, by go_num, hcu, ?_, HM.out.drewN _, HR.out.drewN _, below_drewN HB.out _⟩
                      rw [← HMIN.out, HSM.out, if_neg HH.out, Nat.sub_sub, Nat.zero_add]
                    case measure => simp [intOf]; omega
                · obtain rfl : kk = r.size := by omega
                  have hlt' : decide ((r.size : Int) < (r.size : Int)) = false := by simp
                  have HFIN := Lib.hid (show (wy m.data.toList r.data.toList) i j = cu by have h := HMIN.out; rw [Nat.sub_self] at h; simp only [sm] at h; omega)
                  go_wp2_with fail
                  go_roundw
                  case rel =>
                    refine ⟨j, by omega, by go_num, HM.out, ?_, HB.out⟩
                    have := HR.out
                    rw [← HFIN.out, HPUT.out] at this
                    exact this
                  case measure => simp [intOf]
            | false =>
              have tI := HT.out.out i (Nat.zero_le _) (by omega)
              have tI1 := HT.out.out (i + 1) (Nat.zero_le _) (by omega)
              have tJ := HT.out.cell i j (Nat.zero_le _) (by omega) (by omega)
              have tJ1 := HT.out.cell (i + 1) j (Nat.zero_le _) (by omega) (by omega)
              go_wp2_with fail
              go_quiet (fail)
              clear tI tI1 tJ tJ1
              obtain ⟨wq, hwq⟩ : ∃ wq, wq = wr.drewN nq := ⟨_, rfl⟩
              rw [← hwq]
              have HM : Hid (Mat wq w2.heap.size w2.heap.size (m.size + 1) (r.size + 1) i (i + 1) (wy m.data.toList r.data.toList) gr2) := Lib.hid (by rw [hwq]; exact HM.out.drewN _)
              have HR : Hid (Row wq B 3 ((ints (rowOf (wy m.data.toList r.data.toList) (r.size + 1) i (j + 1))).set j (.int .i64 0))) := Lib.hid (by rw [hwq, HS0.out]; exact HR.out.drewN _)
              have HB : Hid (Below w2.heap.size w2 wq) := Lib.hid (by rw [hwq]; exact below_drewN HB.out _)
              clear hwq
              go_wp2_with fail
              go_loopw [13] (fun a wr4 => ∃ (kk cu : Nat), j ≤ kk ∧ kk ≤ r.size ∧ a = .int .i64 kk ∧ cu ≤ 2 ∧ min (cu + sm (hit m.data.toList r.data.toList i j) ((wy m.data.toList r.data.toList) (i + 1)) (r.size - kk) kk) 2 = (wy m.data.toList r.data.toList) i j ∧ Mat wr4 w2.heap.size w2.heap.size (m.size + 1) (r.size + 1) i (i + 1) (wy m.data.toList r.data.toList) gr2 ∧ Row wr4 B 3 ((ints (rowOf (wy m.data.toList r.data.toList) (r.size + 1) i (j + 1))).set j (.int .i64 (cu : Nat))) ∧ Below w2.heap.size w2 wr4) (fun a _ => r.size - (intOf a).toNat)
              case atStart => exact ⟨j, 0, Nat.le_refl _, by omega, rfl, by omega, by rw [HV.out, HN0.out]; rfl, HM.out, HR.out, HB.out⟩
              case round =>
                obtain ⟨kk, cu, hk1, hk2, rfl, hcu, hmin, hmat, hrw, hb⟩ := hrel
                have HM := Lib.hid hmat; clear hmat
                have HR := Lib.hid hrw; clear hrw
                have HB := Lib.hid hb; clear hb
                have HMIN := Lib.hid hmin; clear hmin
                have HT := Lib.hid (HT0.out.below HB.out)
                by_cases hlt : kk < r.size
                · have hz3 := HW.out (i + 1) (kk + 1)
                  have hz4 := HW.out i j
                  have hy3 := HY.out (i + 1) (kk + 1)
                  have b4 := dif_le m[i] r[kk]
                  simp only [Array.length_toList, ByteArray.size_data] at hz3 hz4
                  have tI := HT.out.out i (Nat.zero_le _) (by omega)
                  have tI1 := HT.out.out (i + 1) (Nat.zero_le _) (by omega)
                  have tJ := HT.out.cell i j (Nat.zero_le _) (by omega) (by omega)
                  have tK1 := HT.out.cell (i + 1) (kk + 1) (Nat.zero_le _) (by omega) (by omega)
                  have hTT := hit_int m r i j kk hi1 hlt hk1
                  have HSM := Lib.hid (sm_step (hit m.data.toList r.data.toList i j) ((wy m.data.toList r.data.toList) (i + 1)) (r.size - kk) kk (by omega))
                  by_cases hh : hit m.data.toList r.data.toList i j kk = true
                  · rw [hh] at hTT
                    have HH := Lib.hid hh; clear hh
                    go_wp2_with fail
                    go_quiet ((go_at_call 50; exact Calls.quiet_of_same (differs_same _ _ _)))
                    clear tI tI1 tJ tK1
                    obtain ⟨wq, hwq⟩ : ∃ wq, wq = wr.drewN nq := ⟨_, rfl⟩
                    rw [← hwq]
                    have HM : Hid (Mat wq w2.heap.size w2.heap.size (m.size + 1) (r.size + 1) i (i + 1) (wy m.data.toList r.data.toList) gr2) := Lib.hid (by rw [hwq]; exact HM.out.drewN _)
                    have HR : Hid (Row wq B 3 ((ints (rowOf (wy m.data.toList r.data.toList) (r.size + 1) i (j + 1))).set j (.int .i64 (cu : Nat)))) := Lib.hid (by rw [hwq]; exact HR.out.drewN _)
                    have HB : Hid (Below w2.heap.size w2 wq) := Lib.hid (by rw [hwq]; exact below_drewN HB.out _)
                    clear hwq
                    have oI : wq.cell? ⟨w2.heap.size, i, none⟩ = some (.slice (some ⟨B, 0, none⟩) (r.size + 1) (r.size + 1)) := by rw [HM.out.out i (Nat.le_refl _) (by omega), HGI.out]
                    have cJ : wq.cell? ⟨B, j, none⟩ = some (.int .i64 (cu : Nat)) := by rw [HR.out.cell, List.getElem?_set, if_pos rfl, if_pos (by rw [ints_len, rowOf_len]; omega)]
                    have fJ := HR.out.frozen j
                    have oI1 := HM.out.out (i + 1) (by omega) (by omega)
                    have gK1 := HM.out.cell (i + 1) (kk + 1) (Nat.le_refl _) (by omega) (by omega)
                    go_wp2_with fail
                    refine wp_region_quiet_tail 24 (by kernel_rfl) (by kernel_rfl) ?_
                    simp only [List.take_succ_cons, List.take_zero, List.drop_succ_cons, List.drop_zero]
                    repeat (go_big_quiet_step (fail))
                    refine wpQuiet_nil ?_
                    rintro _ ⟨nr, rfl⟩
                    go_wp2_with fail
                    clear oI cJ fJ oI1 gK1
                    have HVM := Lib.hid (show Value.int .i64 (min 2 (((cu : Nat) : Int) + (((wy m.data.toList r.data.toList) (i + 1) (kk + 1) : Nat) : Int))) = Value.int .i64 ((min 2 (cu + (wy m.data.toList r.data.toList) (i + 1) (kk + 1)) : Nat) : Int) by congr 1; omega)
                    rw [HVM.out]
                    obtain ⟨wy', hwx⟩ : ∃ wy', wy' = (wq.drewN nr).setCell ⟨B, j, none⟩ (.int .i64 ((min 2 (cu + (wy m.data.toList r.data.toList) (i + 1) (kk + 1)) : Nat) : Int)) := ⟨_, rfl⟩
                    rw [← hwx]
                    have HM' : Hid (Mat wy' w2.heap.size w2.heap.size (m.size + 1) (r.size + 1) i (i + 1) (wy m.data.toList r.data.toList) gr2) := Lib.hid (by rw [hwx]; exact (HM.out.drewN nr).set_other _ _ hBg HGN.out)
                    have HR' : Hid (Row wy' B 3 ((ints (rowOf (wy m.data.toList r.data.toList) (r.size + 1) i (j + 1))).set j (.int .i64 ((min 2 (cu + (wy m.data.toList r.data.toList) (i + 1) (kk + 1)) : Nat) : Int)))) := Lib.hid (by rw [hwx]; have := (HR.out.drewN nr).set j (.int .i64 ((min 2 (cu + (wy m.data.toList r.data.toList) (i + 1) (kk + 1)) : Nat) : Int)); rwa [List.set_set] at this)
                    have HB' : Hid (Below w2.heap.size w2 wy') := Lib.hid (by rw [hwx]; exact (below_drewN HB.out nr).setCell (p := ⟨B, j, none⟩) hBb _)
                    clear hwx HM HR HB
                    obtain ⟨wx, rfl⟩ : ∃ wx, wx = wy' := ⟨_, rfl⟩
                    have HM := HM'; have HR := HR'; have HB := HB'
                    clear HM' HR' HB'
                    go_roundw
                    case rel =>
                      refine ⟨kk + 1, min 2 (cu + (wy m.data.toList r.data.toList) (i + 1) (kk + 1)), by omega, by omega, by go_num, by omega, ?_, HM.out, HR.out, HB.out⟩
                      rw [← HMIN.out, HSM.out, if_pos HH.out, Nat.sub_sub]; omega
                    case measure => simp [intOf]; omega
                  · have hh' : hit m.data.toList r.data.toList i j kk = false := by simpa using hh
                    rw [hh'] at hTT
                    have HH := Lib.hid hh; clear hh hh'
                    go_wp2_with fail
                    go_quiet ((go_at_call 50; exact Calls.quiet_of_same (differs_same _ _ _)))
                    go_wp2_with fail
                    go_roundw
                    case rel =>
                      refine ⟨kk + 1, cu, by omega, by omega, by go_num, hcu, ?_, HM.out.drewN _, HR.out.drewN _, below_drewN HB.out _⟩
                      rw [← HMIN.out, HSM.out, if_neg HH.out, Nat.sub_sub, Nat.zero_add]
                    case measure => simp [intOf]; omega
                · obtain rfl : kk = r.size := by omega
                  have hlt' : decide ((r.size : Int) < (r.size : Int)) = false := by simp
                  have HFIN := Lib.hid (show (wy m.data.toList r.data.toList) i j = cu by have h := HMIN.out; rw [Nat.sub_self] at h; simp only [sm] at h; omega)
                  go_wp2_with fail
                  go_roundw
                  case rel =>
                    refine ⟨j, by omega, by go_num, HM.out, ?_, HB.out⟩
                    have := HR.out
                    rw [← HFIN.out, HPUT.out] at this
                    exact this
                  case measure => simp [intOf]

set_option maxHeartbeats 800000 in
set_option maxRecDepth 100000 in
theorem refUnique_any (m r : ByteArray) (w : World) :
    Calls Try.prog 26 #[.string m, .string r] w fun e w' => e = .returned (.tuple #[.bool (uqV m.data.toList r.data.toList), .int .i64 (chkA m.data.toList r.data.toList)]) ∧ Below w.heap.size w w' := by
  by_cases h : chkA m.data.toList r.data.toList = 0
  · refine (refUnique_ok m r w h).mono fun e w' ⟨he, hb⟩ => ⟨?_, hb⟩
    rw [he, uqV, if_pos h, h]
  · have hb : (chkA m.data.toList r.data.toList != 0) = true := by simpa using h
    have HV := Lib.hid (show uqV m.data.toList r.data.toList = false by rw [uqV, if_neg h])
    clear h
    go_enter Try.func26, Try.ntmps26
    go_wp2_with fail
    refine (rcheck_any _ _ _).mono ?_
    rintro e w1 ⟨rfl, rfl⟩
    go_wp2_with fail
    go_ret2
    exact ⟨by rw [HV.out]; rfl, Below.refl _ _⟩
end Go.Proofs.Ytpnfipemencgnaa
