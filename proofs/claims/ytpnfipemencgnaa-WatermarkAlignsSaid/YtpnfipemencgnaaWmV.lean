/-
  The reference: the table of least costs.
-/
import Derived.Test.YtpnfipemencgnaaWmD
import Derived.Test.YtpnfipemencgnaaMat
import Derived.Test.YtpnfipemencgnaaPl
namespace Go.Proofs.Ytpnfipemencgnaa
open Go.RowKit

set_option maxHeartbeats 400000 in
theorem differs_any (a b : UInt8) (w : World) :
    Calls Try.prog 50 #[.int .u8 a.toNat, .int .u8 b.toNat] w fun e w' => e = .returned (.int .i64 (dif a b : Nat)) ∧ w = w' := by
  by_cases h : a = b
  · have hb : (((a.toNat : Nat) : Int) == ((b.toNat : Nat) : Int)) = true := by rw [h]; simp
    have hd := Lib.hid (show dif a b = 0 by rw [dif, if_pos h])
    clear h
    go_enter Try.func50, Try.ntmps50
    go_wp2
    go_ret
    exact ⟨by rw [hd.out]; rfl, rfl⟩
  · have hb : (((a.toNat : Nat) : Int) == ((b.toNat : Nat) : Int)) = false := by
      rw [beq_eq_false_iff_ne]; intro he; apply h; rw [← UInt8.toNat_inj]; omega
    have hd := Lib.hid (show dif a b = 1 by rw [dif, if_neg h])
    clear h
    go_enter Try.func50, Try.ntmps50
    go_wp2
    go_ret
    exact ⟨by rw [hd.out]; rfl, rfl⟩

theorem differs_same (a b : UInt8) (w : World) :
    Calls Try.prog 50 #[.int .u8 a.toNat, .int .u8 b.toNat] w fun e w' => e = .returned (.int .i64 (dif a b : Nat)) ∧ w' = w :=
  (differs_any a b w).mono fun _ _ ⟨h1, h2⟩ => ⟨h1, h2.symm⟩
theorem wcI_le2 (m r : List UInt8) (i k : Nat) : wcI m r i k ≤ 2 * (m.length - i) + 2 * (r.length - k) := by
  have := wc_le (m.drop i) (r.drop k)
  rw [List.length_drop, List.length_drop] at this
  have e : wcI m r i k = wc (m.drop i) (r.drop k) := by unfold wcI; rfl
  rw [e]; omega

set_option maxHeartbeats 4000000 in
set_option maxRecDepth 100000 in
theorem table_any (m r : ByteArray) (w : World) (hm : m.size ≤ 256) (hr : r.size ≤ 256) :
    Calls Try.prog 49 #[.string m, .string r] w fun e w' => ∃ g gr, e = .returned (.slice (some ⟨g, 0, none⟩) (m.size + 1) (m.size + 1)) ∧ Mat w' w.heap.size g (m.size + 1) (r.size + 1) 0 0 (wcI m.data.toList r.data.toList) gr ∧ Below w.heap.size w w' := by
  have HW := Lib.hid (wcI_le m.data.toList r.data.toList)
  go_enter Try.func49, Try.ntmps49
  go_wp2_with (at_make; refine wpList_mkrow _ rfl _ _ rfl 28 (.slice none 0 0) 24 Try.underlying75 (by kernel_rfl) rfl ((m.size : Int) + 1) (m.size + 1) rfl rfl (by omega) (by omega) ?_; intro w1 hrow1 hb1 hsz1)
  have HM1 := Lib.hid (mat_start (base := w.heap.size) (r.size + 1) (wcI m.data.toList r.data.toList) (fun _ => 0) hrow1 (Nat.le_refl _)); clear hrow1
  have HB1 := Lib.hid hb1; clear hb1
  -- WALK
  go_wp2_with fail
  go_loopw [8] (fun a wr => ∃ (I : Nat) (gr : Nat → Nat), I ≤ m.size + 1 ∧ a = .int .i64 ((I : Int) - 1) ∧ Mat wr w.heap.size w.heap.size (m.size + 1) (r.size + 1) I I (wcI m.data.toList r.data.toList) gr ∧ Below w.heap.size w wr) (fun a _ => (intOf a + 1).toNat)
  case atStart => exact ⟨m.size + 1, _, by omega, by go_num, HM1.out, HB1.out⟩
  case round =>
    obtain ⟨I, gr, hI, hv, hmat, hb⟩ := hrel
    have HM := Lib.hid hmat; clear hmat
    have HB := Lib.hid hb; clear hb
    by_cases h0 : I = 0
    · subst h0
      subst hv
      go_wp2_with fail
      go_ret
      exact ⟨_, gr, rfl, HM.out, HB.out⟩
    · obtain ⟨i, rfl⟩ : ∃ i, I = i + 1 := ⟨I - 1, by omega⟩
      rw [show (((i + 1 : Nat) : Int) - 1) = (i : Int) by omega] at hv
      subst hv
      have hwr : w.heap.size < wr.heap.size := HM.out.1.lt
      have HGL := Lib.hid (fun j (h1 : i + 1 ≤ j) (h2 : j < m.size + 1) => (HM.out.2.2 j h1 h2).2.2.lt)
      go_wp2_with (at_make; refine wpList_mkrow _ rfl _ _ rfl 3 (.int .i64 0) 8 Try.underlying28 (by kernel_rfl) rfl ((r.size : Int) + 1) (r.size + 1) rfl rfl (by omega) (by omega) ?_; intro w2 hrow2 hb2 hsz2; have HM2 := Lib.hid (HM.out.below hb2); have old : ∃ v, w2.cell? ⟨w.heap.size, i, none⟩ = some v := ⟨_, (by rw [HM2.out.1.cell, outer_get _ _ _ _ _ (by omega)])⟩; obtain ⟨vold, old⟩ := old; have fold := HM2.out.1.frozen i; have HR2 := Lib.hid hrow2; clear hrow2; have HB2 := Lib.hid (ext_trans HB.out hb2); clear hb2)
      obtain ⟨B, hBe⟩ : ∃ B, B = wr.heap.size := ⟨_, rfl⟩
      obtain ⟨gr2, hg2⟩ : ∃ gr2 : Nat → Nat, gr2 = fun j => if j = i then B else gr j := ⟨_, rfl⟩
      have hgi : gr2 i = B := by rw [hg2]; simp
      have hBg : B ≠ w.heap.size := by rw [hBe]; omega
      have hBb : w.heap.size ≤ B := by rw [hBe]; omega
      have hgn : ∀ j, i + 1 ≤ j → j < m.size + 1 → B ≠ gr2 j := fun j h1 h2 => by
        have := HGL.out j h1 h2
        rw [hg2, hBe]; dsimp only; rw [if_neg (show ¬ j = i by omega)]; omega
      have HM3 := Lib.hid (show Mat (w2.setCell ⟨w.heap.size, i, none⟩ (.slice (some ⟨wr.heap.size, 0, none⟩) (r.size + 1) (r.size + 1))) w.heap.size w.heap.size (m.size + 1) (r.size + 1) i (i + 1) (wcI m.data.toList r.data.toList) gr2 by
        rw [hg2, hBe]; exact HM2.out.put (by omega) _ (by omega))
      have HR3 := Lib.hid (show Row (w2.setCell ⟨w.heap.size, i, none⟩ (.slice (some ⟨wr.heap.size, 0, none⟩) (r.size + 1) (r.size + 1))) B 3 (ints (rowOf (wcI m.data.toList r.data.toList) (r.size + 1) i (r.size + 1))) by
        rw [hBe, ← rowOf_start]; exact HR2.out.set_other _ _ (show wr.heap.size ≠ w.heap.size by omega))
      have HB3 := Lib.hid (HB2.out.setCell (p := ⟨w.heap.size, i, none⟩) (Nat.le_refl _) (.slice (some ⟨wr.heap.size, 0, none⟩) (r.size + 1) (r.size + 1)))
      have HGI := Lib.hid hgi
      have HGN := Lib.hid hgn
      clear hg2 hgi hgn old fold HM2 HR2 HB2 HM HGL HB
      clear hBe hwr
      go_loopw [9] (fun a wr => ∃ J : Nat, J ≤ r.size + 1 ∧ a = .int .i64 ((J : Int) - 1) ∧ Mat wr w.heap.size w.heap.size (m.size + 1) (r.size + 1) i (i + 1) (wcI m.data.toList r.data.toList) gr2 ∧ Row wr B 3 (ints (rowOf (wcI m.data.toList r.data.toList) (r.size + 1) i J)) ∧ Below w.heap.size w wr) (fun a _ => (intOf a + 1).toNat)
      case atStart => exact ⟨r.size + 1, by omega, by go_num, HM3.out, HR3.out, HB3.out⟩
      case round =>
        obtain ⟨J, hJ, hv, hmat, hrw, hb⟩ := hrel
        have HM := Lib.hid hmat; clear hmat
        have HR := Lib.hid hrw; clear hrw
        have HB := Lib.hid hb; clear hb
        by_cases hJ0 : J = 0
        · subst hJ0
          subst hv
          have HMF := Lib.hid (HM.out.full (by rw [HGI.out]; exact hBb) (by rw [HGI.out]; exact hBg) (by rw [HGI.out]; exact HR.out))
          go_wp2_with fail
          go_roundw
          case rel => exact ⟨i, gr2, by omega, by go_num, HMF.out, HB.out⟩
          case measure => simp [intOf]
        · obtain ⟨k, rfl⟩ : ∃ k, J = k + 1 := ⟨J - 1, by omega⟩
          rw [show (((k + 1 : Nat) : Int) - 1) = (k : Int) by omega] at hv
          subst hv
          have hgi := HGI.out
          have hgn := HGN.out
          have HPUT := Lib.hid (rowOf_put (wcI m.data.toList r.data.toList) (r.size + 1) i k (by omega))
          have bI := HW.out i k
          have bI1 := HW.out (i + 1) k
          have bIk := HW.out i (k + 1)
          have bIk1 := HW.out (i + 1) (k + 1)
          simp only [Array.length_toList, ByteArray.size_data] at bI bI1 bIk bIk1
          rcases Nat.lt_or_ge i m.size with hi | hi
          · rcases Nat.lt_or_ge k r.size with hk | hk
            · have oI : wr.cell? ⟨w.heap.size, i, none⟩ = some (.slice (some ⟨B, 0, none⟩) (r.size + 1) (r.size + 1)) := by rw [HM.out.out i (Nat.le_refl _) (by omega), hgi]
              have cK : wr.cell? ⟨B, k, none⟩ = some (.int .i64 0) := by rw [HR.out.cell]; rw [rowOf_get _ _ _ _ _ (by omega), if_neg (by omega)]
              have fK := HR.out.frozen k
              have cK1 : wr.cell? ⟨B, k + 1, none⟩ = some (.int .i64 (wcI m.data.toList r.data.toList i (k + 1) : Nat)) := by rw [HR.out.cell]; rw [rowOf_get _ _ _ _ _ (by omega), if_pos (by omega)]
              have oI1 := HM.out.out (i + 1) (by omega) (by omega)
              have gK := HM.out.cell (i + 1) k (Nat.le_refl _) (by omega) (by omega)
              have gK1 := HM.out.cell (i + 1) (k + 1) (Nat.le_refl _) (by omega) (by omega)
              go_wp2_with fail
              clear oI cK fK cK1 oI1 gK gK1
              obtain ⟨wy', hwx⟩ : ∃ wy', wy' = (wr).setCell ⟨B, k, none⟩ (.int .i64 (2 * ((m.size : Int) - (i : Int)) + 2 * ((r.size : Int) - (k : Int)))) := ⟨_, rfl⟩
              rw [← hwx]
              have HM' : Hid (Mat wy' w.heap.size w.heap.size (m.size + 1) (r.size + 1) i (i + 1) (wcI m.data.toList r.data.toList) gr2) := Lib.hid (by rw [hwx]; exact HM.out.set_other _ _ hBg hgn)
              have HR' : Hid (Row wy' B 3 ((ints (rowOf (wcI m.data.toList r.data.toList) (r.size + 1) i (k + 1))).set k (.int .i64 (2 * ((m.size : Int) - (i : Int)) + 2 * ((r.size : Int) - (k : Int)))))) := Lib.hid (by rw [hwx]; exact HR.out.set k _)
              have HB' : Hid (Below w.heap.size w wy') := Lib.hid (by rw [hwx]; exact HB.out.setCell (p := ⟨B, k, none⟩) hBb _)
              clear hwx HM HR HB
              obtain ⟨wx, rfl⟩ : ∃ wx, wx = wy' := ⟨_, rfl⟩
              have HM := HM'; have HR := HR'; have HB := HB'
              clear HM' HR' HB'
              have oI : wx.cell? ⟨w.heap.size, i, none⟩ = some (.slice (some ⟨B, 0, none⟩) (r.size + 1) (r.size + 1)) := by rw [HM.out.out i (Nat.le_refl _) (by omega), hgi]
              have cK : wx.cell? ⟨B, k, none⟩ = some (.int .i64 (2 * ((m.size : Int) - (i : Int)) + 2 * ((r.size : Int) - (k : Int)))) := by rw [HR.out.cell]; rw [List.getElem?_set, if_pos rfl, if_pos (by rw [ints_len, rowOf_len]; omega)]
              have fK := HR.out.frozen k
              have cK1 : wx.cell? ⟨B, k + 1, none⟩ = some (.int .i64 (wcI m.data.toList r.data.toList i (k + 1) : Nat)) := by rw [HR.out.cell]; rw [List.getElem?_set, if_neg (by omega)]; rw [rowOf_get _ _ _ _ _ (by omega), if_pos (by omega)]
              have oI1 := HM.out.out (i + 1) (by omega) (by omega)
              have gK := HM.out.cell (i + 1) k (Nat.le_refl _) (by omega) (by omega)
              have gK1 := HM.out.cell (i + 1) (k + 1) (Nat.le_refl _) (by omega) (by omega)
              refine wp_region_quiet_tail 23 (by kernel_rfl) (by kernel_rfl) ?_
              simp only [List.take_succ_cons, List.take_zero, List.drop_succ_cons, List.drop_zero]
              repeat (go_big_quiet_step (fail))
              refine wpQuiet_nil ?_
              rintro _ ⟨nq, rfl⟩
              go_wp2_with fail
              clear oI cK fK cK1 oI1 gK gK1
              obtain ⟨wy', hwx⟩ : ∃ wy', wy' = (wx.drewN nq).setCell ⟨B, k, none⟩ (.int .i64 (min (2 * ((m.size : Int) - (i : Int)) + 2 * ((r.size : Int) - (k : Int))) (2 + ((wcI m.data.toList r.data.toList (i + 1) k : Nat) : Int)))) := ⟨_, rfl⟩
              rw [← hwx]
              have HM' : Hid (Mat wy' w.heap.size w.heap.size (m.size + 1) (r.size + 1) i (i + 1) (wcI m.data.toList r.data.toList) gr2) := Lib.hid (by rw [hwx]; exact (HM.out.drewN nq).set_other _ _ hBg hgn)
              have HR' : Hid (Row wy' B 3 ((ints (rowOf (wcI m.data.toList r.data.toList) (r.size + 1) i (k + 1))).set k (.int .i64 (min (2 * ((m.size : Int) - (i : Int)) + 2 * ((r.size : Int) - (k : Int))) (2 + ((wcI m.data.toList r.data.toList (i + 1) k : Nat) : Int)))))) := Lib.hid (by rw [hwx]; (have := (HR.out.drewN nq).set k (.int .i64 (min (2 * ((m.size : Int) - (i : Int)) + 2 * ((r.size : Int) - (k : Int))) (2 + ((wcI m.data.toList r.data.toList (i + 1) k : Nat) : Int)))); rwa [List.set_set] at this))
              have HB' : Hid (Below w.heap.size w wy') := Lib.hid (by rw [hwx]; exact (below_drewN HB.out nq).setCell (p := ⟨B, k, none⟩) hBb _)
              clear hwx HM HR HB
              obtain ⟨wx, rfl⟩ : ∃ wx, wx = wy' := ⟨_, rfl⟩
              have HM := HM'; have HR := HR'; have HB := HB'
              clear HM' HR' HB'
              have oI : wx.cell? ⟨w.heap.size, i, none⟩ = some (.slice (some ⟨B, 0, none⟩) (r.size + 1) (r.size + 1)) := by rw [HM.out.out i (Nat.le_refl _) (by omega), hgi]
              have cK : wx.cell? ⟨B, k, none⟩ = some (.int .i64 (min (2 * ((m.size : Int) - (i : Int)) + 2 * ((r.size : Int) - (k : Int))) (2 + ((wcI m.data.toList r.data.toList (i + 1) k : Nat) : Int)))) := by rw [HR.out.cell]; rw [List.getElem?_set, if_pos rfl, if_pos (by rw [ints_len, rowOf_len]; omega)]
              have fK := HR.out.frozen k
              have cK1 : wx.cell? ⟨B, k + 1, none⟩ = some (.int .i64 (wcI m.data.toList r.data.toList i (k + 1) : Nat)) := by rw [HR.out.cell]; rw [List.getElem?_set, if_neg (by omega)]; rw [rowOf_get _ _ _ _ _ (by omega), if_pos (by omega)]
              have oI1 := HM.out.out (i + 1) (by omega) (by omega)
              have gK := HM.out.cell (i + 1) k (Nat.le_refl _) (by omega) (by omega)
              have gK1 := HM.out.cell (i + 1) (k + 1) (Nat.le_refl _) (by omega) (by omega)
              refine wp_region_quiet_tail 23 (by kernel_rfl) (by kernel_rfl) ?_
              simp only [List.take_succ_cons, List.take_zero, List.drop_succ_cons, List.drop_zero]
              repeat (go_big_quiet_step (fail))
              refine wpQuiet_nil ?_
              rintro _ ⟨nq, rfl⟩
              go_wp2_with fail
              clear oI cK fK cK1 oI1 gK gK1
              obtain ⟨wy', hwx⟩ : ∃ wy', wy' = (wx.drewN nq).setCell ⟨B, k, none⟩ (.int .i64 (min (2 * ((m.size : Int) - (i : Int)) + 2 * ((r.size : Int) - (k : Int))) (2 + (min ((wcI m.data.toList r.data.toList (i + 1) k : Nat) : Int) ((wcI m.data.toList r.data.toList i (k + 1) : Nat) : Int))))) := ⟨_, rfl⟩
              rw [← hwx]
              have HM' : Hid (Mat wy' w.heap.size w.heap.size (m.size + 1) (r.size + 1) i (i + 1) (wcI m.data.toList r.data.toList) gr2) := Lib.hid (by rw [hwx]; exact (HM.out.drewN nq).set_other _ _ hBg hgn)
              have HR' : Hid (Row wy' B 3 ((ints (rowOf (wcI m.data.toList r.data.toList) (r.size + 1) i (k + 1))).set k (.int .i64 (min (2 * ((m.size : Int) - (i : Int)) + 2 * ((r.size : Int) - (k : Int))) (2 + (min ((wcI m.data.toList r.data.toList (i + 1) k : Nat) : Int) ((wcI m.data.toList r.data.toList i (k + 1) : Nat) : Int))))))) := Lib.hid (by rw [hwx]; (have := (HR.out.drewN nq).set k (.int .i64 (min (2 * ((m.size : Int) - (i : Int)) + 2 * ((r.size : Int) - (k : Int))) (2 + (min ((wcI m.data.toList r.data.toList (i + 1) k : Nat) : Int) ((wcI m.data.toList r.data.toList i (k + 1) : Nat) : Int))))); rwa [List.set_set] at this))
              have HB' : Hid (Below w.heap.size w wy') := Lib.hid (by rw [hwx]; exact (below_drewN HB.out nq).setCell (p := ⟨B, k, none⟩) hBb _)
              clear hwx HM HR HB
              obtain ⟨wx, rfl⟩ : ∃ wx, wx = wy' := ⟨_, rfl⟩
              have HM := HM'; have HR := HR'; have HB := HB'
              clear HM' HR' HB'
              have bd := dif_le m[i] r[k]
              have oI : wx.cell? ⟨w.heap.size, i, none⟩ = some (.slice (some ⟨B, 0, none⟩) (r.size + 1) (r.size + 1)) := by rw [HM.out.out i (Nat.le_refl _) (by omega), hgi]
              have cK : wx.cell? ⟨B, k, none⟩ = some (.int .i64 (min (2 * ((m.size : Int) - (i : Int)) + 2 * ((r.size : Int) - (k : Int))) (2 + (min ((wcI m.data.toList r.data.toList (i + 1) k : Nat) : Int) ((wcI m.data.toList r.data.toList i (k + 1) : Nat) : Int))))) := by rw [HR.out.cell]; rw [List.getElem?_set, if_pos rfl, if_pos (by rw [ints_len, rowOf_len]; omega)]
              have fK := HR.out.frozen k
              have cK1 : wx.cell? ⟨B, k + 1, none⟩ = some (.int .i64 (wcI m.data.toList r.data.toList i (k + 1) : Nat)) := by rw [HR.out.cell]; rw [List.getElem?_set, if_neg (by omega)]; rw [rowOf_get _ _ _ _ _ (by omega), if_pos (by omega)]
              have oI1 := HM.out.out (i + 1) (by omega) (by omega)
              have gK := HM.out.cell (i + 1) k (Nat.le_refl _) (by omega) (by omega)
              have gK1 := HM.out.cell (i + 1) (k + 1) (Nat.le_refl _) (by omega) (by omega)
              refine wp_region_quiet_tail 31 (by kernel_rfl) (by kernel_rfl) ?_
              simp only [List.take_succ_cons, List.take_zero, List.drop_succ_cons, List.drop_zero]
              repeat (go_big_quiet_step ((go_at_call 50; exact Calls.quiet_of_same (differs_same _ _ _))))
              refine wpQuiet_nil ?_
              rintro _ ⟨nq, rfl⟩
              go_wp2_with fail
              clear oI cK fK cK1 oI1 gK gK1
              obtain ⟨wy', hwx⟩ : ∃ wy', wy' = (wx.drewN nq).setCell ⟨B, k, none⟩ (.int .i64 (min (2 * ((m.size : Int) - (i : Int)) + 2 * ((r.size : Int) - (k : Int))) (min (2 + (min ((wcI m.data.toList r.data.toList (i + 1) k : Nat) : Int) ((wcI m.data.toList r.data.toList i (k + 1) : Nat) : Int))) (((dif m[i] r[k] : Nat) : Int) + ((wcI m.data.toList r.data.toList (i + 1) (k + 1) : Nat) : Int))))) := ⟨_, rfl⟩
              rw [← hwx]
              have HM' : Hid (Mat wy' w.heap.size w.heap.size (m.size + 1) (r.size + 1) i (i + 1) (wcI m.data.toList r.data.toList) gr2) := Lib.hid (by rw [hwx]; exact (HM.out.drewN nq).set_other _ _ hBg hgn)
              have HR' : Hid (Row wy' B 3 ((ints (rowOf (wcI m.data.toList r.data.toList) (r.size + 1) i (k + 1))).set k (.int .i64 (min (2 * ((m.size : Int) - (i : Int)) + 2 * ((r.size : Int) - (k : Int))) (min (2 + (min ((wcI m.data.toList r.data.toList (i + 1) k : Nat) : Int) ((wcI m.data.toList r.data.toList i (k + 1) : Nat) : Int))) (((dif m[i] r[k] : Nat) : Int) + ((wcI m.data.toList r.data.toList (i + 1) (k + 1) : Nat) : Int))))))) := Lib.hid (by rw [hwx]; (have := (HR.out.drewN nq).set k (.int .i64 (min (2 * ((m.size : Int) - (i : Int)) + 2 * ((r.size : Int) - (k : Int))) (min (2 + (min ((wcI m.data.toList r.data.toList (i + 1) k : Nat) : Int) ((wcI m.data.toList r.data.toList i (k + 1) : Nat) : Int))) (((dif m[i] r[k] : Nat) : Int) + ((wcI m.data.toList r.data.toList (i + 1) (k + 1) : Nat) : Int))))); rwa [List.set_set] at this))
              have HB' : Hid (Below w.heap.size w wy') := Lib.hid (by rw [hwx]; exact (below_drewN HB.out nq).setCell (p := ⟨B, k, none⟩) hBb _)
              clear hwx HM HR HB
              obtain ⟨wx, rfl⟩ : ∃ wx, wx = wy' := ⟨_, rfl⟩
              have HM := HM'; have HR := HR'; have HB := HB'
              clear HM' HR' HB'
              go_roundw
              case rel =>
                have HV : (Value.int .i64 (min (2 * ((m.size : Int) - (i : Int)) + 2 * ((r.size : Int) - (k : Int))) (min (2 + (min ((wcI m.data.toList r.data.toList (i + 1) k : Nat) : Int) ((wcI m.data.toList r.data.toList i (k + 1) : Nat) : Int))) (((dif m[i] r[k] : Nat) : Int) + ((wcI m.data.toList r.data.toList (i + 1) (k + 1) : Nat) : Int))))) = .int .i64 ((wcI m.data.toList r.data.toList i k : Nat) : Int) := by
                  congr 1
                  have e1 := wcI_step m.data.toList r.data.toList i k (by simpa using hi) (by simpa using hk)
                  have e2 := wcI_le2 m.data.toList r.data.toList i k
                  rw [show m.data.toList[i]'(by simpa using hi) = m[i] from rfl, show r.data.toList[k]'(by simpa using hk) = r[k] from rfl] at e1
                  simp only [Array.length_toList, ByteArray.size_data] at e2
                  omega
                refine ⟨k, by omega, by go_num, HM.out, ?_, HB.out⟩
                have := HR.out
                rw [HV, HPUT.out] at this
                exact this
              case measure => simp [intOf]
            · have oI : wr.cell? ⟨w.heap.size, i, none⟩ = some (.slice (some ⟨B, 0, none⟩) (r.size + 1) (r.size + 1)) := by rw [HM.out.out i (Nat.le_refl _) (by omega), hgi]
              have cK : wr.cell? ⟨B, k, none⟩ = some (.int .i64 0) := by rw [HR.out.cell]; rw [rowOf_get _ _ _ _ _ (by omega), if_neg (by omega)]
              have fK := HR.out.frozen k
              have oI1 := HM.out.out (i + 1) (by omega) (by omega)
              have gK := HM.out.cell (i + 1) k (Nat.le_refl _) (by omega) (by omega)
              go_wp2_with fail
              clear oI cK fK oI1 gK
              obtain ⟨wy', hwx⟩ : ∃ wy', wy' = (wr).setCell ⟨B, k, none⟩ (.int .i64 (2 * ((m.size : Int) - (i : Int)) + 2 * ((r.size : Int) - (k : Int)))) := ⟨_, rfl⟩
              rw [← hwx]
              have HM' : Hid (Mat wy' w.heap.size w.heap.size (m.size + 1) (r.size + 1) i (i + 1) (wcI m.data.toList r.data.toList) gr2) := Lib.hid (by rw [hwx]; exact HM.out.set_other _ _ hBg hgn)
              have HR' : Hid (Row wy' B 3 ((ints (rowOf (wcI m.data.toList r.data.toList) (r.size + 1) i (k + 1))).set k (.int .i64 (2 * ((m.size : Int) - (i : Int)) + 2 * ((r.size : Int) - (k : Int)))))) := Lib.hid (by rw [hwx]; exact HR.out.set k _)
              have HB' : Hid (Below w.heap.size w wy') := Lib.hid (by rw [hwx]; exact HB.out.setCell (p := ⟨B, k, none⟩) hBb _)
              clear hwx HM HR HB
              obtain ⟨wx, rfl⟩ : ∃ wx, wx = wy' := ⟨_, rfl⟩
              have HM := HM'; have HR := HR'; have HB := HB'
              clear HM' HR' HB'
              have oI : wx.cell? ⟨w.heap.size, i, none⟩ = some (.slice (some ⟨B, 0, none⟩) (r.size + 1) (r.size + 1)) := by rw [HM.out.out i (Nat.le_refl _) (by omega), hgi]
              have cK : wx.cell? ⟨B, k, none⟩ = some (.int .i64 (2 * ((m.size : Int) - (i : Int)) + 2 * ((r.size : Int) - (k : Int)))) := by rw [HR.out.cell]; rw [List.getElem?_set, if_pos rfl, if_pos (by rw [ints_len, rowOf_len]; omega)]
              have fK := HR.out.frozen k
              have oI1 := HM.out.out (i + 1) (by omega) (by omega)
              have gK := HM.out.cell (i + 1) k (Nat.le_refl _) (by omega) (by omega)
              refine wp_region_quiet_tail 23 (by kernel_rfl) (by kernel_rfl) ?_
              simp only [List.take_succ_cons, List.take_zero, List.drop_succ_cons, List.drop_zero]
              repeat (go_big_quiet_step (fail))
              refine wpQuiet_nil ?_
              rintro _ ⟨nq, rfl⟩
              go_wp2_with fail
              clear oI cK fK oI1 gK
              obtain ⟨wy', hwx⟩ : ∃ wy', wy' = (wx.drewN nq).setCell ⟨B, k, none⟩ (.int .i64 (min (2 * ((m.size : Int) - (i : Int)) + 2 * ((r.size : Int) - (k : Int))) (2 + ((wcI m.data.toList r.data.toList (i + 1) k : Nat) : Int)))) := ⟨_, rfl⟩
              rw [← hwx]
              have HM' : Hid (Mat wy' w.heap.size w.heap.size (m.size + 1) (r.size + 1) i (i + 1) (wcI m.data.toList r.data.toList) gr2) := Lib.hid (by rw [hwx]; exact (HM.out.drewN nq).set_other _ _ hBg hgn)
              have HR' : Hid (Row wy' B 3 ((ints (rowOf (wcI m.data.toList r.data.toList) (r.size + 1) i (k + 1))).set k (.int .i64 (min (2 * ((m.size : Int) - (i : Int)) + 2 * ((r.size : Int) - (k : Int))) (2 + ((wcI m.data.toList r.data.toList (i + 1) k : Nat) : Int)))))) := Lib.hid (by rw [hwx]; (have := (HR.out.drewN nq).set k (.int .i64 (min (2 * ((m.size : Int) - (i : Int)) + 2 * ((r.size : Int) - (k : Int))) (2 + ((wcI m.data.toList r.data.toList (i + 1) k : Nat) : Int)))); rwa [List.set_set] at this))
              have HB' : Hid (Below w.heap.size w wy') := Lib.hid (by rw [hwx]; exact (below_drewN HB.out nq).setCell (p := ⟨B, k, none⟩) hBb _)
              clear hwx HM HR HB
              obtain ⟨wx, rfl⟩ : ∃ wx, wx = wy' := ⟨_, rfl⟩
              have HM := HM'; have HR := HR'; have HB := HB'
              clear HM' HR' HB'
              go_roundw
              case rel =>
                have HV : (Value.int .i64 (min (2 * ((m.size : Int) - (i : Int)) + 2 * ((r.size : Int) - (k : Int))) (2 + ((wcI m.data.toList r.data.toList (i + 1) k : Nat) : Int)))) = .int .i64 ((wcI m.data.toList r.data.toList i k : Nat) : Int) := by
                  congr 1
                  obtain rfl : k = r.size := by omega
                  have e1 : wcI m.data.toList r.data.toList i r.size = 2 * (m.size - i) := wcI_end m.data.toList r.data.toList i
                  have e2 : wcI m.data.toList r.data.toList (i + 1) r.size = 2 * (m.size - (i + 1)) := wcI_end m.data.toList r.data.toList (i + 1)
                  omega
                refine ⟨k, by omega, by go_num, HM.out, ?_, HB.out⟩
                have := HR.out
                rw [HV, HPUT.out] at this
                exact this
              case measure => simp [intOf]
          · rcases Nat.lt_or_ge k r.size with hk | hk
            · have oI : wr.cell? ⟨w.heap.size, i, none⟩ = some (.slice (some ⟨B, 0, none⟩) (r.size + 1) (r.size + 1)) := by rw [HM.out.out i (Nat.le_refl _) (by omega), hgi]
              have cK : wr.cell? ⟨B, k, none⟩ = some (.int .i64 0) := by rw [HR.out.cell]; rw [rowOf_get _ _ _ _ _ (by omega), if_neg (by omega)]
              have fK := HR.out.frozen k
              have cK1 : wr.cell? ⟨B, k + 1, none⟩ = some (.int .i64 (wcI m.data.toList r.data.toList i (k + 1) : Nat)) := by rw [HR.out.cell]; rw [rowOf_get _ _ _ _ _ (by omega), if_pos (by omega)]
              go_wp2_with fail
              clear oI cK fK cK1
              obtain ⟨wy', hwx⟩ : ∃ wy', wy' = (wr).setCell ⟨B, k, none⟩ (.int .i64 (2 * ((m.size : Int) - (i : Int)) + 2 * ((r.size : Int) - (k : Int)))) := ⟨_, rfl⟩
              rw [← hwx]
              have HM' : Hid (Mat wy' w.heap.size w.heap.size (m.size + 1) (r.size + 1) i (i + 1) (wcI m.data.toList r.data.toList) gr2) := Lib.hid (by rw [hwx]; exact HM.out.set_other _ _ hBg hgn)
              have HR' : Hid (Row wy' B 3 ((ints (rowOf (wcI m.data.toList r.data.toList) (r.size + 1) i (k + 1))).set k (.int .i64 (2 * ((m.size : Int) - (i : Int)) + 2 * ((r.size : Int) - (k : Int)))))) := Lib.hid (by rw [hwx]; exact HR.out.set k _)
              have HB' : Hid (Below w.heap.size w wy') := Lib.hid (by rw [hwx]; exact HB.out.setCell (p := ⟨B, k, none⟩) hBb _)
              clear hwx HM HR HB
              obtain ⟨wx, rfl⟩ : ∃ wx, wx = wy' := ⟨_, rfl⟩
              have HM := HM'; have HR := HR'; have HB := HB'
              clear HM' HR' HB'
              have oI : wx.cell? ⟨w.heap.size, i, none⟩ = some (.slice (some ⟨B, 0, none⟩) (r.size + 1) (r.size + 1)) := by rw [HM.out.out i (Nat.le_refl _) (by omega), hgi]
              have cK : wx.cell? ⟨B, k, none⟩ = some (.int .i64 (2 * ((m.size : Int) - (i : Int)) + 2 * ((r.size : Int) - (k : Int)))) := by rw [HR.out.cell]; rw [List.getElem?_set, if_pos rfl, if_pos (by rw [ints_len, rowOf_len]; omega)]
              have fK := HR.out.frozen k
              have cK1 : wx.cell? ⟨B, k + 1, none⟩ = some (.int .i64 (wcI m.data.toList r.data.toList i (k + 1) : Nat)) := by rw [HR.out.cell]; rw [List.getElem?_set, if_neg (by omega)]; rw [rowOf_get _ _ _ _ _ (by omega), if_pos (by omega)]
              refine wp_region_quiet_tail 23 (by kernel_rfl) (by kernel_rfl) ?_
              simp only [List.take_succ_cons, List.take_zero, List.drop_succ_cons, List.drop_zero]
              repeat (go_big_quiet_step (fail))
              refine wpQuiet_nil ?_
              rintro _ ⟨nq, rfl⟩
              go_wp2_with fail
              clear oI cK fK cK1
              obtain ⟨wy', hwx⟩ : ∃ wy', wy' = (wx.drewN nq).setCell ⟨B, k, none⟩ (.int .i64 (min (2 * ((m.size : Int) - (i : Int)) + 2 * ((r.size : Int) - (k : Int))) (2 + ((wcI m.data.toList r.data.toList i (k + 1) : Nat) : Int)))) := ⟨_, rfl⟩
              rw [← hwx]
              have HM' : Hid (Mat wy' w.heap.size w.heap.size (m.size + 1) (r.size + 1) i (i + 1) (wcI m.data.toList r.data.toList) gr2) := Lib.hid (by rw [hwx]; exact (HM.out.drewN nq).set_other _ _ hBg hgn)
              have HR' : Hid (Row wy' B 3 ((ints (rowOf (wcI m.data.toList r.data.toList) (r.size + 1) i (k + 1))).set k (.int .i64 (min (2 * ((m.size : Int) - (i : Int)) + 2 * ((r.size : Int) - (k : Int))) (2 + ((wcI m.data.toList r.data.toList i (k + 1) : Nat) : Int)))))) := Lib.hid (by rw [hwx]; (have := (HR.out.drewN nq).set k (.int .i64 (min (2 * ((m.size : Int) - (i : Int)) + 2 * ((r.size : Int) - (k : Int))) (2 + ((wcI m.data.toList r.data.toList i (k + 1) : Nat) : Int)))); rwa [List.set_set] at this))
              have HB' : Hid (Below w.heap.size w wy') := Lib.hid (by rw [hwx]; exact (below_drewN HB.out nq).setCell (p := ⟨B, k, none⟩) hBb _)
              clear hwx HM HR HB
              obtain ⟨wx, rfl⟩ : ∃ wx, wx = wy' := ⟨_, rfl⟩
              have HM := HM'; have HR := HR'; have HB := HB'
              clear HM' HR' HB'
              go_roundw
              case rel =>
                have HV : (Value.int .i64 (min (2 * ((m.size : Int) - (i : Int)) + 2 * ((r.size : Int) - (k : Int))) (2 + ((wcI m.data.toList r.data.toList i (k + 1) : Nat) : Int)))) = .int .i64 ((wcI m.data.toList r.data.toList i k : Nat) : Int) := by
                  congr 1
                  obtain rfl : i = m.size := by omega
                  have e1 : wcI m.data.toList r.data.toList m.size k = 2 * (r.size - k) := wcI_last m.data.toList r.data.toList k
                  have e2 : wcI m.data.toList r.data.toList m.size (k + 1) = 2 * (r.size - (k + 1)) := wcI_last m.data.toList r.data.toList (k + 1)
                  omega
                refine ⟨k, by omega, by go_num, HM.out, ?_, HB.out⟩
                have := HR.out
                rw [HV, HPUT.out] at this
                exact this
              case measure => simp [intOf]
            · have oI : wr.cell? ⟨w.heap.size, i, none⟩ = some (.slice (some ⟨B, 0, none⟩) (r.size + 1) (r.size + 1)) := by rw [HM.out.out i (Nat.le_refl _) (by omega), hgi]
              have cK : wr.cell? ⟨B, k, none⟩ = some (.int .i64 0) := by rw [HR.out.cell]; rw [rowOf_get _ _ _ _ _ (by omega), if_neg (by omega)]
              have fK := HR.out.frozen k
              go_wp2_with fail
              clear oI cK fK
              obtain ⟨wy', hwx⟩ : ∃ wy', wy' = (wr).setCell ⟨B, k, none⟩ (.int .i64 (2 * ((m.size : Int) - (i : Int)) + 2 * ((r.size : Int) - (k : Int)))) := ⟨_, rfl⟩
              rw [← hwx]
              have HM' : Hid (Mat wy' w.heap.size w.heap.size (m.size + 1) (r.size + 1) i (i + 1) (wcI m.data.toList r.data.toList) gr2) := Lib.hid (by rw [hwx]; exact HM.out.set_other _ _ hBg hgn)
              have HR' : Hid (Row wy' B 3 ((ints (rowOf (wcI m.data.toList r.data.toList) (r.size + 1) i (k + 1))).set k (.int .i64 (2 * ((m.size : Int) - (i : Int)) + 2 * ((r.size : Int) - (k : Int)))))) := Lib.hid (by rw [hwx]; exact HR.out.set k _)
              have HB' : Hid (Below w.heap.size w wy') := Lib.hid (by rw [hwx]; exact HB.out.setCell (p := ⟨B, k, none⟩) hBb _)
              clear hwx HM HR HB
              obtain ⟨wx, rfl⟩ : ∃ wx, wx = wy' := ⟨_, rfl⟩
              have HM := HM'; have HR := HR'; have HB := HB'
              clear HM' HR' HB'
              go_roundw
              case rel =>
                have HV : (Value.int .i64 (2 * ((m.size : Int) - (i : Int)) + 2 * ((r.size : Int) - (k : Int)))) = .int .i64 ((wcI m.data.toList r.data.toList i k : Nat) : Int) := by
                  congr 1
                  obtain rfl : i = m.size := by omega
                  have e1 : wcI m.data.toList r.data.toList m.size k = 2 * (r.size - k) := wcI_last m.data.toList r.data.toList k
                  omega
                refine ⟨k, by omega, by go_num, HM.out, ?_, HB.out⟩
                have := HR.out
                rw [HV, HPUT.out] at this
                exact this
              case measure => simp [intOf]
end Go.Proofs.Ytpnfipemencgnaa
