/-
  WatermarkMarks returns true for every input: the walk.
-/
import Derived.Test.YtpnfipemencgnaaWmI
import Derived.Test.YtpnfipemencgnaaWmS
import Derived.Test.YtpnfipemencgnaaWmFni
namespace Go.Proofs.Ytpnfipemencgnaa
open Go.RowKit

theorem spGo_err (n : Nat) : ∀ (l : List Int) (p : Option Int) (b : List UInt8), (spGo n l p b).1 ≠ 0 → (spGo n l p b).2 = []
  | [], _, _, h => by simp [spGo] at h
  | x :: l, p, b, h => by
    rw [spGo] at h ⊢
    split
    · rfl
    · rename_i h1
      rw [if_neg h1] at h
      split
      · rfl
      · rename_i h2
        rw [if_neg h2] at h
        exact spGo_err n l _ _ h
theorem spR_err (n : Int) (l : List Int) (h : (spR n l).1 ≠ 0) : (spR n l).2 = [] := by
  unfold spR at h ⊢
  split
  · rfl
  · rename_i h1; rw [if_neg h1] at h; exact spGo_err _ _ _ _ h
theorem spGo_ok (n : Nat) : ∀ (l : List Int) (p : Option Int) (b w : List UInt8), spGo n l p b = (0, w) → b.length = n → (∀ j : Nat, j < n → (∀ y, p = some y → y < (j : Int)) → b[j]? = some 48) →
    w.length = n ∧ w.count 49 = b.count 49 + l.length ∧ (∀ j : Nat, b[j]? = some 49 → w[j]? = some 49) ∧ ∀ x ∈ l, 0 ≤ x ∧ x < n ∧ w[x.toNat]? = some 49
  | [], _, b, w, h, hb, _ => by
    rw [spGo] at h
    cases h
    exact ⟨hb, by simp, fun _ h => h, by simp⟩
  | x :: l, p, b, w, h, hb, hz => by
    rw [spGo] at h
    split at h
    · cases h
    · rename_i h1
      split at h
      · cases h
      · rename_i h2
        have hx0 : 0 ≤ x := by omega
        have hxn : x.toNat < n := by omega
        have hbx : b[x.toNat]? = some 48 := hz _ hxn fun y hy => by
          rcases Int.lt_or_le y x with h3 | h3
          · omega
          · exact absurd ⟨y, hy, h3⟩ h2
        obtain ⟨k1, k2, k3, k4⟩ := spGo_ok n l (some x) (b.set x.toNat 49) w h (by rw [List.length_set]; exact hb) (fun j hj hp => by
          have := hp x rfl
          rw [List.getElem?_set, if_neg (by omega)]
          refine hz j hj fun y hy => ?_
          rcases Int.lt_or_le y x with h3 | h3
          · omega
          · exact absurd ⟨y, hy, h3⟩ h2)
        have hxl : x.toNat < b.length := by omega
        have hs : (b.set x.toNat 49)[x.toNat]? = some 49 := by simp [hxl]
        refine ⟨k1, ?_, fun j hj => ?_, fun y hy => ?_⟩
        · rw [k2, List.count_set hxl]
          have : b[x.toNat] = 48 := by rw [List.getElem?_eq_getElem hxl] at hbx; exact Option.some.inj hbx
          rw [this, List.length_cons]
          simp; omega
        · refine k3 j ?_
          rw [List.getElem?_set]
          split
          · rfl
          · exact hj
        · rcases List.mem_cons.1 hy with rfl | hy
          · exact ⟨hx0, by omega, k3 _ hs⟩
          · exact k4 y hy
theorem spR_ok (n : Nat) (l : List Int) (w : List UInt8) (hn : n ≤ 65536) (h : spR n l = (0, w)) : w.length = n ∧ w.count 49 = l.length ∧ ∀ x ∈ l, 0 ≤ x ∧ x < n ∧ w[x.toNat]? = some 49 := by
  rw [spR, if_neg (by omega)] at h
  obtain ⟨k1, k2, _, k4⟩ := spGo_ok n l none _ w h (by simp) (fun j hj _ => by simp [hj])
  refine ⟨k1, ?_, k4⟩
  rw [k2, List.count_replicate]
  simp

theorem mkS_take (seed : Nat) : ∀ (a b : Nat), a ≤ b → mkS seed a <+: mkS seed b
  | a, 0, h => by obtain rfl : a = 0 := by omega
                  exact List.prefix_refl _
  | a, b + 1, h => by
    by_cases hab : a = b + 1
    · subst hab; exact List.prefix_refl _
    · rw [mkS_succ]
      exact (mkS_take seed a b (by omega)).trans (List.prefix_append _ _)
theorem mkS_bin (seed n : Nat) : (mkS seed n).all isB = true := by
  rw [List.all_eq_true]
  intro x hx
  simp only [mkS, List.mem_map, List.mem_range] at hx
  obtain ⟨j, _, rfl⟩ := hx
  rw [mkB]
  rcases (show lcgN seed (j + 1) / 65536 % 2 = 0 ∨ lcgN seed (j + 1) / 65536 % 2 = 1 by omega) with h | h
  · rw [h]; rfl
  · rw [h]; rfl

set_option maxHeartbeats 400000 in
theorem marks1_no (z : ByteArray) (u : Int) (hi B C : Nat) (w : World) (cb : w.cell? ⟨B, 0, none⟩ = some (.int .i64 (hi : Int))) (cz : w.cell? ⟨C, 0, none⟩ = some (.string z)) (hz : z.size = hi) (hh : hi ≤ 65536)
    (h1 : 0 ≤ u) (h2 : u < hi) (h3 : z.data.toList[u.toNat]? = some 49) :
    Calls Try.prog 39 #[.int .i64 u, .pointer (some ⟨B, 0, none⟩), .pointer (some ⟨C, 0, none⟩)] w fun e w' => e = .returned (.bool false) ∧ w = w' := by
  obtain ⟨k, rfl⟩ := Int.eq_ofNat_of_zero_le h1
  subst hz
  have hk : k < z.size := by omega
  rw [Int.toNat_natCast, List.getElem?_eq_getElem (by simpa using hk)] at h3
  have h4 : z[k] = 49 := Option.some.inj h3
  have t1 : decide ((k : Int) < 0) = false := by simp
  have t2 : decide (z.size ≤ k) = false := by simp; omega
  have t3 : (((z[k].toNat : Nat) : Int) != 49) = false := by rw [h4]; rfl
  clear h3 h4
  go_enter Try.func39, Try.ntmps39
  go_wp2_with fail
  go_ret
  exact ⟨rfl, rfl⟩

set_option maxHeartbeats 2000000 in
set_option maxRecDepth 100000 in
theorem law_watermarkMarks (a0 a1 a2 : Int) (a4 : Option Addr) (len4 cap4 : Nat) (z4 : List Int) (w : World) (w0 : (Lit.int .u8 a0).wf = true) (w1 : (Lit.int .u8 a1).wf = true) (w2 : (Lit.int .u32 a2).wf = true) (w4 : IsRowI .i64 w a4 len4 cap4 z4) :
    Calls Try.prog 11 #[.int .u8 a0, .int .u8 a1, .int .u32 a2, .slice a4 len4 cap4] w fun e w' => e = .returned (.bool true) ∧ Below w.heap.size w w' := by
  obtain ⟨x1, x2⟩ := bounds_u8 w0
  obtain ⟨y1, y2⟩ := bounds_u8 w1
  obtain ⟨s1, s2⟩ := bounds_u32 w2
  obtain ⟨ho, hlo, hbd, hmx⟩ := w4.holds
  obtain ⟨o, hoe⟩ : ∃ o, o = z4.take len4 := ⟨_, rfl⟩
  rw [← hoe] at ho hlo hbd
  unfold maxLen at hmx
  clear hoe w0 w1 w2 w4
  have HO := Lib.hid ho; clear ho
  have HBD := Lib.hid hbd; clear hbd
  obtain ⟨sd, hsd⟩ := Int.eq_ofNat_of_zero_le (show 0 ≤ a2 / 2 by omega)
  have hsl : sd < 2147483648 := by omega
  obtain ⟨A, hA⟩ := Int.eq_ofNat_of_zero_le (show 0 ≤ a0 % 200 by omega)
  obtain ⟨B, hB⟩ := Int.eq_ofNat_of_zero_le (show 0 ≤ a1 % 200 by omega)
  have hA2 : A < 200 := by omega
  have hB2 : B < 200 := by omega
  obtain ⟨lo, hi, hlh, hhi, hcase⟩ : ∃ lo hi : Nat, lo ≤ hi ∧ hi < 200 ∧ ((A ≤ B ∧ lo = A ∧ hi = B) ∨ (B < A ∧ lo = B ∧ hi = A)) := by
    rcases Nat.lt_or_ge B A with h | h
    · exact ⟨B, A, by omega, by omega, .inr ⟨h, rfl, rfl⟩⟩
    · exact ⟨A, B, by omega, by omega, .inl ⟨h, rfl, rfl⟩⟩
  obtain ⟨x, hx⟩ : ∃ x : ByteArray, x = ⟨(mkS sd lo).toArray⟩ := ⟨_, rfl⟩
  obtain ⟨y, hy⟩ : ∃ y : ByteArray, y = ⟨(mkS sd hi).toArray⟩ := ⟨_, rfl⟩
  have hxs : x.size = lo := by rw [hx]; exact mkS_len sd lo
  have hys : y.size = hi := by rw [hy]; exact mkS_len sd hi
  have HPX := Lib.hid (show Lib.hasPrefix y.data.toList x.data.toList = true by rw [hx, hy, Lib.hasPrefix, List.isPrefixOf_iff_prefix]; exact mkS_take sd lo hi hlh)
  have HCH := Lib.hid (show chk 2 y.data.toList = 0 by rw [chk2_iff, hy]; exact ⟨by rw [mkS_len]; omega, mkS_bin sd hi⟩)
  have m1 := fun w => mark_ok lo sd w (by omega) hsl
  have m2 := fun w => mark_ok hi sd w (by omega) hsl
  rw [← hx] at m1
  rw [← hy] at m2
  have M1 := Lib.hid m1; have M2 := Lib.hid m2
  have S1 := Lib.hid (fun w hv => sparse_any hi (.slice a4 len4 cap4) o w hv (by omega) HBD.out)
  have HB0 := Lib.hid (show Below w.heap.size w (w.alloc (.cells #[.int .i64 (hi : Int)] 3)) from (Below.refl _ _).alloc (Nat.le_refl _) _)
  have cb := (row_new w 3 [.int .i64 (hi : Int)]).cell 0
  clear m1 m2 hx hy
  rcases hcase with ⟨h, rfl, rfl⟩ | ⟨h, rfl, rfl⟩
  · have t0 : decide ((hi : Int) < (lo : Int)) = false := by simp; omega
    by_cases c5 : 12 < len4
    · have t5 : decide ((12 : Int) < (len4 : Int)) = true := by simp; omega
      go_enter Try.func11, Try.ntmps11
      go_wp2_with fail
      refine (M1.out _).mono ?_
      rintro e w1 ⟨rfl, h1⟩
      have cb1 := cell_below cb h1 (by simp)
      have HB1 := Lib.hid (HB0.out.trans (h1.mono (by simp)))
      have hz1 : w.heap.size < w1.heap.size := by have := h1.size; simp at this; omega
      clear h1 cb
      go_wp2_with fail
      refine (M2.out _).mono ?_
      rintro e w2 ⟨rfl, h2⟩
      have cb2 := cell_below cb1 h2 (by omega)
      have HB2 := Lib.hid (HB1.out.trans (h2.mono (by omega)))
      have hz2 : w.heap.size < w2.heap.size := by have := h2.size; omega
      clear h2 cb1 hz1
      go_wp2_with fail
      refine (Try.strings_HasPrefix y x _).mono ?_
      rintro e w' ⟨rfl, hw⟩
      obtain rfl : w2 = w' := hw.symm
      rw [HPX.out]
      go_wp2_with fail
      refine (check_any _ _ _).mono ?_
      rintro e w3 ⟨rfl, q, rfl⟩
      rw [HCH.out]
      go_wp2_with fail
      refine (awake_any _).mono ?_
      rintro e w3 ⟨rfl, h3⟩
      have H3 := Lib.hid h3; clear h3
      go_wp2_with fail
      go_ret
      exact ⟨rfl, (below_drewN HB2.out q).trans (H3.out.mono (by simp; omega))⟩
    · have t5 : decide ((12 : Int) < (len4 : Int)) = false := by simp; omega
      go_enter Try.func11, Try.ntmps11
      go_wp2_with fail
      refine (M1.out _).mono ?_
      rintro e w1 ⟨rfl, h1⟩
      have cb1 := cell_below cb h1 (by simp)
      have HB1 := Lib.hid (HB0.out.trans (h1.mono (by simp)))
      have hz1 : w.heap.size < w1.heap.size := by have := h1.size; simp at this; omega
      clear h1 cb
      go_wp2_with fail
      refine (M2.out _).mono ?_
      rintro e w2 ⟨rfl, h2⟩
      have cb2 := cell_below cb1 h2 (by omega)
      have HB2 := Lib.hid (HB1.out.trans (h2.mono (by omega)))
      have hz2 : w.heap.size < w2.heap.size := by have := h2.size; omega
      clear h2 cb1 hz1
      go_wp2_with fail
      refine (Try.strings_HasPrefix y x _).mono ?_
      rintro e w' ⟨rfl, hw⟩
      obtain rfl : w2 = w' := hw.symm
      rw [HPX.out]
      go_wp2_with fail
      refine (check_any _ _ _).mono ?_
      rintro e w3 ⟨rfl, q, rfl⟩
      rw [HCH.out]
      go_wp2_with fail
      refine (S1.out _ ((HO.out.below HB2.out).drewN q)).mono ?_
      rintro e w4 ⟨rfl, h4⟩
      have cb4 := cell_below (show (w2.drewN q).cell? ⟨w.heap.size, 0, none⟩ = some (.int .i64 (hi : Int)) from cb2) h4 hz2
      have HB4 := Lib.hid ((below_drewN HB2.out q).trans (h4.mono (by simp; omega)))
      have hz4 : w.heap.size < w4.heap.size := by have := h4.size; simp at this; omega
      clear h4 cb2 hz2
      rcases Nat.lt_or_ge 0 (spR hi o).1.natAbs with he | he
      · have hne : (spR hi o).1 ≠ 0 := by omega
        have hs2 := spR_err hi o hne
        have hb1 : ((spR hi o).1 != 0) = true := by simpa using hne
        rw [hs2]
        clear he hne hs2
        go_wp2_with fail
        refine (awake_any _).mono ?_
        rintro e w5 ⟨rfl, h5⟩
        have H5 := Lib.hid h5; clear h5
        go_wp2_with fail
        go_ret
        exact ⟨rfl, (HB4.out.alloc (by omega) _).trans (H5.out.mono (by simp; omega))⟩
      · have he0 : (spR hi o).1 = 0 := by omega
        obtain ⟨z, hzd⟩ : ∃ z : ByteArray, z = ⟨(spR hi o).2.toArray⟩ := ⟨_, rfl⟩
        have hzl : z.data.toList = (spR hi o).2 := by rw [hzd]
        obtain ⟨k1, k2, k3⟩ := spR_ok hi o z.data.toList (by omega) (by rw [hzl, ← he0])
        rw [← hzd, he0]
        have hzs : z.size = hi := k1
        have hco : Lib.countByte z.data.toList 49 = o.length := k2
        have HK3 := Lib.hid k3
        have HZS := Lib.hid hzs
        have HCO := Lib.hid hco
        clear he he0 hzd hzl k1 k2 k3 hco
        have cb5 := cell_below (C := w4.heap.size) cb4 ((Below.refl _ _).alloc (Nat.le_refl _) (.cells #[.string z] 9)) hz4
        have cz := (row_new w4 9 [.string z]).cell 0
        have HF := Lib.hid (show ∀ u ∈ o, Calls Try.prog 39 (#[.int .i64 u] ++ #[.pointer (some ⟨w.heap.size, 0, none⟩), .pointer (some ⟨w4.heap.size, 0, none⟩)]) (w4.alloc (.cells #[.string z] 9)) fun e w' => e = .returned (.bool false) ∧ (w4.alloc (.cells #[.string z] 9)) = w' from
          fun u hu => marks1_no z u hi _ _ _ cb5 cz HZS.out (by omega) (HK3.out u hu).1 (HK3.out u hu).2.1 (HK3.out u hu).2.2)
        have HO4 := Lib.hid ((HO.out.below HB4.out).below ((Below.refl _ _).alloc (Nat.le_refl _) (.cells #[.string z] 9)))
        go_wp2_with fail
        refine (Try.strings_Count_one z 49 _).mono ?_
        rintro e w' ⟨rfl, rfl⟩
        rw [HCO.out]
        go_wp2_with fail
        refine (containsFunc_no _ _ o _ HO4.out HF.out (by omega)).mono ?_
        rintro e w' ⟨rfl, rfl⟩
        go_wp2_with fail
        refine (awake_any _).mono ?_
        rintro e w5 ⟨rfl, h5⟩
        have H5 := Lib.hid h5; clear h5
        go_wp2_with fail
        go_ret
        exact ⟨rfl, (HB4.out.alloc (by omega) _).trans (H5.out.mono (by simp; omega))⟩
  · have t0 : decide ((lo : Int) < (hi : Int)) = true := by simp; omega
    by_cases c5 : 12 < len4
    · have t5 : decide ((12 : Int) < (len4 : Int)) = true := by simp; omega
      go_enter Try.func11, Try.ntmps11
      go_wp2_with fail
      refine (M1.out _).mono ?_
      rintro e w1 ⟨rfl, h1⟩
      have cb1 := cell_below cb h1 (by simp)
      have HB1 := Lib.hid (HB0.out.trans (h1.mono (by simp)))
      have hz1 : w.heap.size < w1.heap.size := by have := h1.size; simp at this; omega
      clear h1 cb
      go_wp2_with fail
      refine (M2.out _).mono ?_
      rintro e w2 ⟨rfl, h2⟩
      have cb2 := cell_below cb1 h2 (by omega)
      have HB2 := Lib.hid (HB1.out.trans (h2.mono (by omega)))
      have hz2 : w.heap.size < w2.heap.size := by have := h2.size; omega
      clear h2 cb1 hz1
      go_wp2_with fail
      refine (Try.strings_HasPrefix y x _).mono ?_
      rintro e w' ⟨rfl, hw⟩
      obtain rfl : w2 = w' := hw.symm
      rw [HPX.out]
      go_wp2_with fail
      refine (check_any _ _ _).mono ?_
      rintro e w3 ⟨rfl, q, rfl⟩
      rw [HCH.out]
      go_wp2_with fail
      refine (awake_any _).mono ?_
      rintro e w3 ⟨rfl, h3⟩
      have H3 := Lib.hid h3; clear h3
      go_wp2_with fail
      go_ret
      exact ⟨rfl, (below_drewN HB2.out q).trans (H3.out.mono (by simp; omega))⟩
    · have t5 : decide ((12 : Int) < (len4 : Int)) = false := by simp; omega
      go_enter Try.func11, Try.ntmps11
      go_wp2_with fail
      refine (M1.out _).mono ?_
      rintro e w1 ⟨rfl, h1⟩
      have cb1 := cell_below cb h1 (by simp)
      have HB1 := Lib.hid (HB0.out.trans (h1.mono (by simp)))
      have hz1 : w.heap.size < w1.heap.size := by have := h1.size; simp at this; omega
      clear h1 cb
      go_wp2_with fail
      refine (M2.out _).mono ?_
      rintro e w2 ⟨rfl, h2⟩
      have cb2 := cell_below cb1 h2 (by omega)
      have HB2 := Lib.hid (HB1.out.trans (h2.mono (by omega)))
      have hz2 : w.heap.size < w2.heap.size := by have := h2.size; omega
      clear h2 cb1 hz1
      go_wp2_with fail
      refine (Try.strings_HasPrefix y x _).mono ?_
      rintro e w' ⟨rfl, hw⟩
      obtain rfl : w2 = w' := hw.symm
      rw [HPX.out]
      go_wp2_with fail
      refine (check_any _ _ _).mono ?_
      rintro e w3 ⟨rfl, q, rfl⟩
      rw [HCH.out]
      go_wp2_with fail
      refine (S1.out _ ((HO.out.below HB2.out).drewN q)).mono ?_
      rintro e w4 ⟨rfl, h4⟩
      have cb4 := cell_below (show (w2.drewN q).cell? ⟨w.heap.size, 0, none⟩ = some (.int .i64 (hi : Int)) from cb2) h4 hz2
      have HB4 := Lib.hid ((below_drewN HB2.out q).trans (h4.mono (by simp; omega)))
      have hz4 : w.heap.size < w4.heap.size := by have := h4.size; simp at this; omega
      clear h4 cb2 hz2
      rcases Nat.lt_or_ge 0 (spR hi o).1.natAbs with he | he
      · have hne : (spR hi o).1 ≠ 0 := by omega
        have hs2 := spR_err hi o hne
        have hb1 : ((spR hi o).1 != 0) = true := by simpa using hne
        rw [hs2]
        clear he hne hs2
        go_wp2_with fail
        refine (awake_any _).mono ?_
        rintro e w5 ⟨rfl, h5⟩
        have H5 := Lib.hid h5; clear h5
        go_wp2_with fail
        go_ret
        exact ⟨rfl, (HB4.out.alloc (by omega) _).trans (H5.out.mono (by simp; omega))⟩
      · have he0 : (spR hi o).1 = 0 := by omega
        obtain ⟨z, hzd⟩ : ∃ z : ByteArray, z = ⟨(spR hi o).2.toArray⟩ := ⟨_, rfl⟩
        have hzl : z.data.toList = (spR hi o).2 := by rw [hzd]
        obtain ⟨k1, k2, k3⟩ := spR_ok hi o z.data.toList (by omega) (by rw [hzl, ← he0])
        rw [← hzd, he0]
        have hzs : z.size = hi := k1
        have hco : Lib.countByte z.data.toList 49 = o.length := k2
        have HK3 := Lib.hid k3
        have HZS := Lib.hid hzs
        have HCO := Lib.hid hco
        clear he he0 hzd hzl k1 k2 k3 hco
        have cb5 := cell_below (C := w4.heap.size) cb4 ((Below.refl _ _).alloc (Nat.le_refl _) (.cells #[.string z] 9)) hz4
        have cz := (row_new w4 9 [.string z]).cell 0
        have HF := Lib.hid (show ∀ u ∈ o, Calls Try.prog 39 (#[.int .i64 u] ++ #[.pointer (some ⟨w.heap.size, 0, none⟩), .pointer (some ⟨w4.heap.size, 0, none⟩)]) (w4.alloc (.cells #[.string z] 9)) fun e w' => e = .returned (.bool false) ∧ (w4.alloc (.cells #[.string z] 9)) = w' from
          fun u hu => marks1_no z u hi _ _ _ cb5 cz HZS.out (by omega) (HK3.out u hu).1 (HK3.out u hu).2.1 (HK3.out u hu).2.2)
        have HO4 := Lib.hid ((HO.out.below HB4.out).below ((Below.refl _ _).alloc (Nat.le_refl _) (.cells #[.string z] 9)))
        go_wp2_with fail
        refine (Try.strings_Count_one z 49 _).mono ?_
        rintro e w' ⟨rfl, rfl⟩
        rw [HCO.out]
        go_wp2_with fail
        refine (containsFunc_no _ _ o _ HO4.out HF.out (by omega)).mono ?_
        rintro e w' ⟨rfl, rfl⟩
        go_wp2_with fail
        refine (awake_any _).mono ?_
        rintro e w5 ⟨rfl, h5⟩
        have H5 := Lib.hid h5; clear h5
        go_wp2_with fail
        go_ret
        exact ⟨rfl, (HB4.out.alloc (by omega) _).trans (H5.out.mono (by simp; omega))⟩
end Go.Proofs.Ytpnfipemencgnaa
