/-
  The law of verified words.
-/
import Derived.Test.YtahfmeopecmpmaaDoorDgM
import Derived.Test.YtahfmeopecmpmaaDoorCrd
namespace Go.Proofs.YtahfmeopecmpmaaDoor
open Go.RowKit

theorem srow_new (w : World) (t : TypeId) (ss : List ByteArray) : SRow (w.alloc (.cells (ss.map Value.string).toArray t)) (some ⟨w.heap.size, 0, none⟩) ss := fun j hj => by
  refine ⟨w.heap.size, 0, rfl, ?_⟩
  have h := (row_new w t (ss.map Value.string)).cell j
  rw [Nat.zero_add, h, List.getElem?_map, List.getElem?_eq_getElem hj]; rfl
theorem bnA_two {n : Nat} {a b : ByteArray} (h : bnA n [a, b] = true) : bnT n a.data.toList = true ∧ bnT n b.data.toList = true := by simpa [bnA] using h
theorem ba_len (l : List UInt8) : (⟨l.toArray⟩ : ByteArray).size = l.length := by simp [ByteArray.size]
theorem ba_app (s : ByteArray) (l : List UInt8) : s ++ (⟨l.toArray⟩ : ByteArray) = ⟨(s.data.toList ++ l).toArray⟩ := by
  apply ByteArray.ext; apply Array.ext'; rw [Go.Joins.data_append]
theorem below_new (w : World) (o : Obj) : Below w.heap.size w (w.alloc o) := (Below.refl _ w).alloc (Nat.le_refl _) _

set_option maxHeartbeats 2000000 in
set_option maxRecDepth 100000 in
theorem law_digestVerified (g s o : ByteArray) (_w0 : g.size ≤ maxLen) (_w1 : s.size ≤ maxLen) (_w2 : o.size ≤ maxLen) (w : World) (_hsh : w.ShapedOpen Tryd.prog) :
    Calls Tryd.prog 6 #[.string g, .string s, .string o] w fun e w' => e = .returned (.bool true) ∧ Below w.heap.size w w' := by
  cases hgt : genT g.data.toList with
  | false =>
    have HG := Lib.hid hgt; clear hgt
    go_enter Tryd.func6, Tryd.ntmps6
    go_wp2_with fail
    refine (generator_any _ _).mono ?_
    rintro e x1 ⟨rfl, rfl⟩
    rw [HG.out]
    go_wp2_with fail
    refine (awake_any _).mono ?_
    rintro e x2 ⟨rfl, h2⟩
    have H2 := Lib.hid h2; clear h2
    go_wp2_with fail
    go_ret
    exact ⟨rfl, H2.out⟩
  | true =>
    have HG := Lib.hid hgt
    cases hbt : bnA 40 [s, o] with
    | false =>
      have HB := Lib.hid hbt; clear hbt hgt
      go_enter Tryd.func6, Tryd.ntmps6
      go_wp2_with fail
      refine (generator_any _ _).mono ?_
      rintro e x1 ⟨rfl, rfl⟩
      rw [HG.out]
      go_wp2_with fail
      refine (binary_any 40 _ 2 [s, o] _ (srow_new _ _ [s, o]) (by simp)).mono ?_
      rintro e x1 ⟨rfl, h1⟩
      rw [HB.out]
      have H1 := Lib.hid ((below_new w _).trans (h1.mono (below_new w _).size)); clear h1
      go_wp2_with fail
      refine (awake_any _).mono ?_
      rintro e x2 ⟨rfl, h2⟩
      have H2 := Lib.hid (H1.out.trans (h2.mono H1.out.size)); clear h2
      go_wp2_with fail
      go_ret
      exact ⟨rfl, H2.out⟩
    | true =>
      obtain ⟨hs1, ho1⟩ := bnA_two hbt
      obtain ⟨hsl, hsb⟩ := (bnT_iff (by omega)).1 hs1
      obtain ⟨hol, hob⟩ := (bnT_iff (by omega)).1 ho1
      obtain ⟨hgen, hgl⟩ := genT_iff hgt
      have HB := Lib.hid hbt; clear hbt hgt hs1 ho1
      have hlo := hgen.lo
      have e0 : g.data.toList.length = g.size := rfl
      have e1 : s.data.toList.length = s.size := rfl
      have e2 : o.data.toList.length = o.size := rfl
      obtain ⟨K, hK⟩ : ∃ K, deg g.data.toList = K := ⟨_, rfl⟩
      have hK1 : K + 1 = g.size := by rw [← hK]; unfold deg; omega
      have hdg : (g.size : Int) - 1 = (K : Int) := by omega
      obtain ⟨K2, hK2⟩ : ∃ K2, K = K2 + 1 := ⟨K - 1, by omega⟩
      have hdg2 : (g.size : Int) - 2 = (K2 : Int) := by omega
      obtain ⟨V, hV⟩ : ∃ V, smV g.data.toList s.data.toList = V := ⟨_, rfl⟩
      have hVl : V.length = K := by rw [← hV, smV_len, hK]
      have hVb : V.all isB = true := by rw [← hV]; exact smV_bin _ _
      have hsm : smO g.data.toList s.data.toList = V := by rw [sm_ok hgen (by omega) hsb, hV]
      have hdc : dck g.data.toList s.data.toList = 0 := dck_gen hgen (by omega) hsb
      have hap := ap_ok hgen (w := s.data.toList) (by omega) hsb
      rw [hV] at hap
      have hvf := vf_sum hgen (w := s.data.toList) (by omega) hsb
      rw [hV] at hvf
      have hAb : (s.data.toList ++ V).all isB = true := by rw [List.all_append, hsb, hVb]; rfl
      have hdcA : dck g.data.toList (s.data.toList ++ V) = 0 := dck_gen hgen (by rw [List.length_append]; omega) hAb
      obtain ⟨M, hM⟩ : ∃ M, min o.size K = M := ⟨_, rfl⟩
      have hMi : min (o.size : Int) (K : Int) = (M : Int) := by omega
      have hM1 : M ≤ o.size := by omega
      have hM2 : M ≤ K := by omega
      have hex : (o.extract 0 M).data.toList = o.data.toList.take M := Lib.extract_from_zero o M
      obtain ⟨X, hX⟩ : ∃ X, pad (o.data.toList.take M) K = X := ⟨_, rfl⟩
      have hXl : X.length = K := by rw [← hX, pad_len (by rw [List.length_take]; omega)]
      have hXb : X.all isB = true := by rw [← hX]; exact pad_bin _ (take_bin _ hob)
      have hvx := vf_app hgen (w := s.data.toList) (x := X) (by omega) hsb (by rw [hXl, hK]) hXb
      rw [hV, show decide (X = V) = (X == V) by rw [Bool.eq_iff_iff]; simp] at hvx
      have hXb2 : (s.data.toList ++ X).all isB = true := by rw [List.all_append, hsb, hXb]; rfl
      have hdcX : dck g.data.toList (s.data.toList ++ X) = 0 := dck_gen hgen (by rw [List.length_append]; omega) hXb2
      have hdcZ : dck g.data.toList (List.replicate K2 48) = 0 := dck_gen hgen (by rw [List.length_replicate]; omega) (rep48_bin _)
      have hvz : vfB g.data.toList (List.replicate K2 48) = false := vf_short hgen (by rw [List.length_replicate]; omega) (rep48_bin _) (by rw [List.length_replicate, hK]; omega)
      have hov : ¬ 9223372036854775807 < s.size + K := by omega
      have hK30 : K ≤ 30 := by omega
      have HSM := Lib.hid hsm
      have HDC := Lib.hid hdc
      have HAP := Lib.hid hap
      have HVF := Lib.hid hvf
      have HDA := Lib.hid hdcA
      have HEX := Lib.hid hex
      have HX := Lib.hid hX
      have HVX := Lib.hid hvx
      have HDX := Lib.hid hdcX
      have HDZ := Lib.hid hdcZ
      have HVZ := Lib.hid hvz
      have HVL := Lib.hid hVl
      have HXL := Lib.hid hXl
      clear hsm hdc hap hvf hdcA hex hX hvx hdcX hdcZ hvz hXb2 hAb hXb hVb hM hV hgen hsb hob e0 e1 e2 hK hXl hVl hK2
      have hVs : (⟨V.toArray⟩ : ByteArray).size = K := by rw [ba_len, HVL.out]
      go_enter Tryd.func6, Tryd.ntmps6
      go_wp2_with fail
      refine (generator_any _ _).mono ?_
      rintro e x1 ⟨rfl, rfl⟩
      rw [HG.out]
      go_wp2_with fail
      refine (binary_any 40 _ 2 [s, o] _ (srow_new _ _ [s, o]) (by simp)).mono ?_
      rintro e x1 ⟨rfl, h1⟩
      rw [HB.out]
      have H1 := Lib.hid ((below_new w _).trans (h1.mono (below_new w _).size)); clear h1
      go_wp2_with fail
      refine (Sum_any _ _ _).mono ?_
      rintro e x2 ⟨rfl, h2⟩
      rw [HSM.out, HDC.out]
      have H2 := Lib.hid (H1.out.trans (h2.mono H1.out.size)); clear h2
      go_wp2_with fail
      refine (Append_any _ _ _).mono ?_
      rintro e x3 ⟨rfl, h3⟩
      rw [HAP.out.1, HAP.out.2]
      have H3 := Lib.hid (H2.out.trans (h3.mono H2.out.size)); clear h3
      go_wp2_with fail
      refine (Verify_any _ _ _).mono ?_
      rintro e x4 ⟨rfl, h4⟩
      rw [HVF.out, HDA.out]
      have H4 := Lib.hid (H3.out.trans (h4.mono H3.out.size)); clear h4
      have hba := ba_app s V
      go_wp2_with fail
      refine (Pad_any _ K _ (by omega)).mono ?_
      rintro e x5 ⟨rfl, rfl⟩
      rw [HEX.out, HX.out]
      have hXs : (⟨X.toArray⟩ : ByteArray).size = K := by rw [ba_len, HXL.out]
      have hbx := ba_app s X
      have hol : ¬ 9223372036854775807 < s.size + X.length := by rw [HXL.out]; omega
      have hrow : ∀ B : ByteArray, B = s ++ (⟨X.toArray⟩ : ByteArray) → B.data.toList = s.data.toList ++ X := fun B h => by rw [h, hbx]
      have HRX := Lib.hid (hrow _ rfl); clear hrow hbx
      go_wp2_with fail
      refine (Verify_any _ _ _).mono ?_
      rintro e x6 ⟨rfl, h6⟩
      rw [HRX.out, HVX.out, HDX.out]
      have H6 := Lib.hid (H4.out.trans (h6.mono H4.out.size)); clear h6
      go_wp2_with fail
      refine (Tryd.strings_Repeat ⟨#[48]⟩ K2 _ (by omega) (by simp [ByteArray.size]; omega)).mono ?_
      rintro e x7 ⟨rfl, h7⟩
      rw [show Lib.repeatL (⟨#[48]⟩ : ByteArray).data.toList K2 = List.replicate K2 48 from repeatL_one 48 K2]
      obtain ⟨Z, hZ⟩ : ∃ Z : ByteArray, (⟨(List.replicate K2 (48 : UInt8)).toArray⟩ : ByteArray) = Z := ⟨_, rfl⟩
      rw [hZ]
      have HZ := Lib.hid (show Z.data.toList = List.replicate K2 48 by rw [← hZ])
      clear hZ
      have H7 := Lib.hid (H6.out.trans (h7.mono H6.out.size)); clear h7
      go_wp2_with fail
      refine (Verify_any _ _ _).mono ?_
      rintro e x8 ⟨rfl, h8⟩
      rw [HZ.out, HVZ.out, HDZ.out]
      have H8 := Lib.hid (H7.out.trans (h8.mono H7.out.size)); clear h8
      go_wp2_with fail
      refine (awake_any _).mono ?_
      rintro e x9 ⟨rfl, h9⟩
      have H9 := Lib.hid (H8.out.trans (h9.mono H8.out.size)); clear h9
      go_wp2_with fail
      go_ret
      exact ⟨rfl, H9.out⟩
end Go.Proofs.YtahfmeopecmpmaaDoor
