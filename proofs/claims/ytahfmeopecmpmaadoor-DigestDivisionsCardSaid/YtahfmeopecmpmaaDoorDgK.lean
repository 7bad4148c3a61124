/-
  The example of the chapter; binary words and generators.
-/
import Derived.Test.YtahfmeopecmpmaaDoorDgG
import Derived.Test.YtahfmeopecmpmaaDoorDgH
import Derived.Test.YtahfmeopecmpmaaDoorDgI
import Derived.Test.YtahfmeopecmpmaaDoorDgJ
namespace Go.Proofs.YtahfmeopecmpmaaDoor
open Go.RowKit

theorem ex_sum : smO [49, 48, 49, 49] [49, 49, 48, 49] = [48, 48, 49] ∧ dck [49, 48, 49, 49] [49, 49, 48, 49] = 0 := by decide +kernel
theorem ex_ver : vfB [49, 48, 49, 49] [49, 49, 48, 49, 48, 48, 49] = true ∧ dck [49, 48, 49, 49] [49, 49, 48, 49, 48, 48, 49] = 0 := by decide +kernel
theorem ex_gck : gck [49, 48, 49, 49] = 0 := by decide +kernel
theorem ordF_next {k G f e r q : Nat} (h : st1 k G (2 * r) = q) (h1 : q ≠ 1) : ordF k G (f + 1) e r = ordF k G f (e + 1) q := by rw [ordF, h, if_neg h1]
theorem ordF_hit {k G f e r : Nat} (h : st1 k G (2 * r) = 1) : ordF k G (f + 1) e r = e := by rw [ordF, h, if_pos rfl]
theorem ex_ord7 (f : Nat) : ordF 3 11 (f + 7) 1 1 = 7 := by
  rw [ordF_next (q := 2) (by decide +kernel) (by decide), ordF_next (q := 4) (by decide +kernel) (by decide), ordF_next (q := 3) (by decide +kernel) (by decide), ordF_next (q := 6) (by decide +kernel) (by decide), ordF_next (q := 7) (by decide +kernel) (by decide), ordF_next (q := 5) (by decide +kernel) (by decide), ordF_hit (by decide +kernel)]
theorem ex_ord' : ordF 3 11 65536 1 1 = 7 := ex_ord7 65529
theorem ex_ord : orV [49, 48, 49, 49] = 7 ∧ orE [49, 48, 49, 49] = 0 := by
  have h := ex_ord'
  have e1 : deg [49, 48, 49, 49] = 3 := rfl
  have e2 : vl [49, 48, 49, 49] = 11 := rfl
  rw [orV, orE, if_pos ex_gck, if_pos ex_gck, e1, e2, h]
  decide
theorem ex_det : dtV [49, 48, 49, 49] 7 = 3 ∧ dtE [49, 48, 49, 49] 7 = 0 := by decide +kernel
theorem ex_pro : prO [49, 49] [49, 49, 49] = [49, 48, 48, 49] ∧ tw [49, 49] [49, 49, 49] = 0 := by decide +kernel

set_option maxHeartbeats 1000000 in
set_option maxRecDepth 100000 in
theorem awake_any (w : World) : Calls Tryd.prog 12 #[] w fun e w' => e = .returned (.bool true) ∧ Below w.heap.size w w' := by
  go_enter Tryd.func12, Tryd.ntmps12
  go_wp2_with fail
  refine (Sum_any _ _ _).mono ?_
  rintro e w1 ⟨rfl, h1⟩
  rw [show smO (⟨#[49, 48, 49, 49]⟩ : ByteArray).data.toList (⟨#[49, 49, 48, 49]⟩ : ByteArray).data.toList = [48, 48, 49] from ex_sum.1, show dck (⟨#[49, 48, 49, 49]⟩ : ByteArray).data.toList (⟨#[49, 49, 48, 49]⟩ : ByteArray).data.toList = 0 from ex_sum.2]
  have H1 := Lib.hid h1; clear h1
  go_wp2_with fail
  refine (Verify_any _ _ _).mono ?_
  rintro e w2 ⟨rfl, h1⟩
  rw [show vfB (⟨#[49, 48, 49, 49]⟩ : ByteArray).data.toList (⟨#[49, 49, 48, 49, 48, 48, 49]⟩ : ByteArray).data.toList = true from ex_ver.1, show dck (⟨#[49, 48, 49, 49]⟩ : ByteArray).data.toList (⟨#[49, 49, 48, 49, 48, 48, 49]⟩ : ByteArray).data.toList = 0 from ex_ver.2]
  have H2 := Lib.hid (H1.out.trans (h1.mono H1.out.size)); clear h1
  go_wp2_with fail
  refine (Order_any _ _).mono ?_
  rintro e w3 ⟨rfl, h1⟩
  rw [show orV (⟨#[49, 48, 49, 49]⟩ : ByteArray).data.toList = 7 from ex_ord.1, show orE (⟨#[49, 48, 49, 49]⟩ : ByteArray).data.toList = 0 from ex_ord.2]
  have H3 := Lib.hid (H2.out.trans (h1.mono H2.out.size)); clear h1
  go_wp2_with fail
  refine (Detects_any _ _ _).mono ?_
  rintro e w4 ⟨rfl, h1⟩
  rw [show dtV (⟨#[49, 48, 49, 49]⟩ : ByteArray).data.toList 7 = 3 from ex_det.1, show dtE (⟨#[49, 48, 49, 49]⟩ : ByteArray).data.toList 7 = 0 from ex_det.2]
  have H4 := Lib.hid (H3.out.trans (h1.mono H3.out.size)); clear h1
  go_wp2_with fail
  refine (Product_any _ _ _).mono ?_
  rintro e w5 ⟨rfl, h1⟩
  rw [show prO (⟨#[49, 49]⟩ : ByteArray).data.toList (⟨#[49, 49, 49]⟩ : ByteArray).data.toList = [49, 48, 48, 49] from ex_pro.1, show tw (⟨#[49, 49]⟩ : ByteArray).data.toList (⟨#[49, 49, 49]⟩ : ByteArray).data.toList = 0 from ex_pro.2]
  have H5 := Lib.hid (H4.out.trans (h1.mono H4.out.size)); clear h1
  go_wp2_with fail
  go_ret
  exact ⟨rfl, H5.out⟩

/-! ### binary words, generators -/
def genT (l : List UInt8) : Bool := decide (l.length ≤ 12) && decide (gck l = 0)
theorem genT_iff {l : List UInt8} (h : genT l = true) : Gen l ∧ l.length ≤ 12 := by
  simp only [genT, Bool.and_eq_true, decide_eq_true_eq] at h
  exact ⟨(gck_iff l).1 h.2, h.1⟩
set_option maxHeartbeats 400000 in
theorem generator_any (g : ByteArray) (w : World) : Calls Tryd.prog 21 #[.string g] w fun e w' => e = .returned (.bool (genT g.data.toList)) ∧ w = w' := by
  have e0 : g.data.toList.length = g.size := rfl
  by_cases h12 : g.size ≤ 12
  · have hd : decide ((g.size : Int) ≤ 12) = true := by simp; omega
    by_cases h : gck g.data.toList = 0
    · have hlo := ((gck_iff _).1 h).lo
      have hlo2 : 1 < g.size := by omega
      have hd2 : decide ((1 : Int) < (g.size : Int)) = true := by simp; omega
      have HV := Lib.hid (show genT g.data.toList = true by rw [genT, decide_eq_true (by omega), decide_eq_true h]; rfl)
      have H := Lib.hid h; clear h
      go_enter Tryd.func21, Tryd.ntmps21
      go_wp2_with fail
      refine (gCheck_any _ _).mono ?_
      rintro e w1 ⟨rfl, rfl⟩
      rw [H.out]
      go_wp2_with fail
      go_ret
      exact ⟨by rw [HV.out]; rfl, rfl⟩
    · have hb : (gck g.data.toList == 0) = false := by simpa using h
      have HV := Lib.hid (show genT g.data.toList = false by rw [genT, decide_eq_false h, Bool.and_false])
      go_enter Tryd.func21, Tryd.ntmps21
      go_wp2_with fail
      refine (gCheck_any _ _).mono ?_
      rintro e w1 ⟨rfl, rfl⟩
      go_wp2_with fail
      go_ret
      exact ⟨by rw [HV.out]; rfl, rfl⟩
  · have hd : decide ((g.size : Int) ≤ 12) = false := by simp; omega
    have HV := Lib.hid (show genT g.data.toList = false by rw [genT, decide_eq_false (by omega)]; rfl)
    go_enter Tryd.func21, Tryd.ntmps21
    go_wp2_with fail
    go_ret
    exact ⟨by rw [HV.out]; rfl, rfl⟩
end Go.Proofs.YtahfmeopecmpmaaDoor
