/-
  The contracts of the references Divide and Product.
-/
import Derived.Test.YtahfmeopecmpmaaDoorRfC
namespace Go.Proofs.YtahfmeopecmpmaaDoor
open Go.RowKit

set_option maxHeartbeats 1000000 in
set_option maxRecDepth 100000 in
theorem rDivide_any (g s : ByteArray) (w : World) : Calls Tryd.prog 26 #[.string g, .string s] w fun e w' =>
    e = .returned (.tuple #[.string ⟨(qtV g.data.toList s.data.toList).toArray⟩, .string ⟨(rsV g.data.toList s.data.toList).toArray⟩, .int .i64 (dvE g.data.toList s.data.toList)]) ∧ Below w.heap.size w w' := by
  by_cases h1 : chk 2 g.data.toList = 0
  · by_cases h2 : chk 2 s.data.toList = 0
    · obtain ⟨hgl, hgb⟩ := (chk2_iff _).1 h1
      obtain ⟨hsl, hsb⟩ := (chk2_iff _).1 h2
      have hgl' : g.size ≤ 65536 := hgl
      have hsl' : s.size ≤ 65536 := hsl
      by_cases h3 : g.size + s.size ≤ 4096
      · have htw : tw g.data.toList s.data.toList = 0 := by rw [tw, if_pos h1, if_pos h2, if_pos (by exact h3)]
        have hd : decide ((4096 : Int) < (g.size : Int) + (s.size : Int)) = false := by simp; omega
        have H1 := Lib.hid h1
        have H2 := Lib.hid h2
        by_cases h0 : trm g.data.toList = []
        · have HE := Lib.hid (show dvE g.data.toList s.data.toList = 9 by rw [dvE, if_pos htw, if_pos h0])
          have HQ := Lib.hid (show qtV g.data.toList s.data.toList = [] by rw [qtV, HE.out]; rfl)
          have HR := Lib.hid (show rsV g.data.toList s.data.toList = [] by rw [rsV, HE.out]; rfl)
          have H0 := Lib.hid h0
          clear h0 htw h1 h2 hgb hsb hgl hsl
          go_enter Tryd.func26, Tryd.ntmps26
          go_wp2_with fail
          refine (refCheck_any _ _ _).mono ?_
          rintro e x1 ⟨rfl, rfl⟩
          rw [H1.out]
          go_wp2_with fail
          refine (refCheck_any _ _ _).mono ?_
          rintro e x1 ⟨rfl, rfl⟩
          rw [H2.out]
          go_wp2_with fail
          refine (refCut_any _ _).mono ?_
          rintro e x1 ⟨rfl, rfl⟩
          rw [H0.out]
          go_wp2_with fail
          go_ret3
          exact ⟨by rw [HE.out, HQ.out, HR.out]; rfl, Below.refl _ _⟩
        · have hE : dvE g.data.toList s.data.toList = 0 := by rw [dvE, if_pos htw, if_neg h0]
          obtain ⟨hgl1, hgb1⟩ := trm_led hgb
          obtain ⟨GT, hGT⟩ : ∃ GT : ByteArray, (⟨(trm g.data.toList).toArray⟩ : ByteArray) = GT := ⟨_, rfl⟩
          have hGd : GT.data.toList = trm g.data.toList := by rw [← hGT]
          have hGs : GT.size = (trm g.data.toList).length := by rw [← hGT, ba_len']
          have hG1 : 1 ≤ GT.size := by rw [hGs]; exact List.length_pos_iff.2 h0
          have hG2 : GT.size ≤ 65536 := by have := trm_le g.data.toList; omega
          have hGe : GT.toList.isEmpty = false := by
            rw [ByteArray.toList_eq GT, hGd]
            cases h9 : trm g.data.toList with
            | nil => exact absurd h9 h0
            | cons a t => rfl
          have HD := Lib.hid (fun w => rdivide_any GT s w (by rw [hGd]; exact hgb1) hG1 hsb (by omega) (by omega))
          have HQ := Lib.hid (show qtV g.data.toList s.data.toList = trm (dQ GT.data.toList s.data.toList (stp GT.data.toList s.data.toList)) by rw [qtV, if_pos hE, hGd]; rfl)
          have HR := Lib.hid (show rsV g.data.toList s.data.toList = trm (dR GT.data.toList s.data.toList (stp GT.data.toList s.data.toList)) by rw [rsV, if_pos hE, hGd]; rfl)
          have HE := Lib.hid hE
          have HGT := Lib.hid hGT
          clear h0 htw h1 h2 hgb hsb hgl hsl hgl1 hgb1 hGT hGd hGs hE
          go_enter Tryd.func26, Tryd.ntmps26
          go_wp2_with fail
          refine (refCheck_any _ _ _).mono ?_
          rintro e x1 ⟨rfl, rfl⟩
          rw [H1.out]
          go_wp2_with fail
          refine (refCheck_any _ _ _).mono ?_
          rintro e x1 ⟨rfl, rfl⟩
          rw [H2.out]
          go_wp2_with fail
          refine (refCut_any _ _).mono ?_
          rintro e x1 ⟨rfl, rfl⟩
          rw [HGT.out]
          go_wp2_with fail
          refine (HD.out _).mono ?_
          rintro e x2 ⟨rfl, h2⟩
          rw [← HQ.out, ← HR.out]
          have H2 := Lib.hid h2; clear h2
          go_wp2_with fail
          go_ret3
          exact ⟨by rw [HE.out]; rfl, H2.out⟩
      · have htw : tw g.data.toList s.data.toList = 4 := by rw [tw, if_pos h1, if_pos h2, if_neg (by exact h3)]
        have hd : decide ((4096 : Int) < (g.size : Int) + (s.size : Int)) = true := by simp; omega
        have HE := Lib.hid (show dvE g.data.toList s.data.toList = 4 by rw [dvE, htw]; rfl)
        have HQ := Lib.hid (show qtV g.data.toList s.data.toList = [] by rw [qtV, HE.out]; rfl)
        have HR := Lib.hid (show rsV g.data.toList s.data.toList = [] by rw [rsV, HE.out]; rfl)
        have H1 := Lib.hid h1
        have H2 := Lib.hid h2
        clear htw h1 h2 hgb hsb hgl hsl
        go_enter Tryd.func26, Tryd.ntmps26
        go_wp2_with fail
        refine (refCheck_any _ _ _).mono ?_
        rintro e x1 ⟨rfl, rfl⟩
        rw [H1.out]
        go_wp2_with fail
        refine (refCheck_any _ _ _).mono ?_
        rintro e x1 ⟨rfl, rfl⟩
        rw [H2.out]
        go_wp2_with fail
        go_ret3
        exact ⟨by rw [HE.out, HQ.out, HR.out]; rfl, Below.refl _ _⟩
    · have htw : tw g.data.toList s.data.toList = chk 2 s.data.toList := by rw [tw, if_pos h1, if_neg h2]
      have HE := Lib.hid (show dvE g.data.toList s.data.toList = chk 2 s.data.toList by rw [dvE, htw, if_neg h2])
      have HQ := Lib.hid (show qtV g.data.toList s.data.toList = [] by rw [qtV, HE.out, if_neg h2])
      have HR := Lib.hid (show rsV g.data.toList s.data.toList = [] by rw [rsV, HE.out, if_neg h2])
      have hb : (chk 2 s.data.toList != 0) = true := by simpa using h2
      have H1 := Lib.hid h1
      clear htw h1 h2
      go_enter Tryd.func26, Tryd.ntmps26
      go_wp2_with fail
      refine (refCheck_any _ _ _).mono ?_
      rintro e x1 ⟨rfl, rfl⟩
      rw [H1.out]
      go_wp2_with fail
      refine (refCheck_any _ _ _).mono ?_
      rintro e x1 ⟨rfl, rfl⟩
      go_wp2_with fail
      go_ret3
      exact ⟨by rw [HE.out, HQ.out, HR.out]; rfl, Below.refl _ _⟩
  · have htw : tw g.data.toList s.data.toList = chk 2 g.data.toList := by rw [tw, if_neg h1]
    have HE := Lib.hid (show dvE g.data.toList s.data.toList = chk 2 g.data.toList by rw [dvE, htw, if_neg h1])
    have HQ := Lib.hid (show qtV g.data.toList s.data.toList = [] by rw [qtV, HE.out, if_neg h1])
    have HR := Lib.hid (show rsV g.data.toList s.data.toList = [] by rw [rsV, HE.out, if_neg h1])
    have hb : (chk 2 g.data.toList != 0) = true := by simpa using h1
    clear htw h1
    go_enter Tryd.func26, Tryd.ntmps26
    go_wp2_with fail
    refine (refCheck_any _ _ _).mono ?_
    rintro e x1 ⟨rfl, rfl⟩
    go_wp2_with fail
    go_ret3
    exact ⟨by rw [HE.out, HQ.out, HR.out]; rfl, Below.refl _ _⟩

/-! ### Product -/
def fk (a b : List UInt8) : Nat → List UInt8
  | 0 => List.replicate (a.length + b.length - 1) 48
  | i + 1 => if a.getD i 0 = 49 then xk (fk a b i) i b b.length else fk a b i
theorem fk_len (a b : List UInt8) : ∀ i, (fk a b i).length = a.length + b.length - 1
  | 0 => by simp [fk]
  | i + 1 => by rw [fk]; split <;> simp [xk_len, fk_len a b i]
theorem fk_bin {a b : List UInt8} (hb : b.all isB = true) : ∀ i, i ≤ a.length → (fk a b i).all isB = true
  | 0, _ => by rw [fk]; exact rep48_bin _
  | i + 1, h => by
    rw [fk]; split
    · exact xk_bin (fk_bin hb i (by omega)) hb (by rw [fk_len]; omega)
    · exact fk_bin hb i (by omega)
theorem vl_fk {a b : List UInt8} (hb : b.all isB = true) : ∀ i, i ≤ a.length → vl (fk a b i) = 2 ^ (a.length - i) * cl (vl (a.take i)) (vl b)
  | 0, _ => by rw [fk, vl_rep, List.take_zero]; show 0 = _ * cl 0 _; rw [cl_zero, Nat.mul_zero]
  | i + 1, h => by
    have hi : i < a.length := by omega
    have e : a.getD i 0 = a[i] := by rw [List.getD_eq_getElem?_getD, List.getElem?_eq_getElem hi]; rfl
    have e2 : a.length - i = (a.length - (i + 1)) + 1 := by omega
    rw [fk, e, vl_take hi, cl_bit _ _ _ (bt_le _), pow_xor, pow_dbl, ← e2, ← vl_fk hb i (by omega)]
    by_cases h49 : a[i] = 49
    · rw [if_pos h49, vl_xk (fk_bin hb i (by omega)) hb (by rw [fk_len]; omega), fk_len, show a.length + b.length - 1 - (i + b.length) = a.length - (i + 1) by omega, if_pos (by rw [h49]; rfl)]
    · rw [if_neg h49, if_neg (by rw [bt, if_neg h49]; omega), Nat.mul_zero, Nat.xor_zero]
theorem trm_fk {a b : List UInt8} (h : tw a b = 0) : trm (fk a b a.length) = prO a b := by
  obtain ⟨h1, h2, h3⟩ := pr_ok h
  obtain ⟨_, ha, hb⟩ := tw_ok h
  obtain ⟨h4, h5⟩ := trm_led (fk_bin (a := a) hb a.length (Nat.le_refl _))
  refine led_inj h4 h1 h5 h2 ?_
  rw [vl_trm, vl_fk hb _ (Nat.le_refl _), h3, Nat.sub_self, Nat.pow_zero, Nat.one_mul, List.take_length]
theorem pr_nil {a b : List UInt8} (h : tw a b = 0) (h0 : a = [] ∨ b = []) : prO a b = [] := by
  obtain ⟨h1, _, h3⟩ := pr_ok h
  refine led_nil h1 ?_
  rw [h3]
  rcases h0 with rfl | rfl
  · exact cl_zero _
  · exact cl_zero_r _
theorem fk_next (a b : List UInt8) (i : Nat) : ((a.getD i 0 = 49) → fk a b (i + 1) = xk (fk a b i) i b b.length) ∧ ((¬ a.getD i 0 = 49) → fk a b (i + 1) = fk a b i) :=
  ⟨fun h => by rw [fk, if_pos h], fun h => by rw [fk, if_neg h]⟩

set_option maxHeartbeats 4000000 in
set_option maxRecDepth 100000 in
theorem rProduct_any (a b : ByteArray) (w : World) : Calls Tryd.prog 28 #[.string a, .string b] w fun e w' =>
    e = .returned (.tuple #[.string ⟨(prO a.data.toList b.data.toList).toArray⟩, .int .i64 (tw a.data.toList b.data.toList)]) ∧ Below w.heap.size w w' := by
  by_cases h1 : chk 2 a.data.toList = 0
  · by_cases h2 : chk 2 b.data.toList = 0
    · obtain ⟨hgl, hab⟩ := (chk2_iff _).1 h1
      obtain ⟨hsl, hbb⟩ := (chk2_iff _).1 h2
      have hgl' : a.size ≤ 65536 := hgl
      have hsl' : b.size ≤ 65536 := hsl
      have H1 := Lib.hid h1
      have H2 := Lib.hid h2
      by_cases h3 : a.size + b.size ≤ 4096
      · have htw : tw a.data.toList b.data.toList = 0 := by rw [tw, if_pos h1, if_pos h2, if_pos (by exact h3)]
        have hd : decide ((4096 : Int) < (a.size : Int) + (b.size : Int)) = false := by simp; omega
        have HT := Lib.hid htw
        by_cases h0 : a.size = 0
        · have HP := Lib.hid (show prO a.data.toList b.data.toList = [] from pr_nil htw (.inl (List.eq_nil_of_length_eq_zero h0)))
          have ht : ((a.size : Int) == 0) = true := by rw [h0]; rfl
          clear htw h1 h2 hab hbb hgl hsl h0
          go_enter Tryd.func28, Tryd.ntmps28
          go_wp2_with fail
          refine (refCheck_any _ _ _).mono ?_
          rintro e x1 ⟨rfl, rfl⟩
          rw [H1.out]
          go_wp2_with fail
          refine (refCheck_any _ _ _).mono ?_
          rintro e x1 ⟨rfl, rfl⟩
          rw [H2.out]
          go_wp2_with fail
          go_ret2
          exact ⟨by rw [HP.out, HT.out]; rfl, Below.refl _ _⟩
        · have ht : ((a.size : Int) == 0) = false := by rw [beq_eq_false_iff_ne]; omega
          by_cases h00 : b.size = 0
          · have HP := Lib.hid (show prO a.data.toList b.data.toList = [] from pr_nil htw (.inr (List.eq_nil_of_length_eq_zero h00)))
            have ht2 : ((b.size : Int) == 0) = true := by rw [h00]; rfl
            clear htw h1 h2 hab hbb hgl hsl h00
            go_enter Tryd.func28, Tryd.ntmps28
            go_wp2_with fail
            refine (refCheck_any _ _ _).mono ?_
            rintro e x1 ⟨rfl, rfl⟩
            rw [H1.out]
            go_wp2_with fail
            refine (refCheck_any _ _ _).mono ?_
            rintro e x1 ⟨rfl, rfl⟩
            rw [H2.out]
            go_wp2_with fail
            go_ret2
            exact ⟨by rw [HP.out, HT.out]; rfl, Below.refl _ _⟩
          · have ht2 : ((b.size : Int) == 0) = false := by rw [beq_eq_false_iff_ne]; omega
            have HP := Lib.hid (show trm (fk a.data.toList b.data.toList a.size) = prO a.data.toList b.data.toList from trm_fk htw)
            have hfl := fun i => fk_len a.data.toList b.data.toList i
            have e1 : a.data.toList.length = a.size := rfl
            have e2 : b.data.toList.length = b.size := rfl
            obtain ⟨N, hN⟩ : ∃ N, a.size + b.size - 1 = N := ⟨_, rfl⟩
            have hNi : (a.size : Int) + (b.size : Int) - 1 = (N : Int) := by omega
            rw [e1, e2, hN] at hfl
            have HFL := Lib.hid hfl
            have HFB := Lib.hid (fun i (hi : i ≤ a.size) => fk_bin (a := a.data.toList) hbb i hi)
            have HNX := Lib.hid (fun i => fk_next a.data.toList b.data.toList i)
            have HF0 := Lib.hid (show fk a.data.toList b.data.toList 0 = List.replicate N 48 by rw [fk, e1, e2, hN])
            have HAB := Lib.hid (fun j (hj : j < a.size) => isB_or (all_get hab j hj))
            have HBB := Lib.hid (fun j (hj : j < b.size) => isB_or (all_get hbb j hj))
            have HGA := Lib.hid (fun j (hj : j < a.size) => getD_at a j hj)
            have HGB := Lib.hid (fun j (hj : j < b.size) => getD_at b j hj)
            have hN4 : N ≤ 4096 := by omega
            have hsum : a.size + b.size = N + 1 := by omega
            have HSUM := Lib.hid hsum
            clear htw h1 h2 hab hbb hgl hsl hfl hN hsum e1 e2
            go_enter Tryd.func28, Tryd.ntmps28
            go_wp2_with fail
            refine (refCheck_any _ _ _).mono ?_
            rintro e x1 ⟨rfl, rfl⟩
            rw [H1.out]
            go_wp2_with fail
            refine (refCheck_any _ _ _).mono ?_
            rintro e x1 ⟨rfl, rfl⟩
            rw [H2.out]
            go_wp2_with fail
            refine (Zeros_any N _ (by omega)).mono ?_
            rintro e w2 ⟨rfl, h2⟩
            have HB2 := Lib.hid h2; clear h2
            obtain ⟨Z, hZ⟩ : ∃ Z : ByteArray, (⟨(List.replicate N (48 : UInt8)).toArray⟩ : ByteArray) = Z := ⟨_, rfl⟩
            rw [hZ]
            have hZs : Z.size = N := by rw [← hZ]; simp [ByteArray.size]
            have HZ := Lib.hid (show Z.data.toList = fk a.data.toList b.data.toList 0 by rw [← hZ, HF0.out])
            clear hZ
            go_wp2_with (refine wpList_bytes _ rfl _ 9 57 5 rfl Tryd.underlying9 Tryd.underlying57 Tryd.underlying5 Z rfl ?_)
            intro w3 c hrow hb hz hc
            rw [HZ.out] at hrow
            have HR3 := Lib.hid hrow
            have H3 := Lib.hid (HB2.out.trans (hb.mono HB2.out.size))
            have HW2 := Lib.hid HB2.out.size
            clear hrow hb hz hc HZ
            obtain ⟨B, hB⟩ : ∃ B, w2.heap.size = B := ⟨_, rfl⟩
            rw [hB] at HR3 HW2 ⊢
            clear hB
            go_wp2_with fail
            go_loopw [9] (fun i wr => ∃ k : Nat, k ≤ a.size ∧ i = .int .i64 k ∧ RowP wr B 5 (bts (fk a.data.toList b.data.toList k)) ∧ Below w.heap.size w wr) (fun i _ => a.size - (intOf i).toNat)
            case atStart => exact ⟨0, by omega, rfl, HR3.out, H3.out⟩
            case round =>
              obtain ⟨i, hi, rfl, hrR, hb⟩ := hrel
              have HR := Lib.hid hrR
              have HB := Lib.hid hb
              clear hrR hb HR3 H3
              by_cases hlt : i < a.size
              · have hd1 : decide ((i : Int) < (a.size : Int)) = true := by simp; omega
                have hd1' : decide (i < a.size) = true := by simp; omega
                have hai : a[i] = 48 ∨ a[i] = 49 := HAB.out i hlt
                have HAI := Lib.hid hai; clear hai
                rcases Nat.lt_or_ge a[i].toNat 49 with h48 | h49
                · have ha48 : a[i] = 48 := by
                    rcases HAI.out with h | h
                    · exact h
                    · rw [h] at h48; exact absurd h48 (by decide)
                  have ht3 : ((a[i].toNat : Int) == 49) = false := by rw [ha48]; rfl
                  have HX := Lib.hid ((HNX.out i).2 (by rw [HGA.out i hlt, ha48]; decide))
                  clear h48 ha48
                  go_wp2_with fail
                  go_loopw [10] (fun kk wr2 => ∃ k : Nat, k ≤ b.size ∧ kk = .int .i64 k ∧ RowP wr2 B 5 (bts (fk a.data.toList b.data.toList i)) ∧ Below w.heap.size w wr2) (fun kk _ => b.size - (intOf kk).toNat)
                  case atStart => exact ⟨0, by omega, rfl, HR.out, HB.out⟩
                  case round =>
                    obtain ⟨k, hk, rfl, hrow, hbk⟩ := hrel
                    have HRK := Lib.hid hrow
                    have HBK := Lib.hid hbk
                    clear hrow hbk HR HB
                    by_cases hkl : k < b.size
                    · have hkd : decide ((k : Int) < (b.size : Int)) = true := by simp; omega
                      have hkd' : decide (k < b.size) = true := by simp; omega
                      go_wp2_with fail
                      go_roundw
                      case rel => exact ⟨k + 1, by omega, by go_num, HRK.out, HBK.out⟩
                      case measure => simp [intOf]; omega
                    · obtain rfl : k = b.size := by omega
                      have hkd : decide ((b.size : Int) < (b.size : Int)) = false := by simp
                      go_wp2_with fail
                      go_roundw
                      case rel => exact ⟨i + 1, by omega, by go_num, by rw [HX.out]; exact HRK.out, HBK.out⟩
                      case measure => simp [intOf]; omega
                · have ha49 : a[i] = 49 := by
                    rcases HAI.out with h | h
                    · rw [h] at h49; exact absurd h49 (by decide)
                    · exact h
                  have ht3 : ((a[i].toNat : Int) == 49) = true := by rw [ha49]; rfl
                  have HX := Lib.hid ((HNX.out i).1 (by rw [HGA.out i hlt, ha49]))
                  clear h49 ha49
                  go_wp2_with fail
                  go_loopw [10] (fun kk wr2 => ∃ k : Nat, k ≤ b.size ∧ kk = .int .i64 k ∧ RowP wr2 B 5 (bts (xk (fk a.data.toList b.data.toList i) i b.data.toList k)) ∧ Below w.heap.size w wr2) (fun kk _ => b.size - (intOf kk).toNat)
                  case atStart => exact ⟨0, by omega, rfl, HR.out, HB.out⟩
                  case round =>
                    obtain ⟨k, hk, rfl, hrow, hbk⟩ := hrel
                    have HRK := Lib.hid hrow
                    have HBK := Lib.hid hbk
                    clear hrow hbk HR HB
                    by_cases hkl : k < b.size
                    · have hkd : decide ((k : Int) < (b.size : Int)) = true := by simp; omega
                      have hkd' : decide (k < b.size) = true := by simp; omega
                      have hik : i + k < N := by have := HSUM.out; omega
                      have HLX := Lib.hid (show (bts (xk (fk a.data.toList b.data.toList i) i b.data.toList k)).length = N by rw [bts_len, xk_len, HFL.out])
                      have hbk : b[k] = 48 ∨ b[k] = 49 := HBB.out k hkl
                      have HBKK := Lib.hid hbk; clear hbk
                      rcases Nat.lt_or_ge b[k].toNat 49 with h48 | h49
                      · have hg48 : b[k] = 48 := by
                          rcases HBKK.out with h | h
                          · exact h
                          · rw [h] at h48; exact absurd h48 (by decide)
                        have ht4 : ((b[k].toNat : Int) == 49) = false := by rw [hg48]; rfl
                        have HXK := Lib.hid (xk_zero (l := fk a.data.toList b.data.toList i) (g := b.data.toList) (A := i) (k := k) (by rw [HFL.out]; exact hik) (by rw [HGB.out k hkl, hg48]))
                        clear h48 hg48
                        go_wp2_with fail
                        go_roundw
                        case rel => exact ⟨k + 1, by omega, by go_num, by rw [HXK.out]; exact HRK.out, HBK.out⟩
                        case measure => simp [intOf]; omega
                      · have hg49 : b[k] = 49 := by
                          rcases HBKK.out with h | h
                          · rw [h] at h49; exact absurd h49 (by decide)
                          · exact h
                        have ht4 : ((b[k].toNat : Int) == 49) = true := by rw [hg49]; rfl
                        have HG49 := Lib.hid (show b.data.toList.getD k 0 = 49 by rw [HGB.out k hkl, hg49])
                        clear h49 hg49
                        obtain ⟨x, hx⟩ : ∃ x, (fk a.data.toList b.data.toList i).getD (i + k) 0 = x := ⟨_, rfl⟩
                        have hxb : x = 48 ∨ x = 49 := by
                          rw [← hx, List.getD_eq_getElem?_getD, List.getElem?_eq_getElem (by rw [HFL.out]; exact hik)]
                          exact isB_or (all_get (HFB.out i (by omega)) (i + k) (by rw [HFL.out]; exact hik))
                        have hcx : wr.cell? ⟨B, i + k, none⟩ = some (.int .u8 (x.toNat : Int)) := by
                          rw [HRK.out.cell (i + k) (by rw [HLX.out]; exact hik), bts_get, xk_get, if_neg (by omega), ← hx, List.getD_eq_getElem?_getD, List.getElem?_eq_getElem (by rw [HFL.out]; exact hik)]; rfl
                        have hfz : wr.frozen? ⟨B, i + k, none⟩ = false := HRK.out.frozen (i + k) (by rw [HLX.out]; exact hik)
                        have HX9 := Lib.hid hx
                        clear hx
                        rcases hxb with rfl | rfl
                        · have hcx2 : wr.cell? ⟨B, i + k, none⟩ = some (.int .u8 48) := hcx
                          have HXK := Lib.hid (xk_flip (l := fk a.data.toList b.data.toList i) (g := b.data.toList) (A := i) (k := k) (z := 49) HG49.out (.inl ⟨HX9.out, rfl⟩))
                          have HS := Lib.hid (HRK.out.set (i + k) (.int .u8 49) (by rw [HLX.out]; exact hik))
                          clear hcx
                          go_wp2_with fail
                          go_roundw
                          case rel =>
                            refine ⟨k + 1, by omega, by go_num, ?_, HBK.out.setCell (p := ⟨B, i + k, none⟩) HW2.out _⟩
                            rw [HXK.out]
                            have h2 := HS.out
                            rw [show (Value.int .u8 49) = .int .u8 ((49 : UInt8).toNat : Int) from rfl, bts_set] at h2
                            exact h2
                          case measure => simp [intOf]; omega
                        · have hcx2 : wr.cell? ⟨B, i + k, none⟩ = some (.int .u8 49) := hcx
                          have HXK := Lib.hid (xk_flip (l := fk a.data.toList b.data.toList i) (g := b.data.toList) (A := i) (k := k) (z := 48) HG49.out (.inr ⟨HX9.out, rfl⟩))
                          have HS := Lib.hid (HRK.out.set (i + k) (.int .u8 48) (by rw [HLX.out]; exact hik))
                          clear hcx
                          go_wp2_with fail
                          go_roundw
                          case rel =>
                            refine ⟨k + 1, by omega, by go_num, ?_, HBK.out.setCell (p := ⟨B, i + k, none⟩) HW2.out _⟩
                            rw [HXK.out]
                            have h2 := HS.out
                            rw [show (Value.int .u8 48) = .int .u8 ((48 : UInt8).toNat : Int) from rfl, bts_set] at h2
                            exact h2
                          case measure => simp [intOf]; omega
                    · obtain rfl : k = b.size := by omega
                      have hkd : decide ((b.size : Int) < (b.size : Int)) = false := by simp
                      go_wp2_with fail
                      go_roundw
                      case rel => exact ⟨i + 1, by omega, by go_num, by rw [HX.out]; exact HRK.out, HBK.out⟩
                      case measure => simp [intOf]; omega
              · obtain rfl : i = a.size := by omega
                have hkd : decide ((a.size : Int) < (a.size : Int)) = false := by simp
                have hcv := run_string_rowP (P := Tryd.prog) (src := 57) (dst := 9) (c := c) (n := N) Tryd.underlying57 Tryd.underlying5 Tryd.underlying9 HR.out (HFL.out _)
                go_wp2_with fail
                refine (refCut_any _ _).mono ?_
                rintro e x9 ⟨rfl, rfl⟩
                go_wp2_with fail
                go_ret2
                exact ⟨by rw [← HP.out, HT.out]; rfl, HB.out⟩
      · have HT := Lib.hid (show tw a.data.toList b.data.toList = 4 by rw [tw, if_pos h1, if_pos h2, if_neg (by exact h3)])
        have HP := Lib.hid (show prO a.data.toList b.data.toList = [] by rw [prO, HT.out]; rfl)
        have hd : decide ((4096 : Int) < (a.size : Int) + (b.size : Int)) = true := by simp; omega
        clear h1 h2 hab hbb hgl hsl
        go_enter Tryd.func28, Tryd.ntmps28
        go_wp2_with fail
        refine (refCheck_any _ _ _).mono ?_
        rintro e x1 ⟨rfl, rfl⟩
        rw [H1.out]
        go_wp2_with fail
        refine (refCheck_any _ _ _).mono ?_
        rintro e x1 ⟨rfl, rfl⟩
        rw [H2.out]
        go_wp2_with fail
        go_ret2
        exact ⟨by rw [HP.out, HT.out]; rfl, Below.refl _ _⟩
    · have HT := Lib.hid (show tw a.data.toList b.data.toList = chk 2 b.data.toList by rw [tw, if_pos h1, if_neg h2])
      have HP := Lib.hid (show prO a.data.toList b.data.toList = [] by rw [prO, HT.out, if_neg h2])
      have hb : (chk 2 b.data.toList != 0) = true := by simpa using h2
      have H1 := Lib.hid h1
      clear h1 h2
      go_enter Tryd.func28, Tryd.ntmps28
      go_wp2_with fail
      refine (refCheck_any _ _ _).mono ?_
      rintro e x1 ⟨rfl, rfl⟩
      rw [H1.out]
      go_wp2_with fail
      refine (refCheck_any _ _ _).mono ?_
      rintro e x1 ⟨rfl, rfl⟩
      go_wp2_with fail
      go_ret2
      exact ⟨by rw [HP.out, HT.out]; rfl, Below.refl _ _⟩
  · have HT := Lib.hid (show tw a.data.toList b.data.toList = chk 2 a.data.toList by rw [tw, if_neg h1])
    have HP := Lib.hid (show prO a.data.toList b.data.toList = [] by rw [prO, HT.out, if_neg h1])
    have hb : (chk 2 a.data.toList != 0) = true := by simpa using h1
    clear h1
    go_enter Tryd.func28, Tryd.ntmps28
    go_wp2_with fail
    refine (refCheck_any _ _ _).mono ?_
    rintro e x1 ⟨rfl, rfl⟩
    go_wp2_with fail
    go_ret2
    exact ⟨by rw [HP.out, HT.out]; rfl, Below.refl _ _⟩
end Go.Proofs.YtahfmeopecmpmaaDoor
