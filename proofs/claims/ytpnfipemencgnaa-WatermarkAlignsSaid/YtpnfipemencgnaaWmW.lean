/-
  The reference: Align and Cost.
-/
import Derived.Test.YtpnfipemencgnaaWmV
import Derived.Test.YtpnfipemencgnaaWmF
import Derived.Test.YtpnfipemencgnaaWmK
namespace Go.Proofs.Ytpnfipemencgnaa
open Go.RowKit

def atV (o : Option Nat) : Int := match o with
  | none => -1
  | some x => x

set_option maxHeartbeats 4000000 in
set_option maxRecDepth 100000 in
theorem refAlign_ok (m r : ByteArray) (w : World) (h : chkA m.data.toList r.data.toList = 0) :
    Calls Try.prog 21 #[.string m, .string r] w fun e w' => ∃ v, e = .returned (.tuple #[v, .int .i64 (wc m.data.toList r.data.toList : Nat), .int .i64 0]) ∧ Own w' w.heap.size 3 v (ints (alL m.data.toList r.data.toList)) ∧ Below w.heap.size w w' := by
  have hl := chkA_len h
  have hm : m.size ≤ 256 := hl.1
  have hr : r.size ≤ 256 := hl.2
  clear hl
  have HW := Lib.hid (wcI_le m.data.toList r.data.toList)
  have HCH := Lib.hid h; clear h
  go_enter Try.func21, Try.ntmps21
  go_wp2_with fail
  refine (rcheck_any _ _ _).mono ?_
  rintro e w1 ⟨rfl, rfl⟩
  rw [HCH.out]
  go_wp2_with fail
  refine (table_any m r _ hm hr).mono ?_
  rintro e w1 ⟨g, gr, rfl, hmat, hb⟩
  have HM := Lib.hid hmat; clear hmat
  have hs1 : w.heap.size ≤ w1.heap.size := hb.size
  have HB1 := Lib.hid hb; clear hb
  have HO := Lib.hid (own_lit w1 w1.heap.size 3 [] (Nat.le_refl _) (by simp))
  go_wp2_with fail
  go_loopw [9, 10, 11] (fun v jj ii wr => ∃ (i j : Nat) (xs : List Int), i ≤ m.size ∧ j ≤ r.size ∧ ii = .int .i64 i ∧ jj = .int .i64 j ∧ xs.length = i ∧ xs ++ alI m.data.toList r.data.toList (m.size - i) i j = alL m.data.toList r.data.toList ∧ Own wr w1.heap.size 3 v (ints xs) ∧ Below w1.heap.size w1 wr) (fun _ _ ii _ => m.size - (intOf ii).toNat)
  case atStart => exact ⟨0, 0, [], by omega, by omega, rfl, rfl, rfl, rfl, HO.out, (Below.refl _ _).alloc (Nat.le_refl _) _⟩
  case round =>
    obtain ⟨i, j, xs, hi, hj, rfl, rfl, hxl, hal, hown, hb⟩ := hrel
    have HAL := Lib.hid hal; clear hal
    have HOW := Lib.hid hown; clear hown
    have HB := Lib.hid hb; clear hb
    have HXL := Lib.hid hxl; clear hxl
    by_cases hlt : i < m.size
    · obtain ⟨wo, rfl⟩ : ∃ wo : World, wo = wr := ⟨_, rfl⟩
      go_wp2_with fail
      go_loopw [12, 13] (fun a k wr2 => ∃ K nd : Nat, j ≤ K ∧ K ≤ r.size ∧ k = .int .i64 ((K : Int) - 1) ∧ a = .int .i64 (atV (pkI m.data.toList r.data.toList i j (r.size - K) K)) ∧ wr2 = wo.drewN nd) (fun _ k _ => (intOf k + 1).toNat)
      case atStart => exact ⟨r.size, 0, hj, by omega, by go_num, by rw [Nat.sub_self]; rfl, rfl⟩
      case round =>
        obtain ⟨K, nd, hK1, hK2, hv, rfl, hwr⟩ := hrel
        have HOW2 : Hid (Own wr w1.heap.size 3 u9 (ints xs)) := Lib.hid (by rw [hwr]; exact HOW.out.drewN _)
        have HB2 : Hid (Below w1.heap.size w1 wr) := Lib.hid (by rw [hwr]; exact below_drewN HB.out _)
        have HWR := Lib.hid hwr; clear hwr
        have HM2 := Lib.hid (HM.out.below HB2.out)
        by_cases hKj : K = j
        · have HD := Lib.hid hKj
          have hlt2 : (K : Int) - 1 < (j : Int) := by omega
          have hal2 : alI m.data.toList r.data.toList (m.size - i) i j = match pkI m.data.toList r.data.toList i j (r.size - j) j with
              | some at' => (at' : Int) :: alI m.data.toList r.data.toList (m.size - (i + 1)) (i + 1) (at' + 1)
              | none => -1 :: alI m.data.toList r.data.toList (m.size - (i + 1)) (i + 1) j := by
            obtain ⟨f, hf⟩ : ∃ f, m.size - i = f + 1 := ⟨m.size - i - 1, by omega⟩
            have hf2 : m.size - (i + 1) = f := by omega
            rw [hf, hf2, alI]; rfl
          have HA2 := Lib.hid hal2; clear hal2
          have hsw := HB2.out.size
          have hlx : xs.length ≤ 256 := by have := HXL.out; omega
          obtain ⟨p, hp⟩ : ∃ p, pkI m.data.toList r.data.toList i j (r.size - K) K = p := ⟨_, rfl⟩
          have hp2 : pkI m.data.toList r.data.toList i j (r.size - j) j = p := by rw [← hp, hKj]
          rw [hp2] at HA2
          rw [hp]
          subst hv
          clear hKj
          rcases p with _ | x
          · have e1 : atV none = -1 := rfl
            have HP := Lib.hid hp; clear hp hp2
            rw [e1]
            go_wp2_with (at_builtin; refine wpList_app1 _ rfl _ _ _ rfl w1.heap.size 3 (.int .i64 0) 8 Try.underlying28 (by kernel_rfl) rfl _ _ rfl (HOW2.out.alloc _) wr.heap.size 1 (.int .i64 (-1)) rfl ((row_new wr 3 [.int .i64 (-1)]).cell 0) rfl ?c1 ?c2 ?c3 ?_)
            case c1 => rw [ints_len]; omega
            case c2 => rw [ints_len]; omega
            case c3 => exact Nat.le_trans hsw (by simp)
            intro v' w3 hown' hgrow _
            have HO3 := Lib.hid hown'; clear hown'
            have HB3 := Lib.hid (below_grown (HB2.out.alloc hsw _) (HOW2.out.alloc _) hgrow (Nat.le_trans hsw (by simp))); clear hgrow
            go_wp2_with fail
            go_roundw
            case rel => exact ⟨i + 1, j, xs ++ [-1], by omega, hj, by go_num, rfl, by rw [List.length_append, HXL.out]; rfl, by rw [← HAL.out, HA2.out, List.append_assoc]; rfl, by rw [← ints_app]; exact HO3.out, HB3.out⟩
            case measure => simp [intOf]; omega
          · have e1 : atV (some x) = (x : Int) := rfl
            have hbd := pkI_bd _ _ _ _ _ _ _ hp2
            have HP := Lib.hid hp; clear hp hp2
            rw [e1]
            go_wp2_with (at_builtin; refine wpList_app1 _ rfl _ _ _ rfl w1.heap.size 3 (.int .i64 0) 8 Try.underlying28 (by kernel_rfl) rfl _ _ rfl (HOW2.out.alloc _) wr.heap.size 1 (.int .i64 (x : Int)) rfl ((row_new wr 3 [.int .i64 (x : Int)]).cell 0) rfl ?c1 ?c2 ?c3 ?_)
            case c1 => rw [ints_len]; omega
            case c2 => rw [ints_len]; omega
            case c3 => exact Nat.le_trans hsw (by simp)
            intro v' w3 hown' hgrow _
            have HO3 := Lib.hid hown'; clear hown'
            have HB3 := Lib.hid (below_grown (HB2.out.alloc hsw _) (HOW2.out.alloc _) hgrow (Nat.le_trans hsw (by simp))); clear hgrow
            go_wp2_with fail
            go_roundw
            case rel => exact ⟨i + 1, x + 1, xs ++ [(x : Int)], by omega, by omega, by go_num, by go_num, by rw [List.length_append, HXL.out]; rfl, by rw [← HAL.out, HA2.out, List.append_assoc]; rfl, by rw [← ints_app]; exact HO3.out, HB3.out⟩
            case measure => simp [intOf]; omega
        · obtain ⟨k, rfl⟩ : ∃ k, K = k + 1 := ⟨K - 1, by omega⟩
          rw [show (((k + 1 : Nat) : Int) - 1) = (k : Int) by omega] at hv
          subst hv
          have hkr : k < r.size := by omega
          have hjk : j ≤ k := by omega
          have hz := HW.out (i + 1) (k + 1)
          have hz2 := HW.out i j
          have hd1 := dif_le m[i] r[k]
          simp only [Array.length_toList, ByteArray.size_data] at hz hz2
          have oI := HM2.out.out i (Nat.zero_le _) (by omega)
          have oI1 := HM2.out.out (i + 1) (Nat.zero_le _) (by omega)
          have gJ := HM2.out.cell i j (Nat.zero_le _) (by omega) (by omega)
          have gK1 := HM2.out.cell (i + 1) (k + 1) (Nat.zero_le _) (by omega) (by omega)
          have hT := hit_int m r i j k hlt hkr hjk
          have HST := Lib.hid (pkI_step m.data.toList r.data.toList i j (r.size - k) k (by omega))
          have HSU := Lib.hid (show r.size - k - 1 = r.size - (k + 1) by omega)
          by_cases hh : hit m.data.toList r.data.toList i j k = true
          · rw [hh] at hT
            have HH := Lib.hid hh; clear hh
            go_wp2_with fail
            go_quiet ((go_at_call 50; exact Calls.quiet_of_same (differs_same _ _ _)))
            go_wp2_with fail
            go_roundw
            case rel => exact ⟨k, _, hjk, by omega, by go_num, by rw [HST.out, if_pos HH.out]; rfl, by rw [HWR.out, World.drewN_drewN]⟩
            case measure => simp [intOf]
          · rw [show hit m.data.toList r.data.toList i j k = false by simpa using hh] at hT
            have HH := Lib.hid hh; clear hh
            go_wp2_with fail
            go_quiet ((go_at_call 50; exact Calls.quiet_of_same (differs_same _ _ _)))
            go_wp2_with fail
            go_roundw
            case rel => exact ⟨k, _, hjk, by omega, by go_num, by rw [HST.out, if_neg HH.out, HSU.out], by rw [HWR.out, World.drewN_drewN]⟩
            case measure => simp [intOf]
    · obtain rfl : i = m.size := by omega
      have hd : decide ((m.size : Int) < (m.size : Int)) = false := by simp
      have HM2 := Lib.hid (HM.out.below HB.out)
      have oI := HM2.out.out 0 (Nat.zero_le _) (by omega)
      have gJ := HM2.out.cell 0 0 (Nat.zero_le _) (by omega) (by omega)
      have hxa : xs = alL m.data.toList r.data.toList := by
        rw [← HAL.out, Nat.sub_self, alI, List.append_nil]
      have HXA := Lib.hid hxa; clear hxa
      rw [wcI_00] at gJ
      go_wp2_with fail
      go_quiet (fail)
      go_wp2_with fail
      go_ret3
      exact ⟨_, rfl, by rw [← HXA.out]; exact (Own.mono HOW.out hs1).drewN _, below_drewN (HB1.out.trans (HB.out.mono hs1)) _⟩

set_option maxHeartbeats 800000 in
set_option maxRecDepth 100000 in
theorem refAlign_any (m r : ByteArray) (w : World) :
    Calls Try.prog 21 #[.string m, .string r] w fun e w' => ∃ v, e = .returned (.tuple #[v, .int .i64 (costV m.data.toList r.data.toList), .int .i64 (chkA m.data.toList r.data.toList)]) ∧ Own w' w.heap.size 3 v (ints (alE m.data.toList r.data.toList)) ∧ Below w.heap.size w w' := by
  by_cases h : chkA m.data.toList r.data.toList = 0
  · refine (refAlign_ok m r w h).mono fun e w' ⟨v, he, ho, hb⟩ => ⟨v, ?_, ?_, hb⟩
    · rw [he, costV, if_pos h, h]
    · rw [alE_ok h]; exact ho
  · have hb : (chkA m.data.toList r.data.toList != 0) = true := by simpa using h
    have HV := Lib.hid (show costV m.data.toList r.data.toList = 0 by rw [costV, if_neg h])
    have HE := Lib.hid (alE_no h)
    have HO := Lib.hid (own_lit w w.heap.size 3 [] (Nat.le_refl _) (by simp))
    clear h
    go_enter Try.func21, Try.ntmps21
    go_wp2_with fail
    refine (rcheck_any _ _ _).mono ?_
    rintro e w1 ⟨rfl, rfl⟩
    go_wp2_with fail
    go_ret3
    exact ⟨_, by rw [HV.out]; rfl, by rw [HE.out]; exact HO.out, (Below.refl _ _).alloc (Nat.le_refl _) _⟩

set_option maxHeartbeats 400000 in
theorem refCost_any (m r : ByteArray) (w : World) :
    Calls Try.prog 22 #[.string m, .string r] w fun e w' => e = .returned (.tuple #[.int .i64 (costV m.data.toList r.data.toList), .int .i64 (chkA m.data.toList r.data.toList)]) ∧ Below w.heap.size w w' := by
  go_enter Try.func22, Try.ntmps22
  go_wp2_with fail
  refine (refAlign_any _ _ _).mono ?_
  rintro e w1 ⟨v, rfl, ho, hb⟩
  have HB := Lib.hid hb; clear hb ho
  go_wp2_with fail
  go_ret2
  exact ⟨rfl, HB.out⟩
end Go.Proofs.Ytpnfipemencgnaa
