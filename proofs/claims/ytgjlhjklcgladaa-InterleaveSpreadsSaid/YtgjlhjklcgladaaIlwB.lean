/-
  Spread and Order where they are refused; the contract of the reference's Order.
-/
import Derived.Test.YtgjlhjklcgladaaIlwA
import Derived.Test.YtgjlhjklcgladaaIlvO
namespace Go.Proofs.Ytgjlhjklcgladaa
open Go.RowKit

theorem spdE_fits {rows n burst : Int} (h : fitsE rows n ≠ 0) : spdE rows n burst = fitsE rows n := by rw [spdE, if_pos h]
theorem posE_zero {rows n : Int} (h : fitsE rows n = 0) : posE rows n 0 = 0 := by
  obtain ⟨_, _, h1, _, _⟩ := fits_ok h
  rw [posE, if_neg (by simp [h]), if_neg (by omega)]
theorem posE_bad {rows n : Int} (h : fitsE rows n ≠ 0) : posE rows n 0 = fitsE rows n := by rw [posE, if_pos h]

set_option maxHeartbeats 800000 in
theorem spread_not (rows n burst : Int) (w : World) (hf : spdE rows n burst ≠ 0) :
    Calls Try.prog 24 #[.int .i64 rows, .int .i64 n, .int .i64 burst] w fun e w' =>
      e = .returned (.tuple #[.int .i64 0, .int .i64 (spdE rows n burst)]) ∧ Below w.heap.size w w' := by
  by_cases hc : fitsE rows n = 0
  · have hE : spdE rows n burst = if burst < 1 ∨ n < burst then 2 else if 4096 < n then 4 else 0 := by rw [spdE, if_neg (by simp [hc])]
    have hc' : (fitsE rows n != 0) = false := by simp [hc]
    by_cases h1 : burst < 1
    · have HE := Lib.hid (show spdE rows n burst = 2 by rw [hE, if_pos (by omega)])
      clear hc hE hf
      go_enter Try.func24, Try.ntmps24
      go_wp2_with (go_at_call 32; refine (fits_any _ _ _).mono ?_; rintro e w' ⟨rfl, rfl⟩)
      go_ret2
      exact ⟨by rw [HE.out]; rfl, Below.refl _ _⟩
    by_cases h2 : n < burst
    · have HE := Lib.hid (show spdE rows n burst = 2 by rw [hE, if_pos (by omega)])
      clear hc hE hf
      go_enter Try.func24, Try.ntmps24
      go_wp2_with (go_at_call 32; refine (fits_any _ _ _).mono ?_; rintro e w' ⟨rfl, rfl⟩)
      go_ret2
      exact ⟨by rw [HE.out]; rfl, Below.refl _ _⟩
    have h4 : 4096 < n := by
      rcases Int.lt_or_le 4096 n with h | h
      · exact h
      · exfalso; apply hf; rw [hE, if_neg (by omega), if_neg (by omega)]
    have HE := Lib.hid (show spdE rows n burst = 4 by rw [hE, if_neg (by omega), if_pos h4])
    clear hc hE hf
    go_enter Try.func24, Try.ntmps24
    go_wp2_with (go_at_call 32; refine (fits_any _ _ _).mono ?_; rintro e w' ⟨rfl, rfl⟩)
    go_ret2
    exact ⟨by rw [HE.out]; rfl, Below.refl _ _⟩
  · have HE := Lib.hid (spdE_fits (burst := burst) hc)
    have hc' : (fitsE rows n != 0) = true := by simp [hc]
    clear hc hf
    go_enter Try.func24, Try.ntmps24
    go_wp2_with (go_at_call 32; refine (fits_any _ _ _).mono ?_; rintro e w' ⟨rfl, rfl⟩)
    go_ret2
    exact ⟨by rw [HE.out]; rfl, Below.refl _ _⟩

set_option maxHeartbeats 800000 in
theorem refSpread_not (rows n burst : Int) (w : World) (hf : spdE rows n burst ≠ 0) :
    Calls Try.prog 25 #[.int .i64 rows, .int .i64 n, .int .i64 burst] w fun e w' =>
      e = .returned (.tuple #[.int .i64 0, .int .i64 (spdE rows n burst)]) ∧ Below w.heap.size w w' := by
  by_cases hc : fitsE rows n = 0
  · have hE : spdE rows n burst = if burst < 1 ∨ n < burst then 2 else if 4096 < n then 4 else 0 := by rw [spdE, if_neg (by simp [hc])]
    have hc' : (posE rows n 0 != 0) = false := by rw [posE_zero hc]; rfl
    by_cases h1 : burst < 1
    · have HE := Lib.hid (show spdE rows n burst = 2 by rw [hE, if_pos (by omega)])
      clear hc hE hf
      go_enter Try.func25, Try.ntmps25
      go_wp2_with (go_at_call 23; refine (refPosition_any _ _ _ _).mono ?_; rintro e w' ⟨rfl, nq, rfl⟩)
      go_ret2
      exact ⟨by rw [HE.out]; rfl, below_ofN _⟩
    by_cases h2 : n < burst
    · have HE := Lib.hid (show spdE rows n burst = 2 by rw [hE, if_pos (by omega)])
      clear hc hE hf
      go_enter Try.func25, Try.ntmps25
      go_wp2_with (go_at_call 23; refine (refPosition_any _ _ _ _).mono ?_; rintro e w' ⟨rfl, nq, rfl⟩)
      go_ret2
      exact ⟨by rw [HE.out]; rfl, below_ofN _⟩
    have h4 : 4096 < n := by
      rcases Int.lt_or_le 4096 n with h | h
      · exact h
      · exfalso; apply hf; rw [hE, if_neg (by omega), if_neg (by omega)]
    have HE := Lib.hid (show spdE rows n burst = 4 by rw [hE, if_neg (by omega), if_pos h4])
    clear hc hE hf
    go_enter Try.func25, Try.ntmps25
    go_wp2_with (go_at_call 23; refine (refPosition_any _ _ _ _).mono ?_; rintro e w' ⟨rfl, nq, rfl⟩)
    go_ret2
    exact ⟨by rw [HE.out]; rfl, below_ofN _⟩
  · have HE := Lib.hid (show spdE rows n burst = posE rows n 0 by rw [spdE_fits hc, posE_bad hc])
    have hc' : (posE rows n 0 != 0) = true := by rw [posE_bad hc]; simp [hc]
    clear hc hf
    go_enter Try.func25, Try.ntmps25
    go_wp2_with (go_at_call 23; refine (refPosition_any _ _ _ _).mono ?_; rintro e w' ⟨rfl, nq, rfl⟩)
    go_ret2
    exact ⟨by rw [HE.out]; rfl, below_ofN _⟩

set_option maxHeartbeats 800000 in
theorem refOrder_not (rows n : Int) (w : World) (hf : ordE rows n ≠ 0) :
    Calls Try.prog 26 #[.int .i64 rows, .int .i64 n] w fun e w' =>
      e = .returned (.tuple #[.int .i64 0, .int .i64 (ordE rows n)]) ∧ Below w.heap.size w w' := by
  by_cases hc : fitsE rows n = 0
  · have hE : ordE rows n = if 4096 < n then 4 else 0 := by rw [ordE, if_neg (by simp [hc])]
    have h4 : 4096 < n := by
      rcases Int.lt_or_le 4096 n with h | h
      · exact h
      · exfalso; apply hf; rw [hE, if_neg (by omega)]
    have HE := Lib.hid (show ordE rows n = 4 by rw [hE, if_pos h4])
    have hc' : (posE rows n 0 != 0) = false := by rw [posE_zero hc]; rfl
    clear hc hE hf
    go_enter Try.func26, Try.ntmps26
    go_wp2_with (go_at_call 23; refine (refPosition_any _ _ _ _).mono ?_; rintro e w' ⟨rfl, nq, rfl⟩)
    go_ret2
    exact ⟨by rw [HE.out]; rfl, below_ofN _⟩
  · have HE := Lib.hid (show ordE rows n = posE rows n 0 by rw [ordE, if_pos hc, posE_bad hc])
    have hc' : (posE rows n 0 != 0) = true := by rw [posE_bad hc]; simp [hc]
    clear hc hf
    go_enter Try.func26, Try.ntmps26
    go_wp2_with (go_at_call 23; refine (refPosition_any _ _ _ _).mono ?_; rintro e w' ⟨rfl, nq, rfl⟩)
    go_ret2
    exact ⟨by rw [HE.out]; rfl, below_ofN _⟩

theorem Own.cell {w : World} {base : Nat} {T : TypeId} {g cap : Nat} {xs : List Value} {n : Nat} (h : Own w base T (.slice (some ⟨g, 0, none⟩) n cap) xs) (hn : xs.length = n) (j : Nat) (hj : j < n) : w.cell? ⟨g, j, none⟩ = xs[j]? := by
  subst hn; exact World.ownsRow.cellAt h j (by omega)
theorem Own.free {w : World} {base : Nat} {T : TypeId} {g cap : Nat} {xs : List Value} {n : Nat} (h : Own w base T (.slice (some ⟨g, 0, none⟩) n cap) xs) (hn : xs.length = n) (j : Nat) : w.frozen? ⟨g, j, none⟩ = false := by
  subst hn; exact World.ownsRow.frozenAt h j
theorem Own.put {w : World} {base : Nat} {T : TypeId} {g cap : Nat} {xs : List Value} {n : Nat} (h : Own w base T (.slice (some ⟨g, 0, none⟩) n cap) xs) (hn : xs.length = n) (j : Nat) (u : Value) :
    Own (w.setCell ⟨g, j, none⟩ u) base T (.slice (some ⟨g, 0, none⟩) n cap) (xs.set j u) := by
  subst hn
  have := Own.stored h j u
  rwa [List.length_set] at this
theorem beq_cast' (a b : Nat) : ((a : Int) == (b : Int)) = (a == b) := by
  rw [Bool.eq_iff_iff, beq_iff_eq, beq_iff_eq]; omega
theorem nats_len (l : List Nat) : (nats l).length = l.length := by simp [nats]
theorem nats_snoc (n : Nat) : nats (List.range n) ++ [.int .i64 (n : Int)] = nats (List.range (n + 1)) := by simp [nats, List.range_succ]

set_option maxHeartbeats 2000000 in
theorem refOrder_ok (r n N : Nat) (w : World) (hf : fitsE r n = 0) (hn : n ≤ 4096) (hN : 1 ≤ N) (hN2 : N ≤ 1000000) (ho : ∀ j, j < N → same n (atK (posn (n / r) r) n (j + 1)) = decide (j + 1 = N)) :
    Calls Try.prog 26 #[.int .i64 r, .int .i64 n] w fun e w' => e = .returned (.tuple #[.int .i64 N, .int .i64 0]) ∧ Below w.heap.size w w' := by
  obtain ⟨hr1, hr2, hn1, hn2, hm⟩ := fits_ok hf
  have hpE := posE_zero hf
  have hp := Lib.hid (div_parts (n := n) (r := r) (by omega) hm)
  have hlt := fun i hi => posn_le (n / r) r i n hp.out.1 hp.out.2 hi
  have c0 := fun w => refPosition_any r n 0 w
  simp only [hpE] at c0
  have c1 := fun (i : Nat) (w : World) (hi : i ≤ 65536) => refPosition_in r n i w (by omega) (by omega) (by omega) hp.out.1 hi
  have hval : ∀ k i, i < n → ∃ v, (atK (posn (n / r) r) n k)[i]? = some v ∧ v < n := by
    intro k
    induction k with
    | zero => intro i hi; exact ⟨i, by simp [atK, hi], hi⟩
    | succ k ih =>
      intro i hi
      obtain ⟨v, h1, h2⟩ := ih i hi
      exact ⟨posn (n / r) r v, by simp [atK, h1], hlt v h2⟩
  generalize posn (n / r) r = P at *
  have C0 := Lib.hid c0; have C1 := Lib.hid c1; have HV := Lib.hid hval; have HO := Lib.hid ho; clear c0 c1 hval hlt hf hm hpE ho
  go_enter Try.func26, Try.ntmps26
  go_wp2_with fail
  refine (C0.out _).mono ?_
  rintro e w1 ⟨rfl, hw1⟩
  have HW1 : Hid (Below w.heap.size w w1) := Lib.hid (by obtain ⟨m, rfl⟩ := hw1; exact below_ofN _)
  clear hw1
  go_wp2_with fail
  have ho := own_lit w1 w1.heap.size 3 [] (Nat.le_refl _) (by simp)
  have HO0 := Lib.hid ho; clear ho
  go_loopw [8, 9] (fun v i wr => ∃ k : Nat, k ≤ n ∧ i = .int .i64 k ∧ Own wr w1.heap.size 3 v (nats (List.range k)) ∧ Below w1.heap.size w1 wr) (fun _ i _ => n - (intOf i).toNat)
  case atStart => exact ⟨0, by omega, rfl, HO0.out, (Below.refl _ _).alloc (Nat.le_refl _) _⟩
  case round =>
    obtain ⟨k, hk, rfl, hown, hb⟩ := hrel
    have HW := Lib.hid hown; clear hown
    have HB := Lib.hid hb; clear hb
    by_cases hlt : k < n
    · have HSZ := Lib.hid HB.out.size
      go_wp2_with (at_builtin; refine wpList_app1 _ rfl _ _ _ rfl w1.heap.size 3 (.int .i64 0) 8 Try.underlying32 (by kernel_rfl) rfl _ _ rfl (HW.out.alloc _) wr.heap.size 1 (.int .i64 (k : Int)) rfl ((row_new wr 3 [.int .i64 (k : Int)]).cell 0) rfl ?c1 ?c2 ?c3 ?_)
      case c1 => rw [nats_len, List.length_range]; omega
      case c2 => rw [nats_len, List.length_range]; omega
      case c3 => have := HSZ.out; simp; omega
      intro v' w2 hown2 hgr hnn
      have hb2 : Below w1.heap.size w1 w2 := below_grown (HB.out.alloc HSZ.out _) (HW.out.alloc _) hgr (by have := HSZ.out; simp; omega)
      rw [nats_snoc] at hown2
      have HO2 := Lib.hid hown2; clear hown2
      have HB2 := Lib.hid hb2; clear hb2
      clear hgr hnn
      go_wp2_with fail
      go_roundw
      case rel => exact ⟨k + 1, by omega, by go_num, HO2.out, HB2.out⟩
      case measure => simp [intOf]; omega
    · obtain rfl : k = n := by omega
      have hnl : (nats (List.range k)).length = k := by rw [nats_len, List.length_range]
      rcases HW.out.cases with ⟨h1, h2⟩ | ⟨g, cap, hv, hg1, hg2, -⟩
      · exfalso
        rw [h2] at hnl; simp at hnl; omega
      rw [hnl] at hv
      subst hv
      have HO3 : Hid (Own wr w1.heap.size 3 (.slice (some ⟨g, 0, none⟩) k cap) (nats (atK P k 0))) := HW
      have HB3 := HB
      clear HW HB hnl
      go_wp2_with fail
      go_loopw [10] (fun c wr2 => ∃ t : Nat, t < N ∧ c = .int .i64 ((t : Int) + 1) ∧ Own wr2 w1.heap.size 3 (.slice (some ⟨g, 0, none⟩) k cap) (nats (atK P k t)) ∧ Below w1.heap.size w1 wr2) (fun c _ => N + 1 - (intOf c).toNat)
      case atStart => exact ⟨0, by omega, rfl, HO3.out, HB3.out⟩
      case round =>
        clear HO3 HB3
        obtain ⟨t, ht, rfl, hown, hb⟩ := hrel
        have HO1 := Lib.hid hown; clear hown
        have HB := Lib.hid hb; clear hb
        have hle : (k : Nat) ≤ k := Nat.le_refl _
        go_wp2_with fail
        go_loopw [11, 12] (fun bk i wr3 => ∃ j : Nat, j ≤ k ∧ i = .int .i64 j ∧ bk = .bool (backK P k t j) ∧ Own wr3 w1.heap.size 3 (.slice (some ⟨g, 0, none⟩) k cap) (nats (midK P k t j)) ∧ Below w1.heap.size w1 wr3) (fun _ i _ => k - (intOf i).toNat)
        case atStart => exact ⟨0, by omega, rfl, rfl, by rw [midK_zero]; exact HO1.out, HB.out⟩
        case round =>
          clear HO1 HB
          obtain ⟨j, hj, rfl, rfl, hown, hb⟩ := hrel
          have HO1 := Lib.hid hown; clear hown
          have HB := Lib.hid hb; clear hb
          have hml : (nats (midK P k t j)).length = k := by rw [nats_len, midK_len _ _ _ _ hj]
          have HML := Lib.hid hml; clear hml
          by_cases hlt2 : j < k
          · obtain ⟨v, v1, v2⟩ := HV.out t j hlt2
            have V1 := Lib.hid v1; clear v1
            have hcell : wr.cell? ⟨g, j, none⟩ = some (.int .i64 v) := by
              rw [HO1.out.cell HML.out j hlt2, nats_get, midK_get _ _ _ _ hlt2, V1.out]; rfl
            have hfz := HO1.out.free HML.out j
            by_cases hbk : backK P k t j = true
            · go_wp2_with fail
              refine (C1.out v _ (by omega)).mono ?_
              rintro e w5 ⟨rfl, nq, rfl⟩
              go_wp2_with fail
              go_roundw
              case rel =>
                refine ⟨j + 1, by omega, by go_num, ?_, ?_, below_drewN (HB.out.setCell hg1 _) _⟩
                · rw [backK_succ P _ t j v V1.out, hbk, Bool.true_and, beq_cast']
                · rw [← midK_set P _ t j v hlt2 V1.out, ← nats_set]; exact (HO1.out.put HML.out j _).drewN _
              case measure => simp [intOf]; omega
            · have hbk' : backK P k t j = false := by simpa using hbk
              clear hbk
              go_wp2_with fail
              refine (C1.out v _ (by omega)).mono ?_
              rintro e w5 ⟨rfl, nq, rfl⟩
              go_wp2_with fail
              go_roundw
              case rel =>
                refine ⟨j + 1, by omega, by go_num, ?_, ?_, below_drewN (HB.out.setCell hg1 _) _⟩
                · rw [backK_succ P _ t j v V1.out, hbk', Bool.false_and]
                · rw [← midK_set P _ t j v hlt2 V1.out, ← nats_set]; exact (HO1.out.put HML.out j _).drewN _
              case measure => simp [intOf]; omega
          · obtain rfl : j = k := by omega
            have hsame : backK P j t j = decide (t + 1 = N) := HO.out t ht
            have ho1 := HO1.out
            rw [midK_all] at ho1
            have HO4 := Lib.hid ho1; clear ho1 HO1
            by_cases htN : t + 1 = N
            · have e1 : backK P j t j = true := by rw [hsame]; simp [htN]
              have HTN := Lib.hid htN; clear htN hsame
              rw [e1]
              go_wp2_with fail
              go_ret2
              refine ⟨?_, ext_trans HW1.out HB.out⟩
              rw [← HTN.out]; rfl
            · have e1 : backK P j t j = false := by rw [hsame]; simp [htN]
              have htN2 : t + 1 < N := by omega
              clear htN hsame
              rw [e1]
              go_wp2_with fail
              go_roundw
              case rel => exact ⟨t + 1, by omega, by go_num, HO4.out, HB.out⟩
              case measure => simp [intOf]; omega
end Go.Proofs.Ytgjlhjklcgladaa
