/-
  WatermarkCosts returns true for every input: the walk.
-/
import Derived.Test.YtpnfipemencgnaaWlA
import Derived.Test.YtpnfipemencgnaaWmL
namespace Go.Proofs.Ytpnfipemencgnaa
open Go.RowKit

/-- Align at binary words that are short enough. -/
theorem align_bin {u v : ByteArray} (hu : bin 24 u = true) (hv : bin 24 v = true) (w : World) :
    Calls Try.prog 15 #[.string u, .string v] w fun e w' => ∃ x, e = .returned (.tuple #[x, .int .i64 (wc u.data.toList v.data.toList : Nat), .int .i64 0]) ∧ Holds w' x (alL u.data.toList v.data.toList) ∧ Below w.heap.size w w' := by
  have h1 := bin_ok hu
  have h2 := bin_ok hv
  have hk : chkA u.data.toList v.data.toList = 0 := chkA_mk h1.2 h2.2 (by have : u.data.toList.length = u.size := rfl; omega) (by have : v.data.toList.length = v.size := rfl; omega)
  refine (walign_any u v w).mono fun e w' ⟨x, he, ho, hb⟩ => ⟨x, ?_, ?_, hb⟩
  · rw [he, hk, costV, if_pos hk]
  · rw [alE_ok hk] at ho; exact ho.holds

theorem strs2 (w : World) (a b : ByteArray) : Strs (w.alloc (.cells #[.string a, .string b] 9)) w.heap.size 0 [a, b] := by
  intro j hj
  have := (row_new w 9 [.string a, .string b]).cell j
  rw [Nat.zero_add]
  refine this.trans ?_
  match j, hj with
  | 0, _ => rfl
  | 1, _ => rfl

set_option maxHeartbeats 2000000 in
set_option maxRecDepth 100000 in
theorem law_watermarkCosts (m r : ByteArray) (a2 : Option Addr) (len2 cap2 : Nat) (z2 : List Int) (w : World) (_hm : m.size ≤ maxLen) (_hr : r.size ≤ maxLen) (h2 : IsRowI .i64 w a2 len2 cap2 z2) :
    Calls Try.prog 4 #[.string m, .string r, .slice a2 len2 cap2] w fun e w' => e = .returned (.bool true) ∧ Below w.heap.size w w' := by
  clear _hm _hr
  obtain ⟨ho, hlo, _, hmx⟩ := h2.holds
  obtain ⟨o, hoe⟩ : ∃ o, o = z2.take len2 := ⟨_, rfl⟩
  rw [← hoe] at ho hlo
  clear hoe h2
  unfold maxLen at hmx
  have HO := Lib.hid ho; clear ho
  have HN := Lib.hid (show Calls Try.prog 12 #[.int .i64 24, .slice (some ⟨w.heap.size + 1, 0, none⟩) 2 2] ((w.alloc (.cells #[.string r] 9)).alloc (.cells #[.string m, .string r] 9)) fun e w' => e = .returned (.bool ([m, r].all (bin 24))) ∧ Below (w.heap.size + 2) ((w.alloc (.cells #[.string r] 9)).alloc (.cells #[.string m, .string r] 9)) w' from by
    have hs := strs2 (w.alloc (.cells #[.string r] 9)) m r
    have := binary_any 24 _ 0 2 [m, r] _ hs (by simp) (by simp)
    simpa using this)
  have HB1 := Lib.hid (show Below w.heap.size w ((w.alloc (.cells #[.string r] 9)).alloc (.cells #[.string m, .string r] 9)) from ((Below.refl _ _).alloc (Nat.le_refl _) _).alloc (by simp) _)
  have cb := ((row_new w 9 [.string r]).alloc (.cells #[.string m, .string r] 9)).cell 0
  by_cases hall : [m, r].all (bin 24) = true
  · have h3 := hall
    simp only [List.all_cons, List.all_nil, Bool.and_true, Bool.and_eq_true] at h3
    obtain ⟨bm, br⟩ := h3
    have lm := (bin_ok bm).1
    have lr := (bin_ok br).1
    by_cases h24 : len2 ≤ 24
    · have g1 : decide ((24 : Int) < (len2 : Int)) = false := by simp; omega
      have C1 := Lib.hid (fun w => align_bin bm br w)
      have C2 := Lib.hid (fun w => cost_bin bm br w)
      have C3 := Lib.hid (fun v w hv => costL_any m r v (alL m.data.toList r.data.toList) w hv (by omega) (by omega) (by rw [alL_len]; have : m.data.toList.length = m.size := rfl; omega))
      have C4 := Lib.hid (fun v w hv => costL_any m r v o w hv (by omega) (by omega) (by omega))
      obtain ⟨co, hco⟩ : ∃ co, costG m.data.toList r.data.toList o = co := ⟨_, rfl⟩
      have HCO := Lib.hid hco; clear hco
      have hzz : w.heap.size < w.heap.size + 2 := by omega
      have HALL := Lib.hid hall; clear hall
      clear bm br
      have HL1 := Lib.hid (costG_al m.data.toList r.data.toList)
      go_enter Try.func4, Try.ntmps4
      go_wp2_with fail
      refine HN.out.mono ?_
      rintro e w1 ⟨rfl, h1⟩
      rw [HALL.out]
      have cb1 := cell_below cb h1 (by omega)
      have HB1 := Lib.hid (HB1.out.trans (h1.mono (by omega)))
      have hz1 : w.heap.size + 2 ≤ w1.heap.size := by have := h1.size; simpa using this
      clear h1 cb
      go_wp2_with fail
      refine (C1.out _).mono ?_
      rintro e w2 ⟨v, rfl, hv, h2⟩
      have cb2 := cell_below cb1 h2 (by omega)
      have HB2 := Lib.hid (HB1.out.trans (h2.mono (by omega)))
      have HV := Lib.hid hv; clear hv
      have hz2 := Nat.le_trans hz1 h2.size
      clear h2 cb1 hz1
      go_wp2_with fail
      refine (C2.out _).mono ?_
      rintro e w3 ⟨rfl, h3⟩
      have cb3 := cell_below cb2 h3 (by omega)
      have HB3 := Lib.hid (HB2.out.trans (h3.mono (by omega)))
      have HV := Lib.hid (HV.out.below h3)
      have hz3 := Nat.le_trans hz2 h3.size
      clear h3 cb2 hz2
      go_wp2_with fail
      refine (C3.out _ _ HV.out).mono ?_
      rintro e w4 ⟨rfl, q, rfl⟩
      rw [HL1.out]
      have HO3 := Lib.hid ((HO.out.below HB3.out).drewN q)
      have HV3 := Lib.hid (HV.out.drewN q)
      go_wp2_with fail
      refine (C4.out _ _ HO3.out).mono ?_
      rintro e w5 ⟨rfl, q2, rfl⟩
      have HB5 := Lib.hid (show Below w.heap.size w (w3.drewN (q + q2)) from below_drewN HB3.out _)
      rcases co with _ | d
      · rw [HCO.out]
        go_wp2_with fail
        refine (awake_any _).mono ?_
        rintro e w6 ⟨rfl, h6⟩
        have H6 := Lib.hid h6; clear h6
        go_wp2_with fail
        go_ret
        exact ⟨rfl, ext_trans HB5.out H6.out⟩
      · rw [HCO.out]
        obtain ⟨d1, d2, d3⟩ := costG_least HCO.out
        have D2 := Lib.hid d2; clear d2
        have D3 := Lib.hid d3; clear d3
        have hlo2 : o.length = (alL m.data.toList r.data.toList).length := by
          rw [alL_len]; exact (costG_some HCO.out).choose_spec.2.2
        have C6 := Lib.hid (fun W v v' (hv : Holds W v o) (hv' : Holds W v' (alL m.data.toList r.data.toList)) hc => cmpFunc_any r v v' o (alL m.data.toList r.data.toList) w.heap.size W hv hv' hc (by omega) hlo2 (by omega) (fun x hx => ⟨(D3.out x hx).1, by have := (D3.out x hx).2; have e : r.data.toList.length = r.size := rfl; omega⟩) (fun x hx => ⟨(alL_mem _ _ x hx).1, by have := (alL_mem _ _ x hx).2; have e : r.data.toList.length = r.size := rfl; omega⟩))
        have hdd := costG_le HCO.out
        obtain ⟨bf, hbf⟩ : ∃ bf, lexI r.size o (alL m.data.toList r.data.toList) = bf := ⟨_, rfl⟩
        have HBF := Lib.hid hbf; clear hbf
        by_cases hb0 : 0 ≤ bf
        · have t1 : decide (0 ≤ bf) = true := by simpa using hb0
          clear hb0
          go_wp2_with fail
          refine (C6.out (w3.drewN (q + q2)) _ _ ((HO.out.below HB3.out).drewN (q + q2)) (HV.out.drewN (q + q2)) cb3).mono ?_
          rintro e w6 ⟨rfl, rfl⟩
          rw [HBF.out]
          go_wp2_with fail
          refine (awake_any _).mono ?_
          rintro e w7 ⟨rfl, h7⟩
          have H7 := Lib.hid h7; clear h7
          go_wp2_with fail
          go_ret
          exact ⟨rfl, ext_trans HB5.out H7.out⟩
        · have t1 : decide (0 ≤ bf) = false := by simpa using hb0
          have t2 : ((wc m.data.toList r.data.toList : Nat) : Int) < d := by
            by_cases h : d = (wc m.data.toList r.data.toList : Nat)
            · have h0 := D2.out h
              have e : r.data.toList.length = r.size := rfl
              rw [e, HBF.out] at h0
              omega
            · omega
          clear hb0
          go_wp2_with fail
          refine (C6.out (w3.drewN (q + q2)) _ _ ((HO.out.below HB3.out).drewN (q + q2)) (HV.out.drewN (q + q2)) cb3).mono ?_
          rintro e w6 ⟨rfl, rfl⟩
          rw [HBF.out]
          go_wp2_with fail
          refine (awake_any _).mono ?_
          rintro e w7 ⟨rfl, h7⟩
          have H7 := Lib.hid h7; clear h7
          go_wp2_with fail
          go_ret
          exact ⟨rfl, ext_trans HB5.out H7.out⟩
    · have g1 : decide ((24 : Int) < (len2 : Int)) = true := by simp; omega
      have HALL := Lib.hid hall; clear hall
      clear h24
      go_enter Try.func4, Try.ntmps4
      go_wp2_with fail
      refine HN.out.mono ?_
      rintro e w1 ⟨rfl, h1⟩
      rw [HALL.out]
      have HB1 := Lib.hid (HB1.out.trans (h1.mono (by omega)))
      clear h1
      go_wp2_with fail
      refine (awake_any _).mono ?_
      rintro e w2 ⟨rfl, h2⟩
      have H2 := Lib.hid h2; clear h2
      go_wp2_with fail
      go_ret
      exact ⟨rfl, ext_trans HB1.out H2.out⟩
  · have hall' : [m, r].all (bin 24) = false := by simpa using hall
    clear hall
    go_enter Try.func4, Try.ntmps4
    go_wp2_with fail
    refine HN.out.mono ?_
    rintro e w1 ⟨rfl, h1⟩
    rw [hall']
    clear hall'
    have HB1 := Lib.hid (HB1.out.trans (h1.mono (by omega)))
    clear h1
    go_wp2_with fail
    refine (awake_any _).mono ?_
    rintro e w2 ⟨rfl, h2⟩
    have H2 := Lib.hid h2; clear h2
    go_wp2_with fail
    go_ret
    exact ⟨rfl, ext_trans HB1.out H2.out⟩
end Go.Proofs.Ytpnfipemencgnaa
