/-
  The law of the stretches of a word.
-/
import Derived.Test.YtdalcopbaaabiaaDoorStR
import Derived.Test.YtdalcopbaaabiaaDoorSlA
namespace Go.Proofs.YtdalcopbaaabiaaDoor
open Go.RowKit

/-- How many of the first j parts have six letters 1 in a row. -/
def sixN (X : List ByteArray) (j : Nat) : Nat := ((X.take j).filter fun x => Lib.contains x.data.toList [49, 49, 49, 49, 49, 49]).length
theorem sixN_le (X : List ByteArray) (j : Nat) : sixN X j ≤ j := Nat.le_trans (List.length_filter_le _ _) (by simp; omega)
theorem sixN_succ {X : List ByteArray} {j : Nat} (h : j < X.length) : sixN X (j + 1) = if Lib.contains X[j].data.toList [49, 49, 49, 49, 49, 49] then sixN X j + 1 else sixN X j := by
  unfold sixN
  rw [List.take_add_one, List.getElem?_eq_getElem h, Option.toList_some, List.filter_append, List.length_append]
  simp only [List.filter_cons, List.filter_nil]
  split <;> simp
theorem sixN_all (X : List ByteArray) : sixN X X.length ≤ ((X.map fun x => x.data.toList).filter fun x => (ust5 x).isNone).length := by
  have h := six_le (X.map fun x => x.data.toList)
  refine Nat.le_trans (Nat.le_of_eq ?_) h
  rw [sixN, List.take_length, List.filter_map, List.length_map]; rfl
/-- The parts that Split cuts: none without flags, or the stretches, one before and one behind. -/
theorem parts_of (s : ByteArray) : ∃ K : List ByteArray, Lib.splitB ⟨#[48, 49, 49, 49, 49, 49, 49, 48]⟩ 0 (Lib.countB s ⟨#[48, 49, 49, 49, 49, 49, 49, 48]⟩) s = K ∧ K.length = Lib.countB s ⟨#[48, 49, 49, 49, 49, 49, 49, 48]⟩ + 1 ∧
    ((K.length = 1 ∧ stL s.data.toList = []) ∨ ∃ p X q, K = p :: (X ++ [q]) ∧ X.map (fun x => x.data.toList) = stL s.data.toList) := by
  refine ⟨_, rfl, Lib.splitB_all _ (by decide) 0 _ s rfl, ?_⟩
  have hd := Lib.splitB_data ⟨#[48, 49, 49, 49, 49, 49, 49, 48]⟩ 0 (Lib.countB s ⟨#[48, 49, 49, 49, 49, 49, 49, 48]⟩) s
  have hl := Lib.splitB_all ⟨#[48, 49, 49, 49, 49, 49, 49, 48]⟩ (by decide) 0 _ s rfl
  generalize Lib.splitB ⟨#[48, 49, 49, 49, 49, 49, 49, 48]⟩ 0 (Lib.countB s ⟨#[48, 49, 49, 49, 49, 49, 49, 48]⟩) s = K at *
  have hc : Lib.countB s ⟨#[48, 49, 49, 49, 49, 49, 49, 48]⟩ = Lib.count s.data.toList flag := rfl
  rw [hc] at hd hl
  rcases split_stL s.data.toList with ⟨h0, h1⟩ | ⟨p, last, h1, h2⟩
  · exact .inl ⟨by rw [hl, h0], h1⟩
  · rw [show (⟨#[48, 49, 49, 49, 49, 49, 49, 48]⟩ : ByteArray).data.toList = flag from rfl, h1] at hd
    refine .inr ?_
    cases K with
    | nil => simp at hd
    | cons p' K =>
      simp only [List.map_cons, List.cons.injEq] at hd
      obtain ⟨X, Y, h3, h4, h5⟩ := List.map_eq_append_iff.1 hd.2
      obtain ⟨q, rfl, _⟩ : ∃ q, Y = [q] ∧ True := by
        cases Y with
        | nil => simp at h5
        | cons q Y => cases Y with
          | nil => exact ⟨q, rfl, trivial⟩
          | cons r Y => simp at h5
      exact ⟨p', X, q, by rw [h3], h4⟩

set_option maxHeartbeats 1000000 in
set_option maxRecDepth 100000 in
theorem law_stuffingStretches (s : ByteArray) (_w0 : s.size ≤ maxLen) (w : World) (hsh : w.ShapedOpen Tryd.prog) :
    Calls Tryd.prog 10 #[.string s] w fun e w' => e = .returned (.bool true) ∧ Below w.heap.size w w' := by
  have HMX := Lib.hid (mx_of hsh); clear hsh
  by_cases hl : s.size ≤ 400
  · by_cases hc : chk 2 s.data.toList = 0
    · have HC := Lib.hid hc; clear hc
      have hg : decide ((400 : Int) < (s.size : Int)) = false := by simp; omega
      have HS := Lib.hid (parts_sum (stL s.data.toList))
      have hmem : ∀ x ∈ stL s.data.toList, x.length ≤ 65536 := fun x hx => by
        have h1 := stL_mem _ _ hx
        have e0 : s.data.toList.length = s.size := rfl
        omega
      obtain ⟨hb1, hb2⟩ := bas_val _ hmem
      have hlen := stL_len s.data.toList
      have e0 : s.data.toList.length = s.size := rfl
      clear hmem
      obtain ⟨K, hK, hKl, hKc⟩ := parts_of s
      have HK := Lib.hid hK; clear hK
      have hsix : K.length = 1 ∨ ∃ p X q, K = p :: (X ++ [q]) ∧ X.length = (stL s.data.toList).length ∧ sixN X X.length ≤ dwB (bas (stL s.data.toList)) ∧ ∀ x ∈ X, x.size ≤ 400 := by
        rcases hKc with h | ⟨p, X, q, h1, h2⟩
        · exact .inl h.1
        · exact .inr ⟨p, X, q, h1, by rw [← h2, List.length_map], by rw [hb2, ← h2]; exact sixN_all X, fun x hx => by
            have h3 := stL_mem s.data.toList x.data.toList (by rw [← h2]; exact List.mem_map_of_mem hx)
            have e1 : x.data.toList.length = x.size := rfl
            omega⟩
      have hsum : (dwO (bas (stL s.data.toList))).length + dwB (bas (stL s.data.toList)) = K.length - 2 := by
        rw [hb1, hb2, HS.out]
        rcases hKc with h | ⟨p, X, q, h1, h2⟩
        · rw [h.2, h.1]; rfl
        · rw [h1, ← h2]; simp
      clear hKc hb1 hb2 HS
      go_enter Tryd.func10, Tryd.ntmps10
      go_wp2_with fail
      refine (check_any _ _ _).mono ?_
      rintro e x1 ⟨rfl, n, rfl⟩
      rw [HC.out]
      have HM1 := Lib.hid (HMX.out.drewN n)
      have H1 := Lib.hid (below_drewN (Below.refl w.heap.size w) n)
      go_wp2_with fail
      refine (Deframe_in s _ HM1.out (by omega) HC.out).mono ?_
      rintro e x2 ⟨v, rfl, hrow, h2⟩
      obtain ⟨ao, cap, rfl⟩ : ∃ ao cap, v = .slice ao (dwO (bas (stL s.data.toList))).length cap := by
        rcases hrow.2 with ⟨hv', h0⟩ | ⟨g, cap, cur, hv', _⟩
        · exact ⟨none, 0, by rw [hv', h0]⟩
        · exact ⟨_, _, hv'⟩
      clear hrow
      obtain ⟨O, hO⟩ : ∃ O, (dwO (bas (stL s.data.toList))).length = O := ⟨_, rfl⟩
      obtain ⟨B, hB⟩ : ∃ B, dwB (bas (stL s.data.toList)) = B := ⟨_, rfl⟩
      obtain ⟨S, hS⟩ : ∃ S, (stL s.data.toList).length = S := ⟨_, rfl⟩
      rw [hO, hB]
      rw [hO, hB] at hsum
      rw [hB, hS] at hsix
      rw [hS] at hlen
      clear hO hB hS
      have HM2 := Lib.hid (HM1.out.below h2 (Nat.le_refl _))
      have H2 := Lib.hid (H1.out.trans (h2.mono H1.out.size)); clear h2
      obtain ⟨m, hm⟩ := HM2.out
      go_wp2_with fail
      refine (Tryd.strings_Split s _ m _ (by omega) hm (by decide)).mono ?_
      rintro e x3 ⟨rfl, hx3⟩
      rw [HK.out] at hx3
      rw [show Lib.countB s ⟨#[48, 49, 49, 49, 49, 49, 49, 48]⟩ + 1 = K.length from hKl.symm]
      have hcell : ∀ j : Nat, j < K.length → x3.cell? ⟨x2.heap.size, j, none⟩ = (K.map Value.string)[j]? := fun j _ => by
        rw [hx3]; exact (row_new x2 9 (K.map Value.string)).cell j
      have hb3 : Below x2.heap.size x2 x3 := by rw [hx3]; exact (Below.refl _ _).alloc (Nat.le_refl _) _
      have HM3 := Lib.hid ((show Mx x2 from ⟨m, hm⟩).below hb3 (Nat.le_refl _))
      have H3 := Lib.hid (H2.out.trans (hb3.mono H2.out.size)); clear hb3 hx3 hm
      have HCL := Lib.hid hcell; clear hcell
      rcases hsix with h1 | ⟨p, X, q, rfl, hX, hXB, hXs⟩
      · have hd0 : decide ((1 : Int) + 1 < (K.length : Int)) = false := by rw [decide_eq_false_iff_not]; omega
        have hq0 : (((O : Nat) : Int) + ((B : Nat) : Int) == max 0 ((K.length : Int) - 2)) = true := by rw [beq_iff_eq]; omega
        have hq1 : decide ((0 : Int) ≤ ((B : Nat) : Int)) = true := by rw [decide_eq_true_iff]; omega
        have hq3 : ((O : Nat) : Int) + ((B : Nat) : Int) = 0 := by omega
        have hq4 : max 0 ((K.length : Int) - 2) = 0 := by omega
        have hO0 : O ≤ 400 := by omega
        have hB0 : B ≤ 400 := by omega
        have hK0 : K.length ≤ 400 := by omega
        clear hKl HCL HK hsum h1 hlen
        go_wp2_with fail
        go_loopw [7, 8] (fun a i wr => a = .int .i64 0 ∧ i = .int .i64 1 ∧ wr = x3) (fun _ _ _ => 0)
        case atStart => exact ⟨rfl, rfl, rfl⟩
        case round =>
          obtain ⟨rfl, rfl, rfl⟩ := hrel
          go_wp2_with fail
          refine (awake_any _ HM3.out).mono ?_
          rintro e x7 ⟨rfl, h7⟩
          have H7 := Lib.hid (H3.out.trans (h7.mono H3.out.size)); clear h7
          go_wp2_with fail
          go_ret
          exact ⟨rfl, H7.out⟩
      · have hKs : (p :: (X ++ [q])).length = S + 2 := by simp [hX]
        rw [hKs]
        rw [hKs] at hsum
        clear hKl HK
        have HX := Lib.hid hX
        have HXB := Lib.hid hXB
        have HXS := Lib.hid hXs
        have HK2 := Lib.hid hKs
        clear hX hXB hKs hXs
        go_wp2_with fail
        go_loopw [7, 8] (fun a i wr => ∃ j : Nat, j ≤ S ∧ a = .int .i64 (sixN X j : Nat) ∧ i = .int .i64 ((j : Int) + 1) ∧ wr = x3) (fun _ i _ => S + 1 - (intOf i).toNat)
        case atStart => exact ⟨0, by omega, rfl, rfl, rfl⟩
        case round =>
          obtain ⟨j, hj, rfl, rfl, rfl⟩ := hrel
          by_cases hlt : j < S
          · have hltX : j < X.length := by have := HX.out; omega
            have hc1 : wr.cell? ⟨x2.heap.size, j + 1, none⟩ = some (.string X[j]) := by
              rw [HCL.out (j + 1) (by have := HK2.out; omega)]
              simp only [List.map_cons, List.getElem?_cons_succ, List.map_append]
              rw [List.getElem?_append_left (by simpa using hltX)]
              simp [List.getElem?_eq_getElem hltX]
            have hYs : X[j].size ≤ 400 := HXS.out _ (List.getElem_mem _)
            have hsz : sixN X j ≤ j := sixN_le X j
            have HN := Lib.hid (sixN_succ hltX)
            have hd1 : decide ((j : Int) + 1 + 1 < (S : Int) + 2) = true := by simp; omega
            have ht : ((j : Int) + 1).toNat = j + 1 := by omega
            have htl : ((j : Int) + 1) < (S : Int) + 2 := by omega
            obtain ⟨Y, hY⟩ : ∃ Y, X[j] = Y := ⟨_, rfl⟩
            rw [hY] at hc1 HN hYs
            clear hY hltX
            obtain ⟨m, hm⟩ := HM3.out
            cases hct : Lib.contains Y.data.toList [49, 49, 49, 49, 49, 49] with
            | true =>
              replace HN : Hid (sixN X (j + 1) = sixN X j + 1) := Lib.hid (by rw [HN.out, if_pos hct])
              have HCT := Lib.hid hct; clear hct
              go_wp2_with fail
              refine (Tryd.strings_Contains Y _ m _ (by omega) hm).mono ?_
              rintro e x4 ⟨rfl, rfl⟩
              rw [show Lib.contains Y.data.toList (⟨#[49, 49, 49, 49, 49, 49]⟩ : ByteArray).data.toList = true from HCT.out]
              go_wp2_with fail
              go_roundw
              case rel => exact ⟨j + 1, by omega, by rw [HN.out]; go_num, by go_num, trivial⟩
              case measure => simp [intOf]; omega
            | false =>
              replace HN : Hid (sixN X (j + 1) = sixN X j) := Lib.hid (by rw [HN.out, if_neg (by rw [hct]; simp)])
              have HCT := Lib.hid hct; clear hct
              go_wp2_with fail
              refine (Tryd.strings_Contains Y _ m _ (by omega) hm).mono ?_
              rintro e x4 ⟨rfl, rfl⟩
              rw [show Lib.contains Y.data.toList (⟨#[49, 49, 49, 49, 49, 49]⟩ : ByteArray).data.toList = false from HCT.out]
              go_wp2_with fail
              go_roundw
              case rel => exact ⟨j + 1, by omega, by rw [HN.out], by go_num, trivial⟩
              case measure => simp [intOf]; omega
          · obtain rfl : j = S := by omega
            have hd0 : decide ((j : Int) + 1 + 1 < (j : Int) + 2) = false := by rw [decide_eq_false_iff_not]; omega
            have hq0 : (((O : Nat) : Int) + ((B : Nat) : Int) == max 0 ((j : Int) + 2 - 2)) = true := by rw [beq_iff_eq]; omega
            have hq1 : decide (((sixN X j : Nat) : Int) ≤ ((B : Nat) : Int)) = true := by rw [decide_eq_true_iff, ← HX.out]; have := HXB.out; omega
            have hsz : sixN X j ≤ j := sixN_le X j
            have hO0 : O ≤ 400 := by omega
            have hB0 : B ≤ 400 := by omega
            have hj0 : j ≤ 400 := by omega
            have hq2 : sixN X j ≤ B := by rw [← HX.out]; exact HX.out ▸ HXB.out
            have hq3 : ((O : Nat) : Int) + ((B : Nat) : Int) = (j : Int) := by omega
            clear hsum hq0
            go_wp2_with fail
            refine (awake_any _ HM3.out).mono ?_
            rintro e x7 ⟨rfl, h7⟩
            have H7 := Lib.hid (H3.out.trans (h7.mono H3.out.size)); clear h7
            go_wp2_with fail
            go_ret
            exact ⟨rfl, H7.out⟩
    · have hg : decide ((400 : Int) < (s.size : Int)) = false := by simp; omega
      have hc' : (chk 2 s.data.toList != 0) = true := by simpa using hc
      clear hc
      go_enter Tryd.func10, Tryd.ntmps10
      go_wp2_with fail
      refine (check_any _ _ _).mono ?_
      rintro e x1 ⟨rfl, n, rfl⟩
      have HM1 := Lib.hid (HMX.out.drewN n)
      have H1 := Lib.hid (below_drewN (Below.refl w.heap.size w) n)
      go_wp2_with fail
      refine (awake_any _ HM1.out).mono ?_
      rintro e x7 ⟨rfl, h7⟩
      have H7 := Lib.hid (H1.out.trans (h7.mono H1.out.size)); clear h7
      go_wp2_with fail
      go_ret
      exact ⟨rfl, H7.out⟩
  · have hg : decide ((400 : Int) < (s.size : Int)) = true := by simp; omega
    go_enter Tryd.func10, Tryd.ntmps10
    go_wp2_with fail
    refine (awake_any _ HMX.out).mono ?_
    rintro e x7 ⟨rfl, h7⟩
    have H7 := Lib.hid h7; clear h7
    go_wp2_with fail
    go_ret
    exact ⟨rfl, H7.out⟩
end Go.Proofs.YtdalcopbaaabiaaDoor
