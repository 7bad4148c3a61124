/-
  Plain laws: the stretches of a word and its split parts; six letters 1 in a row.
-/
import Derived.Test.YtdalcopbaaabiaaDoorStQ
import Derived.Lib.SplitLaws
namespace Go.Proofs.YtdalcopbaaabiaaDoor
open Go.RowKit

theorem cut_hit {l : List UInt8} {i : Nat} (h : Lib.index l flag = i) : ctf l = (l.take i, l.drop (i + 8), true) := by
  unfold ctf Lib.cut
  rw [if_pos (by omega), h]; rfl
theorem cut_miss {l : List UInt8} (h : Lib.index l flag = -1) : ctf l = (l, [], false) := by
  unfold ctf Lib.cut
  rw [if_neg (by omega)]
theorem ix_cases (l : List UInt8) : Lib.index l flag = -1 ∨ ∃ i : Nat, Lib.index l flag = i := by
  have := Lib.index_ge l flag
  by_cases h : Lib.index l flag = -1
  · exact .inl h
  · exact .inr ⟨(Lib.index l flag).toNat, by omega⟩
theorem splitK_hit {l : List UInt8} {i k : Nat} (h : Lib.index l flag = i) : Lib.splitK flag 0 (k + 1) l = l.take i :: Lib.splitK flag 0 k (l.drop (i + 8)) := by
  have hm : ¬ (Lib.index l flag == -1) = true := fun e => by have := beq_iff_eq.1 e; omega
  rw [Lib.splitK, if_neg hm, h]; rfl
theorem count_hit8 {l : List UInt8} {i : Nat} (h : Lib.index l flag = i) : Lib.count l flag = Lib.count (l.drop (i + 8)) flag + 1 := by
  rw [Lib.count_hit (by decide) h, Nat.add_comm]; rfl
/-- The parts behind the first one are the stretches and one more. -/
theorem split_stF : ∀ (n : Nat) (r : List UInt8), r.length < n → ∃ last, Lib.splitK flag 0 (Lib.count r flag) r = stF n r ++ [last]
  | 0, r, h => by omega
  | n + 1, r, h => by
    rcases ix_cases r with hm | ⟨i, hi⟩
    · exact ⟨r, by rw [Lib.count_miss hm, Lib.splitK, stF, cut_miss hm]; rfl⟩
    · have h8 := (ctf_len r).1 (by rw [cut_hit hi])
      rw [cut_hit hi] at h8
      obtain ⟨last, hl⟩ := split_stF n (r.drop (i + 8)) (by simp only at h8; omega)
      exact ⟨last, by rw [count_hit8 hi, splitK_hit hi, hl, stF, cut_hit hi]; rfl⟩
theorem split_stL (l : List UInt8) : (Lib.count l flag = 0 ∧ stL l = []) ∨ ∃ p last, Lib.splitK flag 0 (Lib.count l flag) l = p :: (stL l ++ [last]) ∧ Lib.count l flag = (stL l).length + 1 := by
  rcases ix_cases l with hm | ⟨i, hi⟩
  · exact .inl ⟨Lib.count_miss hm, by rw [stL, cut_miss hm]; rfl⟩
  · have h8 := (ctf_len l).1 (by rw [cut_hit hi])
    rw [cut_hit hi] at h8
    obtain ⟨last, hl⟩ := split_stF (l.length + 1) (l.drop (i + 8)) (by simp only at h8; omega)
    have hs : stL l = stF (l.length + 1) (l.drop (i + 8)) := by rw [stL, cut_hit hi]; rfl
    refine .inr ⟨l.take i, last, by rw [count_hit8 hi, splitK_hit hi, hl, hs], ?_⟩
    have hlen : (Lib.splitK flag 0 (Lib.count (l.drop (i + 8)) flag) (l.drop (i + 8))).length = Lib.count (l.drop (i + 8)) flag + 1 := by
      have h1 := Lib.splitB_all ⟨flag.toArray⟩ (by decide) 0 (Lib.count (l.drop (i + 8)) flag) ⟨(l.drop (i + 8)).toArray⟩ rfl
      have h2 := congrArg List.length (Lib.splitB_data ⟨flag.toArray⟩ 0 (Lib.count (l.drop (i + 8)) flag) ⟨(l.drop (i + 8)).toArray⟩)
      rw [List.length_map, h1] at h2
      exact h2.symm
    rw [hl, List.length_append] at hlen
    rw [count_hit8 hi, hs]
    simp at hlen; omega
theorem stF_mem : ∀ (n : Nat) (r : List UInt8) (x : List UInt8), x ∈ stF n r → x.length ≤ r.length
  | 0, r, x, h => by simp [stF] at h
  | n + 1, r, x, h => by
    rw [stF] at h
    split at h
    · rename_i hc
      rcases List.mem_cons.1 h with rfl | h
      · exact ctf_fst r
      · have h1 := stF_mem n _ x h
        have h2 := (ctf_len r).1 hc
        omega
    · cases h
theorem stL_mem (l x : List UInt8) (h : x ∈ stL l) : x.length ≤ l.length := by
  unfold stL at h
  split at h
  · rename_i hc
    have h1 := stF_mem _ _ x h
    have h2 := (ctf_len l).1 hc
    omega
  · cases h
theorem bas_val : ∀ (L : List (List UInt8)), (∀ x ∈ L, x.length ≤ 65536) → dwO (bas L) = L.filterMap ust5 ∧ dwB (bas L) = (L.filter fun x => (ust5 x).isNone).length
  | [], _ => ⟨rfl, rfl⟩
  | x :: L, h => by
    obtain ⟨i1, i2⟩ := bas_val L (fun y hy => h y (List.mem_cons_of_mem _ hy))
    have hx : (mkW x).1.data.toList = x := by rw [mkW_val (h x List.mem_cons_self)]
    have e1 : bas (x :: L) = mkW x :: bas L := rfl
    refine ⟨?_, ?_⟩
    · have : dwO (bas (x :: L)) = (mkW x :: bas L).filterMap (fun a => ust5 a.1.data.toList) := rfl
      rw [this, List.filterMap_cons, List.filterMap_cons, hx]
      cases h5 : ust5 x with
      | none => exact i1
      | some b => exact congrArg (b :: ·) i1
    · have : dwB (bas (x :: L)) = if (ust5 (mkW x).1.data.toList).isNone = true then dwB (bas L) + 1 else dwB (bas L) := by
        rw [e1]; simp only [dwB, List.filter_cons]; split <;> simp
      rw [this, hx, i2, List.filter_cons]
      split <;> simp
theorem parts_sum : ∀ L : List (List UInt8), (L.filterMap ust5).length + (L.filter fun x => (ust5 x).isNone).length = L.length
  | [] => rfl
  | x :: L => by
    have ih := parts_sum L
    rw [List.filterMap_cons, List.filter_cons]
    cases h : ust5 x <;> simp <;> omega

/-! ### six letters 1 in a row -/
theorem six_none (t : List UInt8) : ∀ run, run < 5 → ∀ f, ust 49 48 5 run f (49 :: 49 :: 49 :: 49 :: 49 :: 49 :: t) = none
  | 0, _, f => by cases f <;> simp [ust, nxt, msT]
  | 1, _, f => by cases f <;> simp [ust, nxt, msT]
  | 2, _, f => by cases f <;> simp [ust, nxt, msT]
  | 3, _, f => by cases f <;> simp [ust, nxt, msT]
  | 4, _, f => by cases f <;> simp [ust, nxt, msT]
  | run + 5, h, _ => by omega
theorem ust_drop : ∀ (i : Nat) (l : List UInt8) (run : Nat) (f : Bool), run < 5 → ust 49 48 5 run f l ≠ none → i ≤ l.length → ∃ run' f', run' < 5 ∧ ust 49 48 5 run' f' (l.drop i) ≠ none
  | 0, l, run, f, hr, h, _ => ⟨run, f, hr, h⟩
  | i + 1, [], run, f, _, _, hi => by simp at hi
  | i + 1, a :: l, run, f, hr, h, hi => by
    rw [List.drop_succ_cons]
    cases f with
    | false =>
      rw [ust] at h
      exact ust_drop i l _ _ (nxt_lt 49 5 run a (by omega)) (fun e => h (by rw [e]; rfl)) (by simpa using hi)
    | true =>
      rw [ust] at h
      split at h
      · exact ust_drop i l run false hr h (by simpa using hi)
      · exact absurd rfl h
theorem six_bad {x : List UInt8} (h : Lib.contains x [49, 49, 49, 49, 49, 49] = true) : ust5 x = none := by
  unfold Lib.contains at h
  rw [decide_eq_true_iff] at h
  rcases Lib.index_spec x [49, 49, 49, 49, 49, 49] with ⟨h1, _⟩ | ⟨i, _, h2, h3, _⟩
  · omega
  · unfold Lib.occAt at h3
    obtain ⟨t, ht⟩ := List.isPrefixOf_iff_prefix.1 h3
    by_cases hn : ust5 x = none
    · exact hn
    · obtain ⟨run, f, hr, hu⟩ := ust_drop i x 0 false (by omega) hn h2
      rw [← ht] at hu
      exact absurd (six_none t run hr f) hu
theorem six_le : ∀ L : List (List UInt8), (L.filter fun x => Lib.contains x [49, 49, 49, 49, 49, 49]).length ≤ (L.filter fun x => (ust5 x).isNone).length
  | [] => Nat.le_refl _
  | x :: L => by
    have ih := six_le L
    rw [List.filter_cons, List.filter_cons]
    by_cases h : Lib.contains x [49, 49, 49, 49, 49, 49] = true
    · rw [if_pos h, if_pos (by rw [six_bad h]; rfl)]; simp; omega
    · rw [if_neg h]; split <;> simp <;> omega
end Go.Proofs.YtdalcopbaaabiaaDoor
