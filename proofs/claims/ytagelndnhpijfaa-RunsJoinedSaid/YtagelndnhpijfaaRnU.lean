/-
  Plain laws: joining and splitting.
-/
import Derived.Test.YtagelndnhpijfaaRnT
namespace Go.Proofs.Ytagelndnhpijfaa
open Go.RowKit

theorem lett_dig : ∀ a : Fin 16, digit (letters.getD a.val 0) = (a.val : Int) ∧ isLet 16 (letters.getD a.val 0) = true := by decide +kernel
theorem dig_lett (a : Int) (h0 : 0 ≤ a) (h1 : a < 16) : digit (lett a) = a ∧ isLet 16 (lett a) = true := by
  have := lett_dig ⟨a.toNat, by omega⟩
  refine ⟨?_, this.2⟩
  have h := this.1
  rw [show lett a = letters.getD a.toNat 0 from rfl, h]
  show ((a.toNat : Nat) : Int) = a
  omega
theorem let_fin : ∀ n : Fin 256, isLet 16 (UInt8.ofNat n.val) = true → lett (digit (UInt8.ofNat n.val)) = UInt8.ofNat n.val := by decide +kernel
theorem lett_digit {c : UInt8} (h : isLet 16 c = true) : lett (digit c) = c := by
  have := let_fin ⟨c.toNat, c.toNat_lt⟩
  simp only [UInt8.ofNat_toNat] at this
  exact this h
theorem isLet16 {c : UInt8} (h : isLet 16 c = true) : 0 ≤ digit c ∧ digit c < 16 := by
  unfold isLet at h
  rw [Bool.and_eq_true, decide_eq_true_eq, decide_eq_true_eq] at h
  exact h
theorem chk16_iff (l : List UInt8) : chk 16 l = 0 ↔ l.length ≤ 65536 ∧ l.all (isLet 16) = true := by
  unfold chk
  rw [if_neg (by omega)]
  by_cases h : 65536 < l.length
  · rw [if_pos h]; constructor
    · intro h'; omega
    · intro h'; omega
  · rw [if_neg h]
    by_cases ha : l.all (isLet 16) = true
    · rw [if_pos ha]; exact ⟨fun _ => ⟨by omega, ha⟩, fun _ => rfl⟩
    · rw [if_neg ha]; constructor
      · intro h'; omega
      · intro h'; exact absurd h'.2 ha

/-! ### the runs of a word that is joined -/
theorem getD_app1 {u v : List UInt8} {k : Nat} (h : k < u.length) : (u ++ v).getD k 0 = u.getD k 0 := by
  rw [List.getD_eq_getElem?_getD, List.getD_eq_getElem?_getD, List.getElem?_append_left h]
theorem rnS_app (u v : List UInt8) : ∀ k, k ≤ u.length → rnS (u ++ v) k = rnS u k
  | 0, _ => rfl
  | k + 1, h => by
    rw [rnS, rnS, rnS_app u v k (by omega), getD_app1 (by omega), getD_app1 (by omega)]
theorem getD_rep {u : List UInt8} {c : UInt8} {n k : Nat} (h1 : u.length ≤ k) (h2 : k < u.length + n) : (u ++ List.replicate n c).getD k 0 = c := by
  rw [List.getD_eq_getElem?_getD, List.getElem?_append_right h1, List.getElem?_replicate, if_pos (by omega)]; rfl
theorem rn_rep (u : List UInt8) (c : UInt8) (n : Nat) (hu : u = [] ∨ u.getD (u.length - 1) 0 ≠ c) : ∀ m, m + 1 ≤ n → rnS (u ++ List.replicate n c) (u.length + (m + 1)) = rnS u u.length ++ [(c, m + 1)]
  | 0, h => by
    rw [rnS_new _ _ ?_, rnS_app _ _ _ (Nat.le_refl _), getD_rep (Nat.le_refl _) (by omega)]
    rcases hu with rfl | hu
    · exact .inl rfl
    · rcases Nat.eq_zero_or_pos u.length with h0 | h0
      · exact .inl h0
      · refine .inr ?_
        rw [getD_rep (Nat.le_refl _) (by omega), getD_app1 (by omega)]
        exact fun e => hu e.symm
  | m + 1, h => by
    have ih := rn_rep u c n hu m (by omega)
    have h3 := rnS_more (u ++ List.replicate n c) u.length (u.length + (m + 1)) (by omega) (by
      rw [ih, rnS_app _ _ _ (Nat.le_refl _), getD_rep (Nat.le_refl _) (by omega)]
      congr 3; omega) (by rw [getD_rep (by omega) (by omega), getD_rep (Nat.le_refl _) (by omega)]) (by rw [getD_rep (by omega) (by omega), getD_rep (Nat.le_refl _) (by omega)])
    rw [show u.length + (m + 1 + 1) = u.length + (m + 1) + 1 by omega, h3, rnS_app _ _ _ (Nat.le_refl _), getD_rep (Nat.le_refl _) (by omega)]
    congr 3; omega
def prS (p : Int × Int) : UInt8 × Nat := (lett p.1, p.2.toNat)
theorem joL_cons (p : Int × Int) (l : List (Int × Int)) : joL (p :: l) = List.replicate p.2.toNat (lett p.1) ++ joL l := by simp [joL]
theorem rn_join : ∀ (l : List (Int × Int)) (L : Int) (prev : Option Int) (u : List UInt8), joE L prev l = 0 →
    ((u = [] ∧ prev = none) ∨ ∃ a, 0 ≤ a ∧ a < 16 ∧ prev = some a ∧ u ≠ [] ∧ u.getD (u.length - 1) 0 = lett a) →
    rnS (u ++ joL l) (u ++ joL l).length = rnS u u.length ++ l.map prS
  | [], L, prev, u, _, _ => by simp [joL]
  | p :: l, L, prev, u, h, hu => by
    have h0 := h
    rw [joE] at h0
    split at h0
    · cases h0
    · rename_i h1
      split at h0
      · cases h0
      · rename_i h2
        split at h0
        · cases h0
        · rename_i h3
          split at h0
          · cases h0
          · have hn : 1 ≤ p.2.toNat := by omega
            have hu2 : u = [] ∨ u.getD (u.length - 1) 0 ≠ lett p.1 := by
              rcases hu with ⟨rfl, _⟩ | ⟨a, ha0, ha1, hp, _, hl⟩
              · exact .inl rfl
              · refine .inr ?_
                rw [hl]
                intro e
                apply h3
                have e1 := (dig_lett a ha0 ha1).1
                have e2 := (dig_lett p.1 (by omega) (by omega)).1
                rw [e, e2] at e1
                rw [hp, e1]
            have hr := rn_rep u (lett p.1) p.2.toNat hu2 (p.2.toNat - 1) (by omega)
            rw [show p.2.toNat - 1 + 1 = p.2.toNat by omega] at hr
            have hlen : (u ++ List.replicate p.2.toNat (lett p.1)).length = u.length + p.2.toNat := by simp
            have ih := rn_join l _ _ (u ++ List.replicate p.2.toNat (lett p.1)) h0 (.inr ⟨p.1, by omega, by omega, rfl, by simp; omega, by rw [hlen]; exact getD_rep (by omega) (by omega)⟩)
            rw [joL_cons, ← List.append_assoc, ih, hlen, hr]
            simp [prS]
theorem split_join {l : List (Int × Int)} (h : jnE l = 0) : chk 16 (joL l) = 0 ∧ spV (joL l) = l := by
  obtain ⟨h1, h2⟩ := joE_ok l 65536 none h
  have hc : chk 16 (joL l) = 0 := by
    rw [chk16_iff]
    refine ⟨by omega, ?_⟩
    rw [List.all_eq_true]
    intro c hc
    simp only [joL, List.mem_flatMap] at hc
    obtain ⟨p, hp, hc⟩ := hc
    rw [List.eq_of_mem_replicate hc]
    exact (dig_lett p.1 (h1 p hp).1 (h1 p hp).2.1).2
  refine ⟨hc, ?_⟩
  rw [spV_ok hc, rp]
  have := rn_join l 65536 none [] h (.inl ⟨rfl, rfl⟩)
  simp only [List.nil_append, List.length_nil] at this
  rw [this, show rnS [] 0 = [] from rfl, List.nil_append, List.map_map]
  conv => rhs; rw [← List.map_id l]
  apply List.map_congr_left
  intro p hp
  obtain ⟨k0, k1, k2, _⟩ := h1 p hp
  simp only [Function.comp, prS, id]
  rw [(dig_lett p.1 k0 k1).1, Int.toNat_of_nonneg (by omega)]

/-! ### joining the runs of a word -/
def sm : List (Int × Int) → Int
  | [] => 0
  | p :: l => p.2 + sm l
def lst (prev : Option Int) : List (Int × Int) → Option Int
  | [] => prev
  | p :: l => lst (some p.1) l
theorem sm_snoc : ∀ (l : List (Int × Int)) (p : Int × Int), sm (l ++ [p]) = sm l + p.2
  | [], p => by simp [sm]
  | q :: l, p => by rw [List.cons_append, sm, sm, sm_snoc l p]; omega
theorem lst_snoc : ∀ (l : List (Int × Int)) (p : Int × Int) (prev : Option Int), lst prev (l ++ [p]) = some p.1
  | [], p, _ => rfl
  | q :: l, p, _ => by rw [List.cons_append, lst, lst_snoc l p]
theorem joE_snoc : ∀ (l : List (Int × Int)) (p : Int × Int) (L : Int) (prev : Option Int), joE L prev (l ++ [p]) = 0 ↔ joE L prev l = 0 ∧ joE (L - sm l) (lst prev l) [p] = 0
  | [], p, L, prev => by simp [joE, sm, lst]
  | q :: l, p, L, prev => by
    rw [List.cons_append, joE, joE, sm, lst]
    split
    · simp
    · split
      · simp
      · split
        · simp
        · split
          · simp
          · rw [joE_snoc l p, show L - (q.2 + sm l) = L - q.2 - sm l by omega]
theorem joE_one {L : Int} {prev : Option Int} {p : Int × Int} : joE L prev [p] = 0 ↔ (0 ≤ p.1 ∧ p.1 < 16) ∧ 1 ≤ p.2 ∧ prev ≠ some p.1 ∧ p.2 ≤ L := by
  rw [joE]
  split
  · constructor
    · intro h; cases h
    · intro h; omega
  · split
    · constructor
      · intro h; cases h
      · intro h; omega
    · split
      · rename_i h
        constructor
        · intro h; cases h
        · intro h2; exact absurd h h2.2.2.1
      · rename_i h
        split
        · constructor
          · intro h; cases h
          · intro h; omega
        · rw [joE]; exact ⟨fun _ => ⟨by omega, by omega, h, by omega⟩, fun _ => rfl⟩
theorem joL_snoc (l : List (Int × Int)) (p : Int × Int) : joL (l ++ [p]) = joL l ++ List.replicate p.2.toNat (lett p.1) := by simp [joL]
theorem join_rp (l : List UInt8) (hl : l.length ≤ 65536) (ha : l.all (isLet 16) = true) : ∀ k, k ≤ l.length → joE 65536 none (rp l k) = 0 ∧ sm (rp l k) = k ∧ joL (rp l k) = l.take k ∧ (k = 0 → lst none (rp l k) = none) ∧ (∀ i, k = i + 1 → lst none (rp l k) = some (digit (l.getD i 0)))
  | 0, _ => ⟨rfl, rfl, by simp [rp, rnS, joL], fun _ => rfl, fun i h => by omega⟩
  | k + 1, hk => by
    obtain ⟨i1, i2, i3, i4, i5⟩ := join_rp l hl ha k (by omega)
    have hlt : k < l.length := by omega
    have hgk : l.getD k 0 = l[k] := by rw [List.getD_eq_getElem?_getD, List.getElem?_eq_getElem hlt]; rfl
    have hlk : isLet 16 l[k] = true := (List.all_eq_true.1 ha) _ (List.getElem_mem _)
    have htk : l.take (k + 1) = l.take k ++ [l[k]] := List.take_succ_eq_append_getElem hlt
    obtain ⟨d0, d1⟩ := isLet16 hlk
    by_cases hnew : k = 0 ∨ l.getD k 0 ≠ l.getD (k - 1) 0
    · have hr := rp_new l k hnew
      rw [hr, hgk]
      refine ⟨(joE_snoc _ _ _ _).2 ⟨i1, joE_one.2 ⟨⟨d0, d1⟩, by simp, ?_, by simp only; rw [i2]; omega⟩⟩, by rw [sm_snoc, i2]; push_cast; rfl, ?_, fun h => by omega, fun i hi => ?_⟩
      · rcases hnew with h0 | h0
        · rw [i4 h0]; simp
        · rcases Nat.eq_zero_or_pos k with hk0 | hk0
          · rw [i4 hk0]; simp
          · have hg2 : l.getD (k - 1) 0 = l[k - 1] := by rw [List.getD_eq_getElem?_getD, List.getElem?_eq_getElem (by omega)]; rfl
            rw [i5 (k - 1) (by omega)]
            intro e
            have e2 : digit (l.getD (k - 1) 0) = digit l[k] := Option.some.inj e
            apply h0
            have e3 : isLet 16 l[k - 1] = true := (List.all_eq_true.1 ha) _ (List.getElem_mem _)
            rw [hgk, hg2, ← lett_digit hlk, ← lett_digit e3, ← hg2, e2]
      · rw [joL_snoc, i3, htk]; simp [lett_digit hlk]
      · obtain rfl : i = k := by omega
        rw [lst_snoc, hgk]
    · have hk0 : 0 < k := by omega
      have heq : l.getD k 0 = l.getD (k - 1) 0 := by
        by_cases h : l.getD k 0 = l.getD (k - 1) 0
        · exact h
        · exact absurd (.inr h) hnew
      obtain ⟨j, rfl⟩ : ∃ j, k = j + 1 := ⟨k - 1, by omega⟩
      simp only [Nat.add_sub_cancel] at heq
      obtain ⟨ini, n, hn, hr1, hr2⟩ := rp_more l j (by omega) heq
      rw [hr1] at i1 i2 i3 i5
      rw [hr2]
      obtain ⟨a1, a2⟩ := (joE_snoc _ _ _ _).1 i1
      obtain ⟨b1, b2, b3, b4⟩ := joE_one.1 a2
      rw [sm_snoc] at i2
      simp only at b1 b2 b3 b4 i2
      refine ⟨(joE_snoc _ _ _ _).2 ⟨a1, joE_one.2 ⟨b1, by simp only; omega, b3, by simp only; omega⟩⟩, by rw [sm_snoc]; simp only; omega, ?_, fun h => by omega, fun i hi => ?_⟩
      · rw [joL_snoc, htk, ← i3, joL_snoc]
        have e1 : (((n : Nat) : Int) + 1).toNat = n + 1 := by omega
        have e2 : l[j + 1] = l.getD j 0 := by rw [← heq, hgk]
        have e3 : isLet 16 (l.getD j 0) = true := by rw [← e2]; exact hlk
        simp only [e1, Int.toNat_natCast, List.replicate_succ', List.append_assoc, e2, lett_digit e3]
      · obtain rfl : i = j + 1 := by omega
        rw [lst_snoc, heq]
theorem join_split {l : List UInt8} (h : chk 16 l = 0) : jnE (spV l) = 0 ∧ joL (spV l) = l := by
  obtain ⟨h1, h2⟩ := (chk16_iff l).1 h
  obtain ⟨a, _, b, _⟩ := join_rp l h1 h2 l.length (Nat.le_refl _)
  rw [spV_ok h]
  exact ⟨a, by rw [b, List.take_length]⟩
end Go.Proofs.Ytagelndnhpijfaa
