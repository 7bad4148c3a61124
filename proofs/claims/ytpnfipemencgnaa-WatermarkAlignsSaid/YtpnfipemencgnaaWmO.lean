/-
  Plain laws of alignments: the alignment alI has the least cost, none has less, and none that is earlier has the same.
-/
import Derived.Test.YtpnfipemencgnaaWmD
namespace Go.Proofs.Ytpnfipemencgnaa

/-- The cost of an alignment l of the rests from (i, k) on; none if it is none. -/
def cstI (m r : List UInt8) : Nat → Nat → List Int → Option Nat
  | i, k, [] => if i = m.length then some (2 * (r.length - k)) else none
  | i, k, x :: l => if m.length ≤ i then none else
    if x = -1 then (cstI m r (i + 1) k l).map (2 + ·)
    else if x < k ∨ (r.length : Int) ≤ x then none
    else (cstI m r (i + 1) (x.toNat + 1) l).map (2 * (x.toNat - k) + dif (m.getD i 0) (r.getD x.toNat 0) + ·)

theorem wcI_del (m r : List UInt8) (i k : Nat) (hi : i < m.length) (hk : k ≤ r.length) : wcI m r i k ≤ 2 + wcI m r (i + 1) k := by
  rcases Nat.lt_or_ge k r.length with h | h
  · rw [wcI_step m r i k hi h]; omega
  · obtain rfl : k = r.length := by omega
    rw [wcI_end, wcI_end]; omega
theorem wcI_ins (m r : List UInt8) (i k : Nat) (hi : i ≤ m.length) (hk : k < r.length) : wcI m r i k ≤ 2 + wcI m r i (k + 1) := by
  rcases Nat.lt_or_ge i m.length with h | h
  · rw [wcI_step m r i k h hk]; omega
  · obtain rfl : i = m.length := by omega
    rw [wcI_last, wcI_last]; omega
theorem getD_of (l : List UInt8) (i : Nat) (h : i < l.length) : l.getD i 0 = l[i] := by
  rw [List.getD_eq_getElem?_getD, List.getElem?_eq_getElem h]; rfl
theorem wcI_to (m r : List UInt8) (i : Nat) (hi : i < m.length) : ∀ (d k : Nat), k + d < r.length → wcI m r i k ≤ 2 * d + dif (m.getD i 0) (r.getD (k + d) 0) + wcI m r (i + 1) (k + d + 1)
  | 0, k, h => by
    rw [wcI_step m r i k hi h, getD_of m i hi, getD_of r (k + 0) h]
    simp only [Nat.add_zero]; omega
  | d + 1, k, h => by
    have h1 := wcI_ins m r i k (by omega) (by omega)
    have h2 := wcI_to m r i hi d (k + 1) (by omega)
    rw [show k + 1 + d = k + (d + 1) by omega] at h2
    omega
theorem pkI_none (m r : List UInt8) (i k : Nat) : ∀ f at', pkI m r i k f at' = none → ∀ j, at' ≤ j → j < at' + f → hit m r i k j = false
  | 0, _, _, j, h1, h2 => by omega
  | f + 1, at', h, j, h1, h2 => by
    rw [pkI] at h
    split at h
    · cases h
    · rename_i hn
      by_cases hj : j = at'
      · subst hj; simpa using hn
      · exact pkI_none m r i k f (at' + 1) h j (by omega) (by omega)
theorem pkI_some (m r : List UInt8) (i k : Nat) : ∀ f at' x, pkI m r i k f at' = some x → hit m r i k x = true ∧ ∀ j, at' ≤ j → j < x → hit m r i k j = false
  | 0, _, _, h => by simp [pkI] at h
  | f + 1, at', x, h => by
    rw [pkI] at h
    split at h
    · rename_i hh; cases h; exact ⟨hh, by intro j h1 h2; omega⟩
    · rename_i hn
      obtain ⟨h1, h2⟩ := pkI_some m r i k f (at' + 1) x h
      refine ⟨h1, fun j h3 h4 => ?_⟩
      by_cases hj : j = at'
      · subst hj; simpa using hn
      · exact h2 j (by omega) h4
/-- Where no letter can go at the least cost, leaving it out has the least cost. -/
theorem wcI_miss (m r : List UInt8) (i : Nat) (hi : i < m.length) : ∀ (d k : Nat), k + d = r.length → (∀ j, k ≤ j → j < r.length → hit m r i k j = false) → wcI m r i k = 2 + wcI m r (i + 1) k
  | 0, k, h, _ => by
    obtain rfl : k = r.length := by omega
    rw [wcI_end, wcI_end]; omega
  | d + 1, k, h, hn => by
    have hk : k < r.length := by omega
    have hs := wcI_step m r i k hi hk
    have hd : wcI m r i k ≠ dif m[i] r[k] + wcI m r (i + 1) (k + 1) := fun he => by
      have := hn k (Nat.le_refl _) hk
      rw [hit, getD_of m i hi, getD_of r k hk, he] at this
      simp at this
    by_cases h2 : wcI m r i k = 2 + wcI m r i (k + 1)
    · exfalso
      have hmiss : ∀ j, k + 1 ≤ j → j < r.length → hit m r i (k + 1) j = false := fun j h3 h4 => by
        have := hn j (by omega) h4
        unfold hit at this ⊢
        rw [beq_eq_false_iff_ne] at this ⊢
        omega
      have := wcI_miss m r i hi d (k + 1) (by omega) hmiss
      have := dif_le m[i] r[k]
      omega
    · omega

/-- Lexicographic order of alignments, -1 being the greatest. -/
def lexI (n : Nat) : List Int → List Int → Int
  | [], [] => 0
  | [], _ :: _ => -1
  | _ :: _, [] => 1
  | a :: l, b :: k => if (if a = -1 then (n : Int) else a) - (if b = -1 then (n : Int) else b) ≠ 0 then (if a = -1 then (n : Int) else a) - (if b = -1 then (n : Int) else b) else lexI n l k

theorem alI_cost (m r : List UInt8) : ∀ f i k, i + f = m.length → k ≤ r.length → cstI m r i k (alI m r f i k) = some (wcI m r i k)
  | 0, i, k, h, hk => by
    obtain rfl : i = m.length := by omega
    rw [alI, cstI, if_pos rfl, wcI_last]
  | f + 1, i, k, h, hk => by
    rw [alI]
    split
    · rename_i x hx
      have hb := pkI_bd _ _ _ _ _ _ _ hx
      obtain ⟨h1, _⟩ := pkI_some _ _ _ _ _ _ _ hx
      rw [cstI, if_neg (by omega), if_neg (by omega), if_neg (by omega), Int.toNat_natCast, alI_cost m r f (i + 1) (x + 1) (by omega) (by omega)]
      rw [hit, beq_iff_eq] at h1
      simp only [Option.map_some, Option.some.injEq]
      omega
    · rename_i hx
      have := pkI_none _ _ _ _ _ _ hx
      rw [cstI, if_neg (by omega), if_pos rfl, alI_cost m r f (i + 1) k (by omega) hk]
      have h2 := wcI_miss m r i (by omega) (r.length - k) k (by omega) (fun j h1 h2 => this j h1 (by omega))
      simp only [Option.map_some, Option.some.injEq]
      omega

theorem cst_least (m r : List UInt8) : ∀ (l : List Int) i k c, i ≤ m.length → k ≤ r.length → cstI m r i k l = some c → wcI m r i k ≤ c
  | [], i, k, c, hi, hk, h => by
    rw [cstI] at h
    split at h
    · rename_i he; subst he; cases h; rw [wcI_last]; exact Nat.le_refl _
    · cases h
  | x :: l, i, k, c, hi, hk, h => by
    rw [cstI] at h
    split at h
    · cases h
    · rename_i h0
      split at h
      · rw [Option.map_eq_some_iff] at h
        obtain ⟨d, h1, rfl⟩ := h
        have := cst_least m r l (i + 1) k d (by omega) hk h1
        have := wcI_del m r i k (by omega) hk
        omega
      · split at h
        · cases h
        · rename_i h1 h2
          rw [Option.map_eq_some_iff] at h
          obtain ⟨d, h3, rfl⟩ := h
          have := cst_least m r l (i + 1) (x.toNat + 1) d (by omega) (by omega) h3
          have := wcI_to m r i (by omega) (x.toNat - k) k (by omega)
          rw [show k + (x.toNat - k) = x.toNat by omega] at this
          omega

theorem cst_lex (m r : List UInt8) : ∀ (f : Nat) (l : List Int) i k, i + f = m.length → k ≤ r.length → cstI m r i k l = some (wcI m r i k) → 0 ≤ lexI r.length l (alI m r f i k)
  | 0, [], i, k, _, _, _ => by simp [alI, lexI]
  | 0, x :: l, i, k, hi, hk, h => by simp [alI, lexI]
  | f + 1, [], i, k, hi, hk, h => by
    rw [cstI, if_neg (by omega)] at h; cases h
  | f + 1, x :: l, i, k, hi, hk, h => by
    rw [cstI, if_neg (by omega)] at h
    rw [alI]
    by_cases hx : x = -1
    · subst hx
      rw [if_pos rfl, Option.map_eq_some_iff] at h
      obtain ⟨d, h1, h2⟩ := h
      split
      · rename_i y hy
        have := pkI_bd _ _ _ _ _ _ _ hy
        simp only [lexI, if_true]
        rw [if_neg (show ¬ ((y : Int) = -1) by omega), if_pos (by omega)]
        omega
      · have hl := cst_least m r l (i + 1) k d (by omega) hk h1
        have hd := wcI_del m r i k (by omega) hk
        simp only [lexI, if_true, Int.sub_self, ne_eq, not_true_eq_false, if_false]
        exact cst_lex m r f l (i + 1) k (by omega) hk (by rw [h1]; congr 1; omega)
    · rw [if_neg hx] at h
      split at h
      · cases h
      · rename_i hb
        rw [Option.map_eq_some_iff] at h
        obtain ⟨d, h1, h2⟩ := h
        have hl := cst_least m r l (i + 1) (x.toNat + 1) d (by omega) (by omega) h1
        have ht := wcI_to m r i (by omega) (x.toNat - k) k (by omega)
        rw [show k + (x.toNat - k) = x.toNat by omega] at ht
        have hh : hit m r i k x.toNat = true := by rw [hit, beq_iff_eq]; omega
        split
        · rename_i y hy
          have hb2 := pkI_bd _ _ _ _ _ _ _ hy
          obtain ⟨_, hy2⟩ := pkI_some _ _ _ _ _ _ _ hy
          have hyx : y ≤ x.toNat := by
            rcases Nat.lt_or_ge x.toNat y with h5 | h5
            · have := hy2 x.toNat (by omega) h5; rw [this] at hh; cases hh
            · exact h5
          simp only [lexI]
          rw [if_neg hx, if_neg (show ¬ ((y : Int) = -1) by omega)]
          by_cases hxy : x - (y : Int) ≠ 0
          · rw [if_pos hxy]; omega
          · rw [if_neg hxy]
            obtain rfl : y = x.toNat := by omega
            exact cst_lex m r f l (i + 1) (x.toNat + 1) (by omega) (by omega) (by rw [h1]; congr 1; omega)
        · rename_i hy
          have := pkI_none _ _ _ _ _ _ hy x.toNat (by omega) (by omega)
          rw [this] at hh; cases hh
end Go.Proofs.Ytpnfipemencgnaa
