/-
  InterleaveSpreads returns true for every input: the plain laws, and the walk.
-/
import Derived.Test.YtgjlhjklcgladaaIlwC
namespace Go.Proofs.Ytgjlhjklcgladaa
open Go.RowKit

theorem spread_one (P : Nat → Nat) (n b a : Nat) (hn : 1 ≤ n) (hb : 1 ≤ b) (h : IsSpread P n b a) : 1 ≤ a :=
  h.2 0 1 (by omega) (fun t ht u hu => by
    have h1 : t = 0 := by omega
    have h2 : u = 0 := by omega
    subst h1 h2; omega)
/-- Numbers of which no two are equal, and that lie within b neighbours, are at most b. -/
theorem pigeon : ∀ (L b : Nat) (f : Nat → Nat), (∀ t, t < L → f t < b) → (∀ t, t < L → ∀ u, u < L → f t = f u → t = u) → L ≤ b
  | 0, b, f, _, _ => Nat.zero_le b
  | L + 1, 0, f, h1, _ => absurd (h1 0 (by omega)) (by omega)
  | L + 1, b + 1, f, h1, h2 => by
    have hL := h1 L (by omega)
    have ih := pigeon L b (fun t => if f t = b then f L else f t) (fun t ht => by
      have a := h1 t (by omega)
      by_cases hc : f t = b
      · simp only [hc, if_true]
        have : f L ≠ b := fun h => by have := h2 t (by omega) L (by omega) (by rw [hc, h]); omega
        omega
      · simp only [hc, if_false]; omega) (fun t ht u hu h => by
      by_cases hc : f t = b <;> by_cases hd : f u = b
      · exact h2 t (by omega) u (by omega) (by rw [hc, hd])
      · simp only [hc, hd, if_true, if_false] at h
        have := h2 L (by omega) u (by omega) h; omega
      · simp only [hc, hd, if_true, if_false] at h
        have := h2 t (by omega) L (by omega) h; omega
      · simp only [hc, hd, if_false] at h
        exact h2 t (by omega) u (by omega) h)
    omega
theorem spread_le (P : Nat → Nat) (n b a : Nat) (hinj : ∀ i, i < n → ∀ j, j < n → P i = P j → i = j) (h : IsSpread P n b a) : a ≤ b := by
  obtain ⟨⟨i, h1, h2⟩, -⟩ := h
  rcases Nat.eq_zero_or_pos a with h0 | h0
  · omega
  · obtain ⟨t0, ht0, hmin⟩ := least_of (fun t => P (i + t)) a h0
    refine pigeon a b (fun t => P (i + t) - P (i + t0)) (fun t ht => ?_) (fun t ht u hu he => ?_)
    · have a1 := h2 t ht t0 ht0
      have a2 : P (i + t0) ≤ P (i + t) := hmin t ht
      show P (i + t) - P (i + t0) < b
      omega
    · have a1 : P (i + t0) ≤ P (i + t) := hmin t ht
      have a2 : P (i + t0) ≤ P (i + u) := hmin u hu
      have he' : P (i + t) - P (i + t0) = P (i + u) - P (i + t0) := he
      have := hinj (i + t) (by omega) (i + u) (by omega) (by omega)
      omega
theorem spread_all (P : Nat → Nat) (n a : Nat) (hP : ∀ i, i < n → P i < n) (h : IsSpread P n n a) : a = n := by
  obtain ⟨⟨i, h1, -⟩, h2⟩ := h
  have := h2 0 n (by omega) (fun t ht u hu => by
    have := hP (0 + t) (by omega)
    omega)
  omega
theorem spread_mono (P : Nat → Nat) (n b a a' : Nat) (h : IsSpread P n b a) (h' : IsSpread P n (b + 1) a') : a ≤ a' := by
  obtain ⟨⟨i, h1, h2⟩, -⟩ := h
  exact h'.2 i a h1 (fun t ht u hu => by have := h2 t ht u hu; omega)
theorem spread_rows (c r b a : Nat) (hc : 3 ≤ c) (hr : 1 ≤ r) (hb : b ≤ r) (h : IsSpread (posn c r) (r * c) b a) : a ≤ 1 := by
  obtain ⟨⟨i, h1, h2⟩, -⟩ := h
  rcases Nat.lt_or_ge 1 a with h3 | h3
  · exfalso
    have a1 := h2 0 (by omega) 1 (by omega)
    have a2 := h2 1 (by omega) 0 (by omega)
    simp only [Nat.add_zero] at a1 a2
    unfold posn at a1 a2
    have hm : i % c < c := Nat.mod_lt _ (by omega)
    by_cases hlast : i % c + 1 < c
    · have e1 : (i + 1) % c = i % c + 1 := by
        rw [Nat.add_mod, Nat.mod_eq_of_lt (show 1 < c by omega), Nat.mod_eq_of_lt hlast]
      have e2 : (i + 1) / c = i / c := by
        rw [Nat.add_div (by omega)]
        rw [Nat.div_eq_of_lt (show 1 < c by omega), Nat.mod_eq_of_lt (show 1 < c by omega), if_neg (by omega)]; omega
      rw [e1, e2, Nat.add_mul, Nat.one_mul] at a2
      omega
    · have hce : i % c = c - 1 := by omega
      have e1 : (i + 1) % c = 0 := by
        rw [Nat.add_mod, hce, Nat.mod_eq_of_lt (show 1 < c by omega), show c - 1 + 1 = c by omega, Nat.mod_self]
      have e2 : (i + 1) / c = i / c + 1 := by
        rw [Nat.add_div (by omega)]
        rw [Nat.div_eq_of_lt (show 1 < c by omega), Nat.mod_eq_of_lt (show 1 < c by omega), if_pos (by omega)]
      rw [e1, e2, hce, Nat.zero_mul] at a1
      have h5 : 2 * r ≤ (c - 1) * r := Nat.mul_le_mul_right _ (by omega)
      omega
  · exact h3
end Go.Proofs.Ytgjlhjklcgladaa
