/-
  Plain laws: bursts, and the order of a generator.
-/
import Derived.Test.YtahfmeopecmpmaaDoorDgV
import Derived.Test.YtahfmeopecmpmaaDoorDgH
namespace Go.Proofs.YtahfmeopecmpmaaDoor
open Go.RowKit

/-- The letters of a burst. -/
def bm (b : Nat) (inner : List UInt8) : List UInt8 := (List.range b).map fun i => if i = 0 ∨ i = b - 1 ∨ inner.getD i 0 = 49 then 49 else 48
theorem bm_len (b : Nat) (inner : List UInt8) : (bm b inner).length = b := by simp [bm]
theorem bm_bin (b : Nat) (inner : List UInt8) : (bm b inner).all isB = true := by
  rw [List.all_eq_true]
  intro x hx
  simp only [bm, List.mem_map] at hx
  obtain ⟨i, _, rfl⟩ := hx
  split <;> decide
theorem bm_get (b : Nat) (inner : List UInt8) (i : Nat) (h : i < b) : (bm b inner)[i]'(by rw [bm_len]; exact h) = if i = 0 ∨ i = b - 1 ∨ inner.getD i 0 = 49 then 49 else 48 := by simp [bm]
/-- A word of zeros of n letters, with the first j letters of m in it. -/
def bw (n A : Nat) (m : List UInt8) (j : Nat) : List UInt8 := List.replicate A 48 ++ (m.take j ++ List.replicate (n - A - j) 48)
theorem bw_len {n A : Nat} {m : List UInt8} {j : Nat} (hj : j ≤ m.length) (h : A + m.length ≤ n) : (bw n A m j).length = n := by
  simp [bw]; omega
theorem bw_zero (n A : Nat) (m : List UInt8) (h : A ≤ n) : bw n A m 0 = List.replicate n 48 := by
  rw [bw, List.take_zero, List.nil_append, List.replicate_append_replicate, show A + (n - A - 0) = n by omega]
theorem bw_set {n A : Nat} {m : List UInt8} {j : Nat} (hj : j < m.length) (h : A + m.length ≤ n) : (bw n A m j).set (A + j) m[j] = bw n A m (j + 1) := by
  have hl : (m.take j).length = j := by rw [List.length_take]; omega
  rw [bw, bw, List.set_append, if_neg (by simp), List.length_replicate, Nat.add_sub_cancel_left, List.set_append, if_neg (by omega), hl, Nat.sub_self,
    show n - A - j = (n - A - (j + 1)) + 1 by omega, List.replicate_succ, List.set_cons_zero, List.take_add_one, List.getElem?_eq_getElem hj, Option.toList_some, List.append_assoc, List.singleton_append]
theorem bw_same {n A : Nat} {m : List UInt8} {j : Nat} (hj : j < m.length) (h : A + m.length ≤ n) (h48 : m[j] = 48) : bw n A m (j + 1) = bw n A m j := by
  rw [bw, bw, show n - A - j = (n - A - (j + 1)) + 1 by omega, List.replicate_succ, List.take_add_one, List.getElem?_eq_getElem hj, h48]
  simp
def bu (n A b : Nat) (inner : List UInt8) : List UInt8 := bw n A (bm b inner) b
theorem bu_len {n A b : Nat} (inner : List UInt8) (h : A + b ≤ n) : (bu n A b inner).length = n := bw_len (by rw [bm_len]; omega) (by rw [bm_len]; omega)
theorem bu_bin (n A b : Nat) (inner : List UInt8) : (bu n A b inner).all isB = true := by
  rw [bu, bw, List.all_append, List.all_append, rep48_bin, rep48_bin, take_bin _ (bm_bin _ _)]; rfl
theorem vl_bu (n A b : Nat) (inner : List UInt8) : vl (bu n A b inner) = 2 ^ (n - A - b) * vl (bm b inner) := by
  rw [bu, bw, vl_zeros, vl_app, vl_rep, List.length_replicate, List.take_of_length_le (by rw [bm_len]; omega), Nat.add_zero]
theorem bm_odd {b : Nat} (inner : List UInt8) (h : 0 < b) : vl (bm b inner) % 2 = 1 := by
  have h0 : bm b inner ≠ [] := by intro h1; have := bm_len b inner; rw [h1] at this; simp at this; omega
  refine (vl_odd (bm_bin b inner) h0).1 ?_
  have hb : b - 1 < b := by omega
  rw [bm_len, List.getD_eq_getElem?_getD, List.getElem?_eq_getElem (by rw [bm_len]; exact hb), Option.getD_some, bm_get _ _ _ hb, if_pos (.inr (.inl rfl))]
theorem burst_bad {g : List UInt8} (hg : Gen g) {n A b : Nat} (inner : List UInt8) (h : 0 < b) (hb : b ≤ deg g) : ¬ dv (vl g) (vl (bu n A b inner)) := by
  rw [vl_bu, dv_pow hg.odd]
  intro hd
  have h1 := vl_lt (bm b inner)
  rw [bm_len] at h1
  have h2 : 2 ^ b ≤ 2 ^ deg g := Nat.pow_le_pow_right (by omega) hb
  have h3 := dv_small hg.rng.1 hg.rng.2 (by omega) hd
  have h4 := bm_odd inner h
  omega
theorem vf_xr {g a e : List UInt8} (hg : Gen g) (ha : vfB g a = true) (hl : a.length = e.length) (hs : a.length ≤ 60000) (hab : a.all isB = true) (heb : e.all isB = true) : vfB g (xr a e) = true ↔ dv (vl g) (vl e) := by
  obtain ⟨h1, h2⟩ := (vf_dv hg (by omega) hab).1 ha
  rw [vf_dv hg (by rw [xr_len]; omega) (xr_bin _ _), vl_xr hl hab heb, dv_iff _ h2, xr_len]
  exact ⟨fun h => h.2, fun h => ⟨by omega, h⟩⟩
theorem bm_two (d : Nat) (h : 1 ≤ d) : bm (d + 1) [] = 49 :: (List.replicate (d - 1) 48 ++ [49]) := by
  apply List.ext_getElem
  · simp [bm_len]; omega
  · intro i h1 h2
    rw [bm_len] at h1
    rw [bm_get _ _ _ h1]
    by_cases hi : i = 0
    · subst hi; rfl
    · obtain ⟨j, rfl⟩ : ∃ j, i = j + 1 := ⟨i - 1, by omega⟩
      rw [List.getElem_cons_succ]
      by_cases hj : j = d - 1
      · subst hj
        rw [if_pos (.inr (.inl (by omega))), List.getElem_append_right (by simp)]
        simp
      · rw [if_neg (by simp; omega), List.getElem_append_left (by simp; omega), List.getElem_replicate]
theorem vl_two (d : Nat) (h : 1 ≤ d) : vl (bm (d + 1) []) = 2 ^ d ^^^ 1 := by
  rw [bm_two d h, ← List.singleton_append, vl_app, vl_app, vl_rep, vl_one]
  have e : bt 49 = 1 := rfl
  have h1 : 1 < 2 ^ d := by have : 2 ^ 1 ≤ 2 ^ d := Nat.pow_le_pow_right (by omega) h; omega
  have h2 := pow_add_xor d 1 1 h1
  rw [Nat.mul_one] at h2
  rw [e, ← h2]
  simp
  rw [show d - 1 + 1 = d by omega]

/-! ### the order -/
theorem pigeon : ∀ (n : Nat) (f : Nat → Nat), (∀ i, i ≤ n → f i < n) → ∃ i j, i < j ∧ j ≤ n ∧ f i = f j
  | 0, f, h => absurd (h 0 (Nat.le_refl 0)) (by omega)
  | n + 1, f, h => by
    by_cases hx : ∃ i, i ≤ n ∧ f i = f (n + 1)
    · obtain ⟨i, hi, he⟩ := hx
      exact ⟨i, n + 1, by omega, by omega, he⟩
    · have hx' : ∀ i, i ≤ n → f i ≠ f (n + 1) := fun i hi he => hx ⟨i, hi, he⟩
      obtain ⟨i, j, hij, hj, he⟩ := pigeon n (fun i => if f i = n then f (n + 1) else f i) (by
        intro i hi
        have h1 := h i (by omega)
        have h2 := h (n + 1) (by omega)
        have h3 := hx' i hi
        show (if f i = n then f (n + 1) else f i) < n
        split <;> omega)
      have h1 := hx' i (by omega)
      have h2 := hx' j hj
      refine ⟨i, j, hij, by omega, ?_⟩
      split at he <;> split at he <;> omega
/-- The remainders of the powers of x. -/
def pw (k G : Nat) : Nat → Nat
  | 0 => 1
  | j + 1 => st1 k G (2 * pw k G j)
theorem pw_dv (k G : Nat) : ∀ j, dv G (2 ^ j ^^^ pw k G j)
  | 0 => by rw [pw, Nat.pow_zero, Nat.xor_self]; exact dv_zero G
  | j + 1 => by
    rw [pw]
    apply st1_dv
    rw [Nat.pow_succ, Nat.mul_comm, ← dbl_xor]
    exact (pw_dv k G j).dbl
theorem pw_lt {k G : Nat} (hk : 1 ≤ k) (hG : G < 2 ^ (k + 1)) (hG2 : 2 ^ k ≤ G) : ∀ j, pw k G j < 2 ^ k
  | 0 => by have : 2 ^ 1 ≤ 2 ^ k := Nat.pow_le_pow_right (by omega) hk; rw [pw]; omega
  | j + 1 => by rw [pw]; exact st1_lt hG hG2 (by have := pw_lt hk hG hG2 j; rw [Nat.pow_succ]; omega)
theorem pw_one {k G : Nat} (hk : 1 ≤ k) (hG : G < 2 ^ (k + 1)) (hG2 : 2 ^ k ≤ G) (j : Nat) : pw k G j = 1 ↔ dv G (2 ^ j ^^^ 1) := by
  have h1 : 1 < 2 ^ k := by have : 2 ^ 1 ≤ 2 ^ k := Nat.pow_le_pow_right (by omega) hk; omega
  constructor
  · intro h; have := pw_dv k G j; rwa [h] at this
  · intro h
    have h2 := (pw_dv k G j).xor h
    rw [xor4, Nat.xor_self, Nat.zero_xor] at h2
    exact xor_zero_eq (dv_small hG hG2 (Nat.xor_lt_two_pow (pw_lt hk hG hG2 j) h1) h2)
theorem pow_split (i j : Nat) : 2 ^ (i + j) ^^^ 1 = 2 ^ i * (2 ^ j ^^^ 1) ^^^ (2 ^ i ^^^ 1) := by
  rw [pow_xor, Nat.mul_one, ← Nat.pow_add, Nat.xor_assoc, ← Nat.xor_assoc (2 ^ i) (2 ^ i) 1, Nat.xor_self, Nat.zero_xor]
theorem dv_pow' {G a : Nat} (h : dv G a) : ∀ s, dv G (2 ^ s * a)
  | 0 => by rwa [Nat.pow_zero, Nat.one_mul]
  | s + 1 => by rw [Nat.pow_succ, Nat.mul_comm (2 ^ s) 2, Nat.mul_assoc]; exact (dv_pow' h s).dbl
theorem ord_add {G i j : Nat} (h : dv G (2 ^ j ^^^ 1)) : dv G (2 ^ (i + j) ^^^ 1) ↔ dv G (2 ^ i ^^^ 1) := by
  rw [pow_split i j]; exact dv_iff _ (dv_pow' h i)
theorem ord_mul {G n : Nat} (h : dv G (2 ^ n ^^^ 1)) (i : Nat) : ∀ q, dv G (2 ^ (i + n * q) ^^^ 1) ↔ dv G (2 ^ i ^^^ 1)
  | 0 => by rw [Nat.mul_zero, Nat.add_zero]
  | q + 1 => by rw [Nat.mul_succ, ← Nat.add_assoc, ord_add h, ord_mul h i q]
theorem ord_dvd {G n : Nat} (h0 : 1 ≤ n) (h : dv G (2 ^ n ^^^ 1)) (hl : ∀ m, 1 ≤ m → m < n → ¬ dv G (2 ^ m ^^^ 1)) (d : Nat) : dv G (2 ^ d ^^^ 1) ↔ d % n = 0 := by
  have h1 := ord_mul h (d % n) (d / n)
  rw [Nat.mod_add_div] at h1
  rw [h1]
  constructor
  · intro h2
    have h3 := Nat.mod_lt d h0
    rcases Nat.eq_zero_or_pos (d % n) with h4 | h4
    · exact h4
    · exact absurd h2 (hl _ h4 h3)
  · intro h2; rw [h2, Nat.pow_zero, Nat.xor_self]; exact dv_zero G
theorem ord_has {k G : Nat} (hk : 1 ≤ k) (hG : G < 2 ^ (k + 1)) (hG2 : 2 ^ k ≤ G) (ho : G % 2 = 1) : ∃ e, 1 ≤ e ∧ e ≤ 2 ^ k ∧ pw k G e = 1 := by
  obtain ⟨i, j, hij, hj, he⟩ := pigeon (2 ^ k) (pw k G) (fun i _ => pw_lt hk hG hG2 i)
  refine ⟨j - i, by omega, by omega, ?_⟩
  rw [pw_one hk hG hG2, ← dv_pow ho _ i, pow_xor, ← Nat.pow_add, show i + (j - i) = j by omega, Nat.mul_one]
  have := (pw_dv k G j).xor (pw_dv k G i)
  rwa [xor4, he, Nat.xor_self, Nat.xor_zero] at this
theorem ordF_spec {k G : Nat} : ∀ (f e r : Nat), 1 ≤ e → r = pw k G (e - 1) → (∃ m, e ≤ m ∧ m < e + f ∧ pw k G m = 1) →
    e ≤ ordF k G f e r ∧ pw k G (ordF k G f e r) = 1 ∧ ∀ m, e ≤ m → m < ordF k G f e r → pw k G m ≠ 1
  | 0, e, r, _, _, ⟨m, h1, h2, _⟩ => absurd h2 (by omega)
  | f + 1, e, r, he, hr, ⟨m, h1, h2, h3⟩ => by
    have hst : st1 k G (2 * r) = pw k G e := by
      obtain ⟨j, rfl⟩ : ∃ j, e = j + 1 := ⟨e - 1, by omega⟩
      rw [hr, pw, Nat.add_sub_cancel]
    rw [ordF, hst]
    by_cases h : pw k G e = 1
    · rw [if_pos h]
      exact ⟨Nat.le_refl _, h, fun m h1 h2 => absurd h2 (by omega)⟩
    · rw [if_neg h]
      have hm : m ≠ e := fun h4 => h (h4 ▸ h3)
      obtain ⟨a1, a2, a3⟩ := ordF_spec f (e + 1) (pw k G e) (by omega) (by rw [Nat.add_sub_cancel]) ⟨m, by omega, by omega, h3⟩
      refine ⟨by omega, a2, fun q h5 h6 => ?_⟩
      by_cases h7 : q = e
      · rw [h7]; exact h
      · exact a3 q (by omega) h6
theorem ord_ok {g : List UInt8} (hg : Gen g) (h12 : g.length ≤ 17) : orE g = 0 ∧ 1 ≤ orV g ∧ ∀ d, dv (vl g) (2 ^ d ^^^ 1) ↔ d % orV g = 0 := by
  have hlo := hg.lo
  have hk : 1 ≤ deg g := by unfold deg; omega
  have hk2 : deg g ≤ 16 := by unfold deg; omega
  obtain ⟨hG, hG2⟩ := hg.rng
  obtain ⟨e, h1, h2, h3⟩ := ord_has hk hG hG2 hg.odd
  have h4 : 2 ^ deg g ≤ 2 ^ 16 := Nat.pow_le_pow_right (by omega) hk2
  obtain ⟨a1, a2, a3⟩ := ordF_spec (k := deg g) (G := vl g) 65536 1 1 (by omega) rfl ⟨e, h1, by omega, h3⟩
  have hc := (gck_iff g).2 hg
  rw [orE, orV, if_pos hc, if_pos hc, if_neg (by omega)]
  exact ⟨rfl, a1, ord_dvd a1 ((pw_one hk hG hG2 _).1 a2) (fun m hm1 hm2 hd => a3 m hm1 hm2 ((pw_one hk hG hG2 m).2 hd))⟩
end Go.Proofs.YtahfmeopecmpmaaDoor
