/-
  Plain laws on interleaved words: no program is in sight.
-/
import Derived.Test.YtgjlhjklcgladaaIlvF
namespace Go.Proofs.Ytgjlhjklcgladaa
open Go.RowKit

theorem nz_len (s : ByteArray) : s.data.toList.length = s.size := rfl

theorem posn_inv (c r i : Nat) (hc : 1 ≤ c) (hr : 1 ≤ r) (hi : i < c * r) : posn r c (posn c r i) = i := by
  unfold posn
  have h2 : i / c < r := by rw [Nat.div_lt_iff_lt_mul hc]; rwa [Nat.mul_comm]
  rw [Nat.mul_comm (i % c) r, Nat.mul_add_mod, Nat.mod_eq_of_lt h2, Nat.mul_add_div hr, Nat.div_eq_of_lt h2, Nat.add_zero, Nat.mul_comm]
  exact Nat.div_add_mod i c

theorem putK_get (l : List UInt8) (to : Nat → Nat) (n : Nat) (hto : ∀ i, i < n → ∀ j, j < n → to i = to j → i = j) (o : List UInt8) (ho : ∀ i, i < n → to i < o.length) :
    ∀ k, k ≤ n → ∀ i, i < k → (putK l to k o)[to i]? = some (l.getD i 0)
  | 0, _, i, hi => by omega
  | k + 1, hk, i, hi => by
    rw [putK, List.getElem?_set]
    by_cases h : to k = to i
    · have := hto k (by omega) i (by omega) h
      subst this
      rw [if_pos rfl, if_pos (by rw [putK_len]; exact ho _ (by omega))]
    · rw [if_neg h]
      have : i ≠ k := fun h2 => h (by rw [h2])
      exact putK_get l to n hto o ho k (by omega) i (by omega)

theorem putL_eq (l : List UInt8) (n : Nat) (to inv : Nat → Nat) (hl : l.length = n) (h1 : ∀ i, i < n → to i < n) (h2 : ∀ j, j < n → inv j < n) (h3 : ∀ j, j < n → to (inv j) = j) (h4 : ∀ i, i < n → inv (to i) = i) :
    putL l n to = takeL l inv n := by
  apply List.ext_getElem?
  intro j
  by_cases hj : j < n
  · have h := putK_get l to n (fun i hi j hj h => by rw [← h4 i hi, ← h4 j hj, h]) (List.replicate n 48) (by intro i hi; rw [List.length_replicate]; exact h1 i hi) n (Nat.le_refl _) (inv j) (h2 j hj)
    rw [h3 j hj] at h
    unfold putL
    rw [hl, h]
    simp [takeL, hj]
  · rw [List.getElem?_eq_none (by rw [putL, putK_len, List.length_replicate]; omega), List.getElem?_eq_none (by rw [takeL_len]; omega)]

theorem takeL_take (l : List UInt8) (f g : Nat → Nat) (n : Nat) (hg : ∀ j, j < n → g j < n) : takeL (takeL l f n) g n = takeL l (fun j => f (g j)) n := by
  apply List.ext_getElem?
  intro j
  by_cases hj : j < n
  · simp [takeL, hj, hg j hj]
  · rw [List.getElem?_eq_none (by rw [takeL_len]; omega), List.getElem?_eq_none (by rw [takeL_len]; omega)]
theorem takeL_id (l : List UInt8) (f : Nat → Nat) (h : ∀ j, j < l.length → f j = j) : takeL l f l.length = l := by
  apply List.ext_getElem?
  intro j
  by_cases hj : j < l.length
  · simp [takeL, hj, h j hj]
  · rw [List.getElem?_eq_none (by rw [takeL_len]; omega), List.getElem?_eq_none (by omega)]
theorem takeL_all (p : UInt8 → Bool) (l : List UInt8) (f : Nat → Nat) (n : Nat) (h : ∀ j, j < n → f j < l.length) (hl : l.all p = true) : (takeL l f n).all p = true := by
  rw [List.all_eq_true] at hl ⊢
  intro x hx
  simp only [takeL, List.mem_map, List.mem_range] at hx
  obtain ⟨j, hj, rfl⟩ := hx
  have := h j hj
  rw [List.getD_eq_getElem?_getD, List.getElem?_eq_getElem this]
  exact hl _ (List.getElem_mem _)

theorem chk_zero (q : Int) (l : List UInt8) (h1 : 1 ≤ q) (h2 : q ≤ 16) : chk q l = 0 ↔ l.length ≤ 65536 ∧ l.all (isLet q) = true := by
  unfold chk
  rw [if_neg (by omega)]
  by_cases h : 65536 < l.length
  · rw [if_pos h]; constructor
    · intro h'; omega
    · intro h'; omega
  · rw [if_neg h]
    by_cases ha : l.all (isLet q) = true
    · rw [if_pos ha]; simp [ha]; omega
    · rw [if_neg ha]; constructor
      · intro h'; omega
      · intro h'; exact absurd h'.2 ha
theorem chk_takeL (l : List UInt8) (f : Nat → Nat) (n : Nat) (hn : n ≤ 65536) (h : ∀ j, j < n → f j < l.length) (hc : chk 16 l = 0) : chk 16 (takeL l f n) = 0 := by
  rw [chk_zero 16 _ (by omega) (by omega)] at hc ⊢
  exact ⟨by rw [takeL_len]; exact hn, takeL_all _ _ _ _ h hc.2⟩

theorem ckBlock_mk {rows : Int} {l : List UInt8} (h1 : chk 16 l = 0) (h2 : 1 ≤ rows) (h3 : rows ≤ 65536) (h4 : (l.length : Int) % rows = 0) : ckBlock rows l = 0 := by
  unfold ckBlock
  rw [if_neg (by simp [h1]), if_neg (by omega), if_neg (by simp [h4])]

/-- Interleaving with r rows is reading by the positions of c rows. -/
theorem blkS_eq (r : Nat) (l : List UInt8) (hc : ckBlock r l = 0) (hl : 1 ≤ l.length) : blkS r l = takeL l (posn r (l.length / r)) l.length ∧ ublS r l = takeL l (posn (l.length / r) r) l.length := by
  obtain ⟨h1, h2, h3, h4⟩ := ckBlock_ok hc
  obtain ⟨p1, p2⟩ := div_parts hl h4
  have hr : 1 ≤ r := by omega
  constructor
  · rw [blkS, if_neg (by simp [hc])]
    show putL l l.length (posn (l.length / r) r) = _
    refine putL_eq l l.length _ _ rfl ?_ ?_ ?_ ?_
    · intro i hi; exact posn_le _ _ _ _ p1 p2 hi
    · intro i hi; exact posn_le _ _ _ _ hr (by rw [Nat.mul_comm]; exact p2) hi
    · intro i hi; exact posn_inv r (l.length / r) i hr p1 (by rw [Nat.mul_comm, ← p2]; exact hi)
    · intro i hi; exact posn_inv (l.length / r) r i p1 hr (by rw [← p2]; exact hi)
  · rw [ublS, if_neg (by simp [hc])]; rfl

theorem inv_all (rows : Int) (l : List UInt8) (hc : chk 16 l = 0) (hl : 1 ≤ l.length) (h1 : 1 ≤ rows) (h2 : rows ≤ 65536) (hm : (l.length : Int) % rows = 0) :
    ckBlock rows l = 0 ∧ (blkS rows l).length = l.length ∧ ckBlock rows (blkS rows l) = 0 ∧ ublS rows (blkS rows l) = l ∧ ckBlock rows (ublS rows l) = 0 ∧ blkS rows (ublS rows l) = l ∧
      ckBlock ((l.length : Int) / rows) (blkS rows l) = 0 ∧ blkS ((l.length : Int) / rows) (blkS rows l) = l := by
  obtain ⟨r, rfl⟩ := Int.eq_ofNat_of_zero_le (show 0 ≤ rows by omega)
  have k1 := ckBlock_mk hc h1 h2 hm
  obtain ⟨p1, p2⟩ := div_parts hl hm
  have hr : 1 ≤ r := by omega
  have hlen := chk_len hc
  have e := blkS_eq r l k1 hl
  have b1 : ∀ j, j < l.length → posn r (l.length / r) j < l.length := fun j hj => posn_le _ _ _ _ hr (by rw [Nat.mul_comm]; exact p2) hj
  have b2 : ∀ j, j < l.length → posn (l.length / r) r j < l.length := fun j hj => posn_le _ _ _ _ p1 p2 hj
  have i1 : ∀ j, j < l.length → posn r (l.length / r) (posn (l.length / r) r j) = j := fun j hj => posn_inv _ _ _ p1 hr (by rw [← p2]; exact hj)
  have i2 : ∀ j, j < l.length → posn (l.length / r) r (posn r (l.length / r) j) = j := fun j hj => posn_inv _ _ _ hr p1 (by rw [Nat.mul_comm, ← p2]; exact hj)
  have n1 : (blkS r l).length = l.length := by rw [e.1, takeL_len]
  have n2 : (ublS r l).length = l.length := by rw [e.2, takeL_len]
  have c1 : chk 16 (blkS r l) = 0 := by rw [e.1]; exact chk_takeL _ _ _ hlen b1 hc
  have c2 : chk 16 (ublS r l) = 0 := by rw [e.2]; exact chk_takeL _ _ _ hlen b2 hc
  have k2 : ckBlock r (blkS r l) = 0 := ckBlock_mk c1 h1 h2 (by rw [n1]; exact hm)
  have k3 : ckBlock r (ublS r l) = 0 := ckBlock_mk c2 h1 h2 (by rw [n2]; exact hm)
  have hq : ((l.length : Int) / (r : Int)) = ((l.length / r : Nat) : Int) := rfl
  have hdiv : l.length / (l.length / r) = r := by
    conv => lhs; arg 1; rw [p2]
    rw [Nat.mul_comm, Nat.mul_div_cancel _ p1]
  have k4 : ckBlock ((l.length / r : Nat) : Int) (blkS r l) = 0 := by
    refine ckBlock_mk c1 (by omega) (by have := Nat.div_le_self l.length r; omega) ?_
    rw [n1]
    have : l.length % (l.length / r) = 0 := by
      conv => lhs; arg 1; rw [p2]
      rw [Nat.mul_mod_right]
    omega
  refine ⟨k1, n1, k2, ?_, k3, ?_, by rw [hq]; exact k4, ?_⟩
  · rw [(blkS_eq r _ k2 (by omega)).2, n1, e.1, takeL_take _ _ _ _ b2]
    exact takeL_id _ _ i1
  · rw [(blkS_eq r _ k3 (by omega)).1, n2, e.2, takeL_take _ _ _ _ b1]
    exact takeL_id _ _ i2
  · rw [hq, (blkS_eq (l.length / r) _ k4 (by omega)).1, n1, hdiv, e.1, takeL_take _ _ _ _ b2]
    exact takeL_id _ _ i1
end Go.Proofs.Ytgjlhjklcgladaa
