/-
  InterleaveDelays returns true for every input: the plain laws, and the walk.
-/
import Derived.Test.YtgjlhjklcgladaaIlvP
namespace Go.Proofs.Ytgjlhjklcgladaa
open Go.RowKit

theorem brn_mod (st i : Nat) : brn st i % 3 = i % 3 := by
  unfold brn
  rw [Nat.mul_assoc, Nat.add_mul_mod_self_left]
theorem brn_inj (st i j : Nat) (h : brn st i = brn st j) : i = j := by
  have h1 : i % 3 = j % 3 := by rw [← brn_mod st i, ← brn_mod st j, h]
  unfold brn at h
  rw [h1] at h
  omega
theorem putK_all (p : UInt8 → Bool) (l : List UInt8) (to : Nat → Nat) (o : List UInt8) (hl : l.all p = true) (ho : o.all p = true) : ∀ k, k ≤ l.length → (putK l to k o).all p = true
  | 0, _ => ho
  | k + 1, hk => by
    have ih := putK_all p l to o hl ho k (by omega)
    rw [putK, List.all_eq_true]
    rw [List.all_eq_true] at ih hl
    intro x hx
    rcases List.mem_or_eq_of_mem_set hx with h | h
    · exact ih x h
    · rw [h, List.getD_eq_getElem?_getD, List.getElem?_eq_getElem (by omega)]
      exact hl _ (List.getElem_mem _)
theorem isLet_48 : isLet 16 48 = true := by decide +kernel

theorem delay_facts (st : Nat) (l : List UInt8) (hc : chk 16 l = 0) (hl : l.length ≤ 60) (hs : st ≤ 20) :
    dlyE st l = 0 ∧ dlyS st l = putL l (l.length + 6 * st) (brn st) ∧ (dlyS st l).length = l.length + 6 * st ∧ (dlyS st l).all (isLet 16) = true ∧ (∀ i, i < l.length → (dlyS st l)[brn st i]? = l[i]?) := by
  have h1 : ckDelay st l = 0 := by rw [ckDelay, if_neg (by simp [hc]), if_neg (by omega)]
  have h2 : dlyE st l = 0 := by rw [dlyE, if_neg (by simp [h1]), if_neg (by omega)]
  have h3 : dlyS st l = putL l (l.length + 6 * st) (brn st) := by rw [dlyS, if_neg (by rw [h2]; decide)]; rfl
  have hall := ((chk_zero 16 l (by omega) (by omega)).1 hc).2
  refine ⟨h2, h3, ?_, ?_, fun i hi => ?_⟩
  · rw [h3, putL, putK_len, List.length_replicate]
  · rw [h3, putL]
    refine putK_all _ _ _ _ hall ?_ _ (Nat.le_refl _)
    rw [List.all_eq_true]
    intro x hx
    rw [List.eq_of_mem_replicate hx]; exact isLet_48
  · rw [h3, putL, putK_get l (brn st) l.length (fun i _ j _ h => brn_inj st i j h) _ (by intro i hi; rw [List.length_replicate]; exact brn_lt _ _ _ hi) _ (Nat.le_refl _) i hi]
    rw [List.getD_eq_getElem?_getD, List.getElem?_eq_getElem hi]; rfl

theorem undelay_facts (st n : Nat) (A : List UInt8) (hs : st ≤ 20) (hA : A.length = n + 6 * st) (hn : n ≤ 60) (ha : A.all (isLet 16) = true) :
    udlE st A = 0 ∧ udlS st A = takeL A (brn st) n := by
  have hc : chk 16 A = 0 := (chk_zero 16 A (by omega) (by omega)).2 ⟨by omega, ha⟩
  have h1 : ckDelay st A = 0 := by rw [ckDelay, if_neg (by simp [hc]), if_neg (by omega)]
  have h2 : udlE st A = 0 := by rw [udlE, if_neg (by simp [h1]), if_neg (by omega)]
  refine ⟨h2, ?_⟩
  rw [udlS, if_neg (by rw [h2]; decide), hA]
  simp only [Int.toNat_natCast, Nat.add_sub_cancel]

theorem undelay_back (st : Nat) (l : List UInt8) (hc : chk 16 l = 0) (hl : l.length ≤ 60) (hs : st ≤ 20) : udlE st (dlyS st l) = 0 ∧ udlS st (dlyS st l) = l := by
  obtain ⟨_, _, d3, d4, d5⟩ := delay_facts st l hc hl hs
  obtain ⟨u1, u2⟩ := undelay_facts st l.length (dlyS st l) hs d3 hl d4
  refine ⟨u1, ?_⟩
  rw [u2]
  apply List.ext_getElem?
  intro i
  by_cases hi : i < l.length
  · have := d5 i hi
    simp only [takeL, List.getElem?_map, List.getElem?_range hi, Option.map_some]
    rw [List.getD_eq_getElem?_getD, this, List.getElem?_eq_getElem hi]; rfl
  · rw [List.getElem?_eq_none (by rw [takeL_len]; omega), List.getElem?_eq_none (by omega)]

/-- One letter of a delayed word is another one. -/
theorem undelay_changed (st : Nat) (l : List UInt8) (hc : chk 16 l = 0) (hl : l.length ≤ 60) (hs : st ≤ 20) (k : Nat) (x : UInt8) (hk : k < l.length + 6 * st) (hx : isLet 16 x = true) :
    udlE st ((dlyS st l).set k x) = 0 ∧
      (∀ i : Nat, (i : Int) = (k : Int) - 3 * (st : Int) * ((k : Int) % 3) → i < l.length → udlS st ((dlyS st l).set k x) = l.set i x) ∧
      ((¬ (0 ≤ (k : Int) - 3 * (st : Int) * ((k : Int) % 3) ∧ (k : Int) - 3 * (st : Int) * ((k : Int) % 3) < l.length)) → udlS st ((dlyS st l).set k x) = l) := by
  obtain ⟨_, _, d3, d4, d5⟩ := delay_facts st l hc hl hs
  have ha : ((dlyS st l).set k x).all (isLet 16) = true := by
    rw [List.all_eq_true] at d4 ⊢
    intro y hy
    rcases List.mem_or_eq_of_mem_set hy with h | h
    · exact d4 y h
    · rw [h]; exact hx
  obtain ⟨u1, u2⟩ := undelay_facts st l.length ((dlyS st l).set k x) hs (by rw [List.length_set, d3]) hl ha
  have hget : ∀ j, j < l.length → (takeL ((dlyS st l).set k x) (brn st) l.length)[j]? = if brn st j = k then some x else l[j]? := by
    intro j hj
    simp only [takeL, List.getElem?_map, List.getElem?_range hj, Option.map_some, List.getD_eq_getElem?_getD, List.getElem?_set]
    by_cases h : k = brn st j
    · rw [if_pos h, if_pos (by rw [d3]; exact hk), if_pos h.symm]; rfl
    · rw [if_neg h, if_neg (fun h2 => h h2.symm), d5 j hj, List.getElem?_eq_getElem hj]; rfl
  have hiff : ∀ j, brn st j = k ↔ (j : Int) = (k : Int) - 3 * (st : Int) * ((k : Int) % 3) := by
    intro j
    have e3 : ((k : Int) % 3) = ((k % 3 : Nat) : Int) := rfl
    rw [e3]
    constructor
    · intro h
      have hm := brn_mod st j
      rw [h] at hm
      rw [hm, ← h]
      unfold brn
      push_cast
      omega
    · intro h
      have hm : j % 3 = k % 3 := by
        have h2 : (j : Int) = (k : Int) - 3 * ((st : Int) * ((k % 3 : Nat) : Int)) := by rw [h, Int.mul_assoc]
        generalize (st : Int) * ((k % 3 : Nat) : Int) = q at h2
        omega
      unfold brn
      rw [hm]
      have h3 : ((j + 3 * st * (k % 3) : Nat) : Int) = (k : Int) := by
        push_cast
        rw [h]
        push_cast
        omega
      exact Int.ofNat.inj h3
  refine ⟨u1, fun i hi hil => ?_, fun hno => ?_⟩
  · rw [u2]
    apply List.ext_getElem?
    intro j
    by_cases hj : j < l.length
    · rw [hget j hj, List.getElem?_set]
      by_cases h : brn st j = k
      · have : i = j := by have := (hiff j).1 h; omega
        rw [if_pos h, if_pos this, if_pos hil]
      · have : i ≠ j := by intro h2; apply h; rw [hiff]; rw [← h2]; exact hi
        rw [if_neg h, if_neg this]
    · rw [List.getElem?_eq_none (by rw [takeL_len]; omega), List.getElem?_eq_none (by rw [List.length_set]; omega)]
  · rw [u2]
    apply List.ext_getElem?
    intro j
    by_cases hj : j < l.length
    · rw [hget j hj, if_neg]
      intro h
      have := (hiff j).1 h
      omega
    · rw [List.getElem?_eq_none (by rw [takeL_len]; omega), List.getElem?_eq_none (by omega)]
end Go.Proofs.Ytgjlhjklcgladaa
