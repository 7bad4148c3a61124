/-
  A table of numbers that the call makes: a slice of slices, filled from the last row back to the first.
-/
import Derived.Test.YtpnfipemencgnaaEql
namespace Go.Proofs.Ytpnfipemencgnaa
open Go.RowKit

/-- The row i of a table of numbers F, filled from J on. -/
def rowOf (F : Nat → Nat → Nat) (len i J : Nat) : List Int := (List.range len).map fun j : Nat => if J ≤ j then ((F i j : Nat) : Int) else 0
theorem rowOf_len (F : Nat → Nat → Nat) (len i J : Nat) : (rowOf F len i J).length = len := by simp [rowOf]
theorem rowOf_get (F : Nat → Nat → Nat) (len i J j : Nat) (h : j < len) : (ints (rowOf F len i J))[j]? = some (.int .i64 (if J ≤ j then ((F i j : Nat) : Int) else 0)) := by
  simp [ints, rowOf, h]
theorem rowOf_start (F : Nat → Nat → Nat) (len i : Nat) : List.replicate len (Value.int .i64 0) = ints (rowOf F len i len) := by
  apply List.ext_getElem?
  intro j
  by_cases h : j < len
  · rw [rowOf_get _ _ _ _ _ h, if_neg (by omega), List.getElem?_replicate, if_pos h]
  · rw [List.getElem?_eq_none (by simp; omega), List.getElem?_eq_none (by rw [ints_len, rowOf_len]; omega)]
theorem rowOf_put (F : Nat → Nat → Nat) (len i J : Nat) (h : J < len) : (ints (rowOf F len i (J + 1))).set J (.int .i64 (F i J : Nat)) = ints (rowOf F len i J) := by
  apply List.ext_getElem?
  intro j
  rw [List.getElem?_set]
  by_cases hj : j < len
  · by_cases he : J = j
    · subst he
      rw [if_pos rfl, if_pos (by rw [ints_len, rowOf_len]; exact hj), rowOf_get _ _ _ _ _ hj, if_pos (Nat.le_refl _)]
    · rw [if_neg he, rowOf_get _ _ _ _ _ hj, rowOf_get _ _ _ _ _ hj]
      congr 2
      by_cases h2 : J ≤ j
      · rw [if_pos h2, if_pos (by omega)]
      · rw [if_neg h2, if_neg (by omega)]
  · rw [if_neg (by omega), List.getElem?_eq_none (by rw [ints_len, rowOf_len]; omega), List.getElem?_eq_none (by rw [ints_len, rowOf_len]; omega)]

def outer (gr : Nat → Nat) (n len I : Nat) : List Value := (List.range n).map fun j => if I ≤ j then .slice (some ⟨gr j, 0, none⟩) len len else .slice none 0 0
theorem outer_len (gr : Nat → Nat) (n len I : Nat) : (outer gr n len I).length = n := by simp [outer]
theorem outer_get (gr : Nat → Nat) (n len I j : Nat) (h : j < n) : (outer gr n len I)[j]? = some (if I ≤ j then .slice (some ⟨gr j, 0, none⟩) len len else .slice none 0 0) := by simp [outer, h]
theorem outer_start (gr : Nat → Nat) (n len : Nat) : List.replicate n (Value.slice none 0 0) = outer gr n len n := by
  apply List.ext_getElem?
  intro j
  by_cases h : j < n
  · rw [outer_get _ _ _ _ _ h, if_neg (by omega), List.getElem?_replicate, if_pos h]
  · rw [List.getElem?_eq_none (by simp; omega), List.getElem?_eq_none (by rw [outer_len]; omega)]
theorem outer_put (gr : Nat → Nat) (n len I B : Nat) (h : I < n) : (outer gr n len (I + 1)).set I (.slice (some ⟨B, 0, none⟩) len len) = outer (fun j => if j = I then B else gr j) n len I := by
  apply List.ext_getElem?
  intro j
  rw [List.getElem?_set]
  by_cases hj : j < n
  · by_cases he : I = j
    · subst he
      rw [if_pos rfl, if_pos (by rw [outer_len]; exact hj), outer_get _ _ _ _ _ hj, if_pos (Nat.le_refl _), if_pos rfl]
    · rw [if_neg he, outer_get _ _ _ _ _ hj, outer_get _ _ _ _ _ hj, if_neg (show ¬ j = I by omega)]
      congr 1
      by_cases h2 : I ≤ j
      · rw [if_pos h2, if_pos (by omega)]
      · rw [if_neg h2, if_neg (by omega)]
  · rw [if_neg (by omega), List.getElem?_eq_none (by rw [outer_len]; omega), List.getElem?_eq_none (by rw [outer_len]; omega)]

/-- The table at block g: n rows of len numbers each; those from I on are there, those from K on hold F's numbers, in blocks from base on. -/
def Mat (w : World) (base g n len I K : Nat) (F : Nat → Nat → Nat) (gr : Nat → Nat) : Prop :=
  Row w g 28 (outer gr n len I) ∧ base ≤ g ∧ ∀ i, K ≤ i → i < n → base ≤ gr i ∧ gr i ≠ g ∧ Row w (gr i) 3 (ints (rowOf F len i 0))
theorem Mat.alloc {w : World} {base g n len I K : Nat} {F : Nat → Nat → Nat} {gr : Nat → Nat} (h : Mat w base g n len I K F gr) (o : Obj) : Mat (w.alloc o) base g n len I K F gr :=
  ⟨h.1.alloc o, h.2.1, fun i h1 h2 => ⟨(h.2.2 i h1 h2).1, (h.2.2 i h1 h2).2.1, (h.2.2 i h1 h2).2.2.alloc o⟩⟩
theorem Mat.drewN {w : World} {base g n len I K : Nat} {F : Nat → Nat → Nat} {gr : Nat → Nat} (h : Mat w base g n len I K F gr) (q : Nat) : Mat (w.drewN q) base g n len I K F gr := h
theorem Mat.below {w w' : World} {base g n len I K : Nat} {F : Nat → Nat → Nat} {gr : Nat → Nat} (h : Mat w base g n len I K F gr) (hb : Below w.heap.size w w') : Mat w' base g n len I K F gr :=
  ⟨h.1.below hb h.1.lt, h.2.1, fun i h1 h2 => ⟨(h.2.2 i h1 h2).1, (h.2.2 i h1 h2).2.1, (h.2.2 i h1 h2).2.2.below hb (h.2.2 i h1 h2).2.2.lt⟩⟩
theorem Mat.set_other {w : World} {base g n len I K : Nat} {F : Nat → Nat → Nat} {gr : Nat → Nat} (h : Mat w base g n len I K F gr) (a : Addr) (u : Value) (h1 : a.block ≠ g) (h2 : ∀ i, K ≤ i → i < n → a.block ≠ gr i) : Mat (w.setCell a u) base g n len I K F gr :=
  ⟨h.1.set_other a u (Ne.symm h1), h.2.1, fun i k1 k2 => ⟨(h.2.2 i k1 k2).1, (h.2.2 i k1 k2).2.1, (h.2.2 i k1 k2).2.2.set_other a u (Ne.symm (h2 i k1 k2))⟩⟩
theorem Mat.grown {w w' : World} {base g n len I K : Nat} {F : Nat → Nat → Nat} {gr : Nat → Nat} {r : Option Nat} (h : Mat w base g n len I K F gr) (hb : w.grownBy w' r) (h1 : r ≠ some g) (h2 : ∀ i, K ≤ i → i < n → r ≠ some (gr i)) : Mat w' base g n len I K F gr :=
  ⟨h.1.grown hb (Ne.symm h1), h.2.1, fun i k1 k2 => ⟨(h.2.2 i k1 k2).1, (h.2.2 i k1 k2).2.1, (h.2.2 i k1 k2).2.2.grown hb (Ne.symm (h2 i k1 k2))⟩⟩
theorem Mat.out {w : World} {base g n len I K : Nat} {F : Nat → Nat → Nat} {gr : Nat → Nat} (h : Mat w base g n len I K F gr) (j : Nat) (h1 : I ≤ j) (h2 : j < n) : w.cell? ⟨g, j, none⟩ = some (.slice (some ⟨gr j, 0, none⟩) len len) := by
  rw [h.1.cell, outer_get _ _ _ _ _ h2, if_pos h1]
theorem Mat.cell {w : World} {base g n len I K : Nat} {F : Nat → Nat → Nat} {gr : Nat → Nat} (h : Mat w base g n len I K F gr) (i j : Nat) (h1 : K ≤ i) (h2 : i < n) (h3 : j < len) : w.cell? ⟨gr i, j, none⟩ = some (.int .i64 (F i j : Nat)) := by
  rw [(h.2.2 i h1 h2).2.2.cell, rowOf_get _ _ _ _ _ h3, if_pos (Nat.zero_le _)]
theorem mat_start {w : World} {base g n : Nat} (len : Nat) (F : Nat → Nat → Nat) (gr : Nat → Nat) (h : Row w g 28 (List.replicate n (.slice none 0 0))) (hb : base ≤ g) : Mat w base g n len n n F gr :=
  ⟨by rw [← outer_start]; exact h, hb, fun i h1 h2 => by omega⟩
/-- The store of a new row. -/
theorem Mat.put {w : World} {base g n len I : Nat} {F : Nat → Nat → Nat} {gr : Nat → Nat} (h : Mat w base g n len (I + 1) (I + 1) F gr) (hI : I < n) (B : Nat) (_hB : B ≠ g) :
    Mat (w.setCell ⟨g, I, none⟩ (.slice (some ⟨B, 0, none⟩) len len)) base g n len I (I + 1) F (fun j => if j = I then B else gr j) := by
  refine ⟨?_, h.2.1, fun i h1 h2 => ?_⟩
  · rw [← outer_put gr n len I B hI]; exact h.1.set _ _
  · dsimp only
    rw [if_neg (by omega)]
    exact ⟨(h.2.2 i h1 h2).1, (h.2.2 i h1 h2).2.1, (h.2.2 i h1 h2).2.2.set_other _ _ (h.2.2 i h1 h2).2.1⟩
/-- The row I is full. -/
theorem Mat.full {w : World} {base g n len I : Nat} {F : Nat → Nat → Nat} {gr : Nat → Nat} (h : Mat w base g n len I (I + 1) F gr) (h1 : base ≤ gr I) (h2 : gr I ≠ g) (hr : Row w (gr I) 3 (ints (rowOf F len I 0))) : Mat w base g n len I I F gr := by
  refine ⟨h.1, h.2.1, fun i k1 k2 => ?_⟩
  by_cases he : i = I
  · subst he; exact ⟨h1, h2, hr⟩
  · exact h.2.2 i (by omega) k2
end Go.Proofs.Ytpnfipemencgnaa
