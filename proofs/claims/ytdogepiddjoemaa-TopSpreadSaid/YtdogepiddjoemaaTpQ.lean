/-
  Plain laws of changed letters.
-/
import Derived.Test.YtdogepiddjoemaaTpP
import Derived.Test.YtdogepiddjoemaaTpA
namespace Go.Proofs.Ytdogepiddjoemaa
open Go.RowKit

/-- The letters that a number's bits say, the least one first. -/
def mb (B L : Nat) : List UInt8 := (List.range L).map fun k => if B.testBit k then 49 else 48
theorem mb_len (B L : Nat) : (mb B L).length = L := by simp [mb]
theorem mb_bin (B L : Nat) : (mb B L).all isB = true := by
  rw [List.all_eq_true]
  intro x hx
  simp only [mb, List.mem_map] at hx
  obtain ⟨i, _, rfl⟩ := hx
  split <;> decide
theorem mb_get (B L k : Nat) (h : k < L) : (mb B L)[k]'(by rw [mb_len]; exact h) = if B.testBit k then 49 else 48 := by simp [mb]
/-- Whether one of the first k bits is set. -/
def smB (B k : Nat) : Bool := (List.range k).any fun j => B.testBit j
theorem smB_next (B k : Nat) : smB B (k + 1) = (smB B k || B.testBit k) := by
  rw [smB, List.range_succ, List.any_append, smB]; simp
theorem mb_zero (B L : Nat) : vl (mb B L) = 0 ↔ smB B L = false := by
  constructor
  · intro h
    have h1 : mb B L = List.replicate L 48 := vl_inj (by rw [mb_len, List.length_replicate]) (mb_bin B L) (rep48_bin L) (by rw [h, vl_rep])
    rw [smB, List.any_eq_false]
    intro j hj
    have hj' : j < L := List.mem_range.1 hj
    have h2 := mb_get B L j hj'
    have h3 : (mb B L)[j]'(by rw [mb_len]; exact hj') = 48 := by simp [h1]
    rw [h3] at h2
    intro h4
    rw [if_pos h4] at h2
    exact absurd h2 (by decide)
  · intro h
    have h1 : mb B L = List.replicate L 48 := by
      apply List.ext_getElem
      · rw [mb_len, List.length_replicate]
      · intro j h1 h2
        rw [mb_len] at h1
        rw [mb_get B L j h1, List.getElem_replicate, if_neg]
        rw [smB, List.any_eq_false] at h
        exact h j (List.mem_range.2 h1)
    rw [h1, vl_rep]
theorem bw_bin {n A : Nat} {m : List UInt8} (hm : m.all isB = true) (j : Nat) : (bw n A m j).all isB = true := by
  rw [bw, List.all_append, List.all_append, rep48_bin, rep48_bin, take_bin _ hm]; rfl
theorem vl_bw (n A : Nat) (m : List UInt8) : vl (bw n A m m.length) = 2 ^ (n - A - m.length) * vl m := by
  rw [bw, vl_zeros, vl_app, vl_rep, List.length_replicate, List.take_length, Nat.add_zero]
theorem xr_comm (a b : List UInt8) : xr a b = xr b a := by
  rw [xr, List.zipWith_comm, xr]
  congr 1
  funext x y
  by_cases h : x = y
  · subst h; rfl
  · rw [if_neg h, if_neg (fun h' => h h'.symm)]
theorem addB_bin {x y : UInt8} (hx : isB x = true) (hy : isB y = true) : addB x y = if x = y then 48 else 49 := by
  rcases isB_or hx with rfl | rfl <;> rcases isB_or hy with rfl | rfl <;> decide
theorem addS_xr {m l : List UInt8} (h : m.length = l.length) (hm : m.all isB = true) (hl : l.all isB = true) : addS m l = xr l m := by
  apply List.ext_getElem?
  intro j
  by_cases hj : j < l.length
  · have hj2 : j < m.length := by omega
    rw [addS_get m l j hj, xr, List.getElem?_zipWith, List.getElem?_eq_getElem hj, List.getElem?_eq_getElem hj2, List.getD_eq_getElem?_getD, List.getD_eq_getElem?_getD, List.getElem?_eq_getElem hj, List.getElem?_eq_getElem hj2]
    simp only [Option.getD_some]
    rw [addB_bin (all_get hl j hj) (all_get hm j hj2)]
  · rw [List.getElem?_eq_none (by rw [addS_len]; omega), List.getElem?_eq_none (by rw [xr_len]; omega)]
/-- Changes of letters within the digest's length are found out. -/
theorem changes_found {g x : List UInt8} (hg : Gen g) (hx : vfB g x = true) (hs : x.length ≤ 60000) (hxb : x.all isB = true) {A B L : Nat} (hA : A + L ≤ x.length) (hL : L ≤ deg g) :
    vfB g (addS x (bw x.length A (mb B L) L)) = !smB B L := by
  have hl := bw_len (n := x.length) (A := A) (m := mb B L) (j := L) (by rw [mb_len]; omega) (by rw [mb_len]; omega)
  have hb := bw_bin (n := x.length) (A := A) (mb_bin B L) L
  have hv := vl_bw x.length A (mb B L)
  rw [mb_len] at hv
  have h1 := vl_lt (mb B L)
  rw [mb_len] at h1
  have h2 : 2 ^ L ≤ 2 ^ deg g := Nat.pow_le_pow_right (by omega) hL
  rw [addS_xr (by rw [hl]) hxb hb, xr_comm, Bool.eq_iff_iff, vf_xr hg hx (by rw [hl]) hs hxb hb, hv, dv_pow hg.odd, Bool.not_eq_true', ← mb_zero]
  exact ⟨fun h => dv_small hg.rng.1 hg.rng.2 (by omega) h, fun h => by rw [h]; exact dv_zero _⟩
theorem bit16 (k R : Nat) (hR : R < 65536) : bits .and .u16 ((R : Int) / 2 ^ k) 1 = if R.testBit k then 1 else 0 := by
  have h := u16_and_nat (R / 2 ^ k) 1 (Nat.lt_of_le_of_lt (Nat.div_le_self _ _) hR) (by omega)
  rw [show ((R : Int) / 2 ^ k) = ((R / 2 ^ k : Nat) : Int) by simp, show (1 : Int) = ((1 : Nat) : Int) from rfl, h, Nat.and_one_is_mod]
  rw [Nat.testBit_eq_decide_div_mod_eq]
  have : R / 2 ^ k % 2 = 0 ∨ R / 2 ^ k % 2 = 1 := by omega
  rcases this with e | e <;> simp [e]
theorem bit8 (k R : Nat) (hR : R < 256) : bits .and .u8 ((R : Int) / 2 ^ k) 1 = if R.testBit k then 1 else 0 := by
  have h := u8_and_nat (R / 2 ^ k) 1 (Nat.lt_of_le_of_lt (Nat.div_le_self _ _) hR) (by omega)
  rw [show ((R : Int) / 2 ^ k) = ((R / 2 ^ k : Nat) : Int) by simp, show (1 : Int) = ((1 : Nat) : Int) from rfl, h, Nat.and_one_is_mod]
  rw [Nat.testBit_eq_decide_div_mod_eq]
  have : R / 2 ^ k % 2 = 0 ∨ R / 2 ^ k % 2 = 1 := by omega
  rcases this with e | e <;> simp [e]
end Go.Proofs.Ytdogepiddjoemaa
