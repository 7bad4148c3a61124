/-
  Divide: the plain functions, and what they compute.
-/
import Derived.Test.YtahfmeopecmpmaaDoorDgM
namespace Go.Proofs.YtahfmeopecmpmaaDoor
open Go.RowKit

/-- The rest behind i steps of the division of w by g, which begins with 1. -/
def dR (g w : List UInt8) : Nat → List UInt8
  | 0 => w
  | i + 1 => if (dR g w i).getD i 0 = 49 then xk (dR g w i) i g g.length else dR g w i
/-- The quotient behind i steps. -/
def dQ (g w : List UInt8) : Nat → List UInt8
  | 0 => List.replicate w.length 48
  | i + 1 => if (dR g w i).getD i 0 = 49 then (dQ g w i).set (i + g.length - 1) 49 else dQ g w i
theorem dR_len (g w : List UInt8) : ∀ i, (dR g w i).length = w.length
  | 0 => rfl
  | i + 1 => by rw [dR]; split <;> simp [xk_len, dR_len g w i]
theorem dQ_len (g w : List UInt8) : ∀ i, (dQ g w i).length = w.length
  | 0 => by simp [dQ]
  | i + 1 => by rw [dQ]; split <;> simp [dQ_len g w i]
theorem dR_bin {g w : List UInt8} (hg : g.all isB = true) (hw : w.all isB = true) : ∀ i, i + g.length ≤ w.length + 1 → (dR g w i).all isB = true
  | 0, _ => hw
  | i + 1, h => by
    rw [dR]; split
    · exact xk_bin (dR_bin hg hw i (by omega)) hg (by rw [dR_len]; omega)
    · exact dR_bin hg hw i (by omega)
theorem set_bin {l : List UInt8} (h : l.all isB = true) (j : Nat) : (l.set j 49).all isB = true := by
  rw [List.all_eq_true] at h ⊢
  intro x hx
  rcases List.mem_or_eq_of_mem_set hx with h1 | h1
  · exact h x h1
  · rw [h1]; decide
theorem dQ_bin (g w : List UInt8) : ∀ i, (dQ g w i).all isB = true
  | 0 => by rw [dQ]; exact rep48_bin _
  | i + 1 => by
    rw [dQ]; split
    · exact set_bin (dQ_bin g w i) _
    · exact dQ_bin g w i
theorem dQ_zero {g : List UInt8} (w : List UInt8) (h1 : 1 ≤ g.length) : ∀ i j, i + g.length - 1 ≤ j → j < w.length → (dQ g w i)[j]? = some 48
  | 0, j, _, hj => by rw [dQ, List.getElem?_replicate, if_pos hj]
  | i + 1, j, h, hj => by
    rw [dQ]; split
    · rw [List.getElem?_set_ne (by omega)]; exact dQ_zero w h1 i j (by omega) hj
    · exact dQ_zero w h1 i j (by omega) hj
theorem getD_bit {l : List UInt8} (hb : l.all isB = true) {i : Nat} (h : i < l.length) : l.getD i 0 = 49 ↔ (vl l).testBit (l.length - 1 - i) = true := by
  have e := tx_vl l.length l rfl hb
  have h2 : (tx (vl l) l.length)[i]? = some (if (vl l).testBit (l.length - 1 - i) then 49 else 48) := by
    rw [tx, List.getElem?_map, List.getElem?_range h]; rfl
  rw [e] at h2
  rw [List.getD_eq_getElem?_getD, h2, Option.getD_some]
  split
  · simp_all
  · rename_i h3
    constructor
    · intro h4; exact absurd h4 (by decide)
    · intro h4; exact absurd h4 h3
theorem vl_set {l : List UInt8} {j : Nat} (h : l[j]? = some 48) : vl (l.set j 49) = vl l ^^^ 2 ^ (l.length - 1 - j) := by
  have hj : j < l.length := (List.getElem?_eq_some_iff.1 h).1
  have hd : (l.drop (j + 1)).length = l.length - 1 - j := by rw [List.length_drop]; omega
  have e1 : l = l.take j ++ (48 :: l.drop (j + 1)) := by
    have h3 := List.drop_eq_getElem_cons hj
    have h4 : l[j] = 48 := by rw [List.getElem?_eq_getElem hj] at h; exact Option.some.inj h
    rw [h4] at h3
    rw [← h3, List.take_append_drop]
  have e2 : l.set j 49 = l.take j ++ (49 :: l.drop (j + 1)) := List.set_eq_take_append_cons_drop.trans (if_pos hj)
  rw [e2]
  conv => rhs; rw [show vl l = vl (l.take j ++ (48 :: l.drop (j + 1))) from congrArg vl e1]
  rw [vl_app', vl_app', ← List.singleton_append, vl_app', ← List.singleton_append (x := (48 : UInt8)), vl_app', vl_one, vl_one, hd]
  show _ ^^^ (2 ^ (l.length - 1 - j) * 1 ^^^ _) = _ ^^^ (2 ^ (l.length - 1 - j) * 0 ^^^ _) ^^^ _
  rw [Nat.mul_one, Nat.mul_zero, Nat.zero_xor, List.length_append, List.length_append, List.length_singleton, List.length_singleton]
  rw [Nat.xor_assoc, Nat.xor_comm (2 ^ (l.length - 1 - j))]
theorem cl_pow (G : Nat) : ∀ e, cl (2 ^ e) G = 2 ^ e * G
  | 0 => by rw [Nat.pow_zero, cl_one, Nat.one_mul]
  | e + 1 => by rw [Nat.pow_succ, Nat.mul_comm (2 ^ e) 2, cl_dbl, cl_pow G e, Nat.mul_assoc]
/-- What a division keeps: the word's value; and the rest becomes short. -/
theorem dv_inv {g w : List UInt8} (hg : g.all isB = true) (hgl : led g) (hw : w.all isB = true) (h1 : 1 ≤ g.length) : ∀ i, i + g.length ≤ w.length + 1 →
    vl w = cl (vl (dQ g w i)) (vl g) ^^^ vl (dR g w i) ∧ vl (dR g w i) < 2 ^ (w.length - i)
  | 0, _ => by
    refine ⟨?_, vl_lt w⟩
    rw [dQ, dR, vl_rep, cl_zero, Nat.zero_xor]
  | i + 1, h => by
    obtain ⟨a1, a2⟩ := dv_inv hg hgl hw h1 i (by omega)
    have hb := dR_bin hg hw i (by omega)
    have hl := dR_len g w i
    have hr := vl_lt g
    have hr2 := hgl.rng (by intro h0; rw [h0] at h1; simp at h1)
    obtain ⟨m, hm⟩ : ∃ m, g.length = m + 1 := ⟨g.length - 1, by omega⟩
    rw [hm] at hr hr2 h
    rw [Nat.add_sub_cancel] at hr2
    obtain ⟨r, hrr⟩ : ∃ r, w.length = i + (m + 1) + r := ⟨w.length - (i + (m + 1)), by omega⟩
    have hbit := getD_bit hb (i := i) (by omega)
    rw [hl, show w.length - 1 - i = m + r by omega] at hbit
    rw [show w.length - i = (m + r) + 1 by omega] at a2
    rw [show w.length - (i + 1) = m + r by omega]
    have htop := testBit_ge a2
    rw [dQ, dR]
    by_cases hc : (dR g w i).getD i 0 = 49
    · rw [if_pos hc, if_pos hc, vl_xk hb hg (by omega), vl_set (dQ_zero w h1 i (i + g.length - 1) (Nat.le_refl _) (by omega)), dQ_len, cl_xor_l, cl_pow, hl, hm,
        show w.length - 1 - (i + (m + 1) - 1) = r by omega, show w.length - (i + (m + 1)) = r by omega]
      have hst := st1_lt (k := m + r) (G := 2 ^ r * vl g) (r := vl (dR g w i)) (by rw [show m + r + 1 = r + (m + 1) by omega, Nat.pow_add]; exact Nat.mul_lt_mul_of_pos_left hr (Nat.two_pow_pos _)) (by rw [Nat.add_comm, Nat.pow_add]; exact Nat.mul_le_mul_left _ hr2) a2
      rw [st1, if_pos (hbit.1 hc)] at hst
      refine ⟨?_, hst⟩
      rw [xor4, Nat.xor_self, Nat.xor_zero]; exact a1
    · rw [if_neg hc, if_neg hc]
      refine ⟨a1, ?_⟩
      have h3 : (vl (dR g w i)).testBit (m + r) = false := by
        rw [Bool.eq_false_iff]; exact fun h => hc (hbit.2 h)
      rw [htop, decide_eq_false_iff_not] at h3
      omega
def stp (g w : List UInt8) : Nat := w.length + 1 - g.length
def qtO (g w : List UInt8) : List UInt8 := trm (dQ (trm g) w (stp (trm g) w))
def rsO (g w : List UInt8) : List UInt8 := trm (dR (trm g) w (stp (trm g) w))
theorem dv_ok {g w : List UInt8} (hg : g.all isB = true) (hw : w.all isB = true) (h0 : trm g ≠ []) :
    led (qtO g w) ∧ (qtO g w).all isB = true ∧ led (rsO g w) ∧ (rsO g w).all isB = true ∧ vl w = cl (vl (qtO g w)) (vl g) ^^^ vl (rsO g w) ∧ (rsO g w).length < (trm g).length := by
  obtain ⟨hgl, hgb⟩ := trm_led hg
  have h1 : 1 ≤ (trm g).length := List.length_pos_iff.2 h0
  obtain ⟨q1, q2⟩ := trm_led (dQ_bin (trm g) w (stp (trm g) w))
  have hS : stp (trm g) w + (trm g).length ≤ w.length + 1 ∨ stp (trm g) w = 0 := by unfold stp; omega
  have key : (dR (trm g) w (stp (trm g) w)).all isB = true ∧ vl w = cl (vl (dQ (trm g) w (stp (trm g) w))) (vl (trm g)) ^^^ vl (dR (trm g) w (stp (trm g) w)) ∧ vl (dR (trm g) w (stp (trm g) w)) < 2 ^ ((trm g).length - 1) := by
    rcases hS with hS | hS
    · obtain ⟨a1, a2⟩ := dv_inv hgb hgl hw h1 _ hS
      refine ⟨dR_bin hgb hw _ hS, a1, Nat.lt_of_lt_of_le a2 (Nat.pow_le_pow_right (by omega) ?_)⟩
      by_cases hle : (trm g).length ≤ w.length
      · have e : stp (trm g) w = w.length + 1 - (trm g).length := rfl
        omega
      · omega
    · rw [hS]
      refine ⟨hw, ?_, ?_⟩
      · rw [dQ, dR, vl_rep, cl_zero, Nat.zero_xor]
      · have hl : w.length + 1 ≤ (trm g).length := by unfold stp at hS; omega
        exact Nat.lt_of_lt_of_le (vl_lt w) (Nat.pow_le_pow_right (by omega) (by omega))
  obtain ⟨k1, k2, k3⟩ := key
  obtain ⟨r1, r2⟩ := trm_led k1
  refine ⟨q1, q2, r1, r2, ?_, ?_⟩
  · rw [qtO, rsO, vl_trm, vl_trm, ← vl_trm g]; exact k2
  · show (trm (dR (trm g) w (stp (trm g) w))).length < _
    by_cases hz : trm (dR (trm g) w (stp (trm g) w)) = []
    · rw [hz, List.length_nil]; exact h1
    · have h3 := r1.rng hz
      rw [vl_trm] at h3
      have h4 : (trm (dR (trm g) w (stp (trm g) w))).length - 1 < (trm g).length - 1 := (Nat.pow_lt_pow_iff_right (a := 2) (by omega)).1 (by omega)
      have h5 := List.length_pos_iff.2 hz
      omega
theorem trm_le : ∀ l : List UInt8, (trm l).length ≤ l.length
  | [] => Nat.le_refl _
  | c :: l => by
    by_cases h : c = 48
    · subst h
      have e : trm (48 :: l) = trm l := by simp [trm, Lib.trimLeftB]
      rw [e, List.length_cons]; have := trm_le l; omega
    · have e : trm (c :: l) = c :: l := by simp [trm, Lib.trimLeftB, h]
      rw [e]; exact Nat.le_refl _
theorem trm_self {l : List UInt8} (h : led l) : trm l = l := by
  rcases h with rfl | h
  · rfl
  · cases l with
    | nil => rfl
    | cons a t =>
      have ha : a = 49 := by simpa using h
      subst ha
      simp [trm, Lib.trimLeftB]
theorem pr_le (a b : List UInt8) : (prO a b).length ≤ a.length + b.length := by
  rw [prO]; split
  · exact Nat.le_trans (trm_le _) (by rw [pk_len]; exact Nat.le_refl _)
  · simp
end Go.Proofs.YtahfmeopecmpmaaDoor
