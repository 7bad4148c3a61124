/-
  Plain laws of rows that are interleaved.
-/
import Derived.Test.YtdogepiddjoemaaTpQ
import Derived.Test.YtdogepiddjoemaaTsA
namespace Go.Proofs.Ytdogepiddjoemaa
open Go.RowKit

theorem posn_inv (c r i : Nat) (hc : 1 ≤ c) (hr : 1 ≤ r) (hi : i < c * r) : posn r c (posn c r i) = i := by
  unfold posn
  have h2 : i / c < r := by rw [Nat.div_lt_iff_lt_mul hc]; rwa [Nat.mul_comm]
  rw [Nat.mul_comm (i % c) r, Nat.mul_add_mod, Nat.mod_eq_of_lt h2, Nat.mul_add_div hr, Nat.div_eq_of_lt h2, Nat.add_zero, Nat.mul_comm]
  exact Nat.div_add_mod i c
theorem putK_get (l : List UInt8) (tt : Nat → Nat) (n : Nat) (hto : ∀ i, i < n → ∀ j, j < n → tt i = tt j → i = j) (o : List UInt8) (ho : ∀ i, i < n → tt i < o.length) :
    ∀ k, k ≤ n → ∀ i, i < k → (putK l tt k o)[tt i]? = some (l.getD i 0)
  | 0, _, i, hi => by omega
  | k + 1, hk, i, hi => by
    rw [putK, List.getElem?_set]
    by_cases h : tt k = tt i
    · have := hto k (by omega) i (by omega) h
      subst this
      rw [if_pos rfl, if_pos (by rw [putK_len]; exact ho _ (by omega))]
    · rw [if_neg h]
      have : i ≠ k := fun h2 => h (by rw [h2])
      exact putK_get l tt n hto o ho k (by omega) i (by omega)
theorem chk_zero (q : Int) (l : List UInt8) (h1 : 1 ≤ q) (h2 : q ≤ 16) : chk q l = 0 ↔ l.length ≤ 65536 ∧ l.all (isLet q) = true := by
  unfold chk
  rw [if_neg (by omega)]
  by_cases h : 65536 < l.length
  · rw [if_pos h]; constructor
    · intro h'; omega
    · intro h'; omega
  · rw [if_neg h]
    by_cases ha : l.all (isLet q) = true
    · rw [if_pos ha]; simp [ha]; omega
    · rw [if_neg ha]; constructor
      · intro h'; omega
      · intro h'; exact absurd h'.2 ha
theorem ckBlock_mk {rows : Int} {l : List UInt8} (h1 : chk 16 l = 0) (h2 : 1 ≤ rows) (h3 : rows ≤ 65536) (h4 : (l.length : Int) % rows = 0) : ckBlock rows l = 0 := by
  unfold ckBlock
  rw [if_neg (by simp [h1]), if_neg (by omega), if_neg (by simp [h4])]
theorem vl_set {l : List UInt8} {j : Nat} (h : l[j]? = some 48) : vl (l.set j 49) = vl l ^^^ 2 ^ (l.length - 1 - j) := by
  have hj : j < l.length := (List.getElem?_eq_some_iff.1 h).1
  have hd : (l.drop (j + 1)).length = l.length - 1 - j := by rw [List.length_drop]; omega
  have e1 : l = l.take j ++ (48 :: l.drop (j + 1)) := by
    have h3 := List.drop_eq_getElem_cons hj
    have h4 : l[j] = 48 := by rw [List.getElem?_eq_getElem hj] at h; exact Option.some.inj h
    rw [h4] at h3
    rw [← h3, List.take_append_drop]
  have e2 : l.set j 49 = l.take j ++ (49 :: l.drop (j + 1)) := List.set_eq_take_append_cons_drop.trans (if_pos hj)
  rw [e2]
  conv => rhs; rw [show vl l = vl (l.take j ++ (48 :: l.drop (j + 1))) from congrArg vl e1]
  rw [vl_app', vl_app', ← List.singleton_append, vl_app', ← List.singleton_append (x := (48 : UInt8)), vl_app', vl_one, vl_one, hd]
  show _ ^^^ (2 ^ (l.length - 1 - j) * 1 ^^^ _) = _ ^^^ (2 ^ (l.length - 1 - j) * 0 ^^^ _) ^^^ _
  rw [Nat.mul_one, Nat.mul_zero, Nat.zero_xor, List.length_append, List.length_append, List.length_singleton, List.length_singleton]
  rw [Nat.xor_assoc, Nat.xor_comm (2 ^ (l.length - 1 - j))]

theorem chk16_bin {l : List UInt8} (h1 : l.length ≤ 65536) (h2 : l.all isB = true) : chk 16 l = 0 := by
  rw [chk_zero 16 l (by omega) (by omega)]
  refine ⟨h1, ?_⟩
  rw [List.all_eq_true] at h2 ⊢
  intro x hx
  rcases isB_or (h2 x hx) with rfl | rfl <;> decide
/-- Letters flipped from i on, where the bits of B are set. -/
def flF (T : List UInt8) (i B : Nat) : Nat → List UInt8
  | 0 => T
  | t + 1 => if B.testBit t then (flF T i B t).set (i + t) ((T.getD (i + t) 0) ^^^ 1) else flF T i B t
theorem flF_len (T : List UInt8) (i B : Nat) : ∀ t, (flF T i B t).length = T.length
  | 0 => rfl
  | t + 1 => by rw [flF]; split <;> simp [flF_len T i B t]
theorem flF_get (T : List UInt8) (i B : Nat) : ∀ t p, (flF T i B t)[p]? = if i ≤ p ∧ p < i + t ∧ B.testBit (p - i) = true ∧ p < T.length then some (T.getD p 0 ^^^ 1) else T[p]?
  | 0, p => by rw [flF, if_neg (by omega)]
  | t + 1, p => by
    rw [flF]
    by_cases hb : B.testBit t = true
    · rw [if_pos hb, List.getElem?_set, flF_len, flF_get T i B t p]
      by_cases hp : i + t = p
      · subst hp
        rw [if_pos rfl]
        by_cases h2 : i + t < T.length
        · rw [if_pos h2, if_pos ⟨by omega, by omega, by rw [Nat.add_sub_cancel_left]; exact hb, h2⟩]
        · rw [if_neg h2, if_neg (fun h => h2 h.2.2.2), List.getElem?_eq_none (by omega)]
      · rw [if_neg hp]
        by_cases h2 : i ≤ p ∧ p < i + t ∧ B.testBit (p - i) = true ∧ p < T.length
        · rw [if_pos h2, if_pos ⟨h2.1, by omega, h2.2.2⟩]
        · rw [if_neg h2, if_neg (fun h => h2 ⟨h.1, by omega, h.2.2⟩)]
    · rw [if_neg hb, flF_get T i B t p]
      by_cases h2 : i ≤ p ∧ p < i + t ∧ B.testBit (p - i) = true ∧ p < T.length
      · rw [if_pos h2, if_pos ⟨h2.1, by omega, h2.2.2⟩]
      · rw [if_neg h2, if_neg]
        intro h
        by_cases h3 : p = i + t
        · subst h3; rw [Nat.add_sub_cancel_left] at h; exact hb h.2.2.1
        · exact h2 ⟨h.1, by omega, h.2.2⟩
theorem getD_some {l : List UInt8} {j : Nat} {c : UInt8} (h : l[j]? = some c) : l.getD j 0 = c := by rw [List.getD_eq_getElem?_getD, h]; rfl
theorem flip_bin {c : UInt8} (h : isB c = true) : isB (c ^^^ 1) = true := by rcases isB_or h with rfl | rfl <;> decide
theorem getD_bin {l : List UInt8} (h : l.all isB = true) {j : Nat} (hj : j < l.length) : isB (l.getD j 0) = true := by
  rw [List.getD_eq_getElem?_getD, List.getElem?_eq_getElem hj]; exact all_get h j hj
theorem flF_bin {T : List UInt8} (hT : T.all isB = true) (i B : Nat) : ∀ t, i + t ≤ T.length → (flF T i B t).all isB = true
  | 0, _ => hT
  | t + 1, h => by
    rw [flF]; split
    · have h2 := flF_bin hT i B t (by omega)
      rw [List.all_eq_true] at h2 ⊢
      intro x hx
      rcases List.mem_or_eq_of_mem_set hx with h3 | h3
      · exact h2 x h3
      · rw [h3]; exact flip_bin (getD_bin hT (by omega))
    · exact flF_bin hT i B t (by omega)
theorem putL_bin {l : List UInt8} (hl : l.all isB = true) (n : Nat) (tt : Nat → Nat) : (putL l n tt).all isB = true := by
  have key : ∀ k, k ≤ l.length → (putK l tt k (List.replicate n 48)).all isB = true := by
    intro k
    induction k with
    | zero => intro _; exact rep48_bin n
    | succ k ih =>
      intro h
      have h2 := ih (by omega)
      rw [List.all_eq_true] at h2 ⊢
      intro x hx
      rw [putK] at hx
      rcases List.mem_or_eq_of_mem_set hx with h3 | h3
      · exact h2 x h3
      · rw [h3]; exact getD_bin hl (by omega)
  exact key _ (Nat.le_refl _)
theorem putL_len (l : List UInt8) (n : Nat) (tt : Nat → Nat) : (putL l n tt).length = n := by rw [putL, putK_len, List.length_replicate]
theorem takeL_bin {l : List UInt8} (hl : l.all isB = true) (tt : Nat → Nat) (n : Nat) (h : ∀ j, j < n → tt j < l.length) : (takeL l tt n).all isB = true := by
  rw [List.all_eq_true]
  intro x hx
  simp only [takeL, List.mem_map, List.mem_range] at hx
  obtain ⟨j, hj, rfl⟩ := hx
  exact getD_bin hl (h j hj)
/-- A letter that comes back. -/
theorem back_get {W : List UInt8} {R n : Nat} (hn : 1 ≤ n) (hR : 1 ≤ R) (hW : W.length = n * R) (i B t : Nat) {p : Nat} (hp : p < W.length) :
    (takeL (flF (putL W W.length (posn n R)) i B t) (posn n R) W.length).getD p 0 = if i ≤ posn n R p ∧ posn n R p < i + t ∧ B.testBit (posn n R p - i) = true then W.getD p 0 ^^^ 1 else W.getD p 0 := by
  have hq : posn n R p < W.length := posn_le n R p W.length hn hW hp
  have hinj : ∀ a, a < W.length → ∀ b, b < W.length → posn n R a = posn n R b → a = b := fun a ha b hb h => by
    rw [← posn_inv n R a hn hR (by omega), ← posn_inv n R b hn hR (by omega), h]
  have hput := putK_get W (posn n R) W.length hinj (List.replicate W.length 48) (fun a ha => by rw [List.length_replicate]; exact posn_le n R a W.length hn hW ha) W.length (Nat.le_refl _) p hp
  have hT : (putL W W.length (posn n R))[posn n R p]? = some (W.getD p 0) := hput
  have h1 : (takeL (flF (putL W W.length (posn n R)) i B t) (posn n R) W.length)[p]? = some ((flF (putL W W.length (posn n R)) i B t).getD (posn n R p) 0) := by
    rw [takeL, List.getElem?_map, List.getElem?_range hp]; rfl
  rw [getD_some h1]
  have h2 := flF_get (putL W W.length (posn n R)) i B t (posn n R p)
  rw [putL_len, hT, getD_some hT] at h2
  by_cases hc : i ≤ posn n R p ∧ posn n R p < i + t ∧ B.testBit (posn n R p - i) = true
  · rw [if_pos ⟨hc.1, hc.2.1, hc.2.2, hq⟩] at h2
    rw [if_pos hc, getD_some h2]
  · rw [if_neg (fun h => hc ⟨h.1, h.2.1, h.2.2.1⟩)] at h2
    rw [if_neg hc, getD_some h2]
/-- The row k of a word whose rows have n letters. -/
def rowL (W : List UInt8) (n k : Nat) : List UInt8 := (W.drop (k * n)).take n
theorem rowL_get {W : List UInt8} {n k j : Nat} (hj : j < n) : (rowL W n k).getD j 0 = W.getD (k * n + j) 0 := by
  rw [rowL, List.getD_eq_getElem?_getD, List.getD_eq_getElem?_getD, List.getElem?_take, if_pos hj, List.getElem?_drop]
theorem rowL_len {W : List UInt8} {n k R : Nat} (hW : W.length = n * R) (hk : k < R) : (rowL W n k).length = n := by
  have h : (k + 1) * n ≤ R * n := Nat.mul_le_mul_right n hk
  rw [Nat.add_mul, Nat.one_mul, Nat.mul_comm R n] at h
  rw [rowL, List.length_take, List.length_drop]; omega
theorem posn_row {n R k j : Nat} (hj : j < n) : posn n R (k * n + j) = j * R + k := by
  rw [posn, Nat.mul_comm k n, Nat.mul_add_mod, Nat.mod_eq_of_lt hj, Nat.mul_add_div (by omega), Nat.div_eq_of_lt hj, Nat.add_zero]
theorem ext_getD {l m : List UInt8} (h : l.length = m.length) (h2 : ∀ j, j < l.length → l.getD j 0 = m.getD j 0) : l = m := by
  apply List.ext_getElem h
  intro j h3 h4
  have h5 := h2 j h3
  rw [List.getD_eq_getElem?_getD, List.getD_eq_getElem?_getD, List.getElem?_eq_getElem h3, List.getElem?_eq_getElem h4] at h5
  exact h5
theorem getD_set {l : List UInt8} {i j : Nat} {z : UInt8} : (l.set i z).getD j 0 = if i = j ∧ i < l.length then z else l.getD j 0 := by
  rw [List.getD_eq_getElem?_getD, List.getElem?_set]
  by_cases h : i = j
  · subst h
    by_cases h2 : i < l.length
    · rw [if_pos rfl, if_pos h2, if_pos ⟨rfl, h2⟩]; rfl
    · rw [if_pos rfl, if_neg h2, if_neg (fun h => h2 h.2), List.getD_eq_getElem?_getD, List.getElem?_eq_none (by omega)]
  · rw [if_neg h, if_neg (fun h' => h h'.1), List.getD_eq_getElem?_getD]
/-- In a row at most one letter is changed. -/
theorem row_cases {W : List UInt8} {R n k : Nat} (hn : 1 ≤ n) (hR : 1 ≤ R) (hW : W.length = n * R) (hk : k < R) (i B t : Nat) (ht : t ≤ R) :
    rowL (takeL (flF (putL W W.length (posn n R)) i B t) (posn n R) W.length) n k = rowL W n k ∨
    ∃ j, j < n ∧ rowL (takeL (flF (putL W W.length (posn n R)) i B t) (posn n R) W.length) n k = (rowL W n k).set j ((rowL W n k).getD j 0 ^^^ 1) := by
  have hkn : ∀ j, j < n → k * n + j < W.length := fun j hj => by
    have h : (k + 1) * n ≤ R * n := Nat.mul_le_mul_right n hk
    rw [Nat.add_mul, Nat.one_mul, Nat.mul_comm R n] at h
    omega
  have hl1 := rowL_len hW hk
  have hl2 : (rowL (takeL (flF (putL W W.length (posn n R)) i B t) (posn n R) W.length) n k).length = n := rowL_len (by rw [takeL_len]; exact hW) hk
  have hget : ∀ j, j < n → (rowL (takeL (flF (putL W W.length (posn n R)) i B t) (posn n R) W.length) n k).getD j 0 = if i ≤ j * R + k ∧ j * R + k < i + t ∧ B.testBit (j * R + k - i) = true then (rowL W n k).getD j 0 ^^^ 1 else (rowL W n k).getD j 0 := fun j hj => by
    rw [rowL_get hj, rowL_get hj, back_get hn hR hW i B t (hkn j hj), posn_row hj]
  by_cases h : ∃ j, j < n ∧ i ≤ j * R + k ∧ j * R + k < i + t ∧ B.testBit (j * R + k - i) = true
  · obtain ⟨j0, hj0, hc⟩ := h
    refine .inr ⟨j0, hj0, ext_getD (by rw [List.length_set, hl1, hl2]) fun j hj => ?_⟩
    rw [hl2] at hj
    rw [hget j hj, getD_set, hl1]
    by_cases hjj : j0 = j
    · subst hjj
      rw [if_pos hc, if_pos ⟨rfl, hj0⟩]
    · have hnc : ¬ (i ≤ j * R + k ∧ j * R + k < i + t ∧ B.testBit (j * R + k - i) = true) := by
        intro hc2
        rcases Nat.lt_or_gt_of_ne hjj with h5 | h5
        · have : (j0 + 1) * R ≤ j * R := Nat.mul_le_mul_right R h5
          rw [Nat.add_mul, Nat.one_mul] at this
          omega
        · have : (j + 1) * R ≤ j0 * R := Nat.mul_le_mul_right R h5
          rw [Nat.add_mul, Nat.one_mul] at this
          omega
      rw [if_neg hnc, if_neg (fun h => hjj h.1)]
  · refine .inl (ext_getD (by rw [hl1, hl2]) fun j hj => ?_)
    rw [hl2] at hj
    rw [hget j hj, if_neg (fun hc => h ⟨j, hj, hc⟩)]
/-- The number of letters that are different, up to the m-th. -/
def dfc (x y : List UInt8) : Nat → Nat
  | 0 => 0
  | m + 1 => dfc x y m + if x.getD m 0 = y.getD m 0 then 0 else 1
theorem dfc_self (x : List UInt8) : ∀ m, dfc x x m = 0
  | 0 => rfl
  | m + 1 => by rw [dfc, dfc_self x m, if_pos rfl]
theorem dfc_le (x y : List UInt8) : ∀ m, dfc x y m ≤ m
  | 0 => Nat.le_refl _
  | m + 1 => by have := dfc_le x y m; rw [dfc]; split <;> omega
theorem flip_ne (c : UInt8) : c ≠ c ^^^ 1 := by
  intro h
  have h2 : c ^^^ c = c ^^^ (c ^^^ 1) := congrArg (c ^^^ ·) h
  rw [← UInt8.xor_assoc, UInt8.xor_self, UInt8.zero_xor] at h2
  exact absurd h2 (by decide)
theorem dfc_set (x : List UInt8) {j : Nat} (hj : j < x.length) : ∀ m, dfc x (x.set j (x.getD j 0 ^^^ 1)) m = if j < m then 1 else 0
  | 0 => by rw [dfc, if_neg (by omega)]
  | m + 1 => by
    rw [dfc, dfc_set x hj m]
    by_cases h : j = m
    · subst h
      have e : (x.set j (x.getD j 0 ^^^ 1)).getD j 0 = x.getD j 0 ^^^ 1 := by rw [getD_set, if_pos ⟨rfl, hj⟩]
      rw [e, if_neg (flip_ne _), if_neg (show ¬ j < j by omega), if_pos (show j < j + 1 by omega)]
    · have e : (x.set j (x.getD j 0 ^^^ 1)).getD m 0 = x.getD m 0 := by rw [getD_set, if_neg (fun h' => h h'.1)]
      rw [e, if_pos rfl]
      by_cases h2 : j < m
      · rw [if_pos h2, if_pos (show j < m + 1 by omega)]
      · rw [if_neg h2, if_neg (show ¬ j < m + 1 by omega)]
theorem vl_flip {l : List UInt8} (hb : l.all isB = true) {j : Nat} (hj : j < l.length) : vl (l.set j (l.getD j 0 ^^^ 1)) = vl l ^^^ 2 ^ (l.length - 1 - j) := by
  have e : l.getD j 0 = l[j] := by rw [List.getD_eq_getElem?_getD, List.getElem?_eq_getElem hj]; rfl
  rcases isB_or (all_get hb j hj) with h | h
  · rw [e, h, show (48 : UInt8) ^^^ 1 = 49 by decide]
    exact vl_set (by rw [List.getElem?_eq_getElem hj, h])
  · rw [e, h, show (49 : UInt8) ^^^ 1 = 48 by decide]
    have h2 : (l.set j 48)[j]? = some 48 := by rw [List.getElem?_set, if_pos rfl, if_pos hj]
    have h3 := vl_set h2
    rw [List.set_set, List.length_set, show l.set j 49 = l by rw [← h]; exact List.set_getElem_self hj] at h3
    rw [h3, Nat.xor_assoc, Nat.xor_self, Nat.xor_zero]
/-- A row with one changed letter is found out. -/
theorem one_found {g x : List UInt8} (hg : Gen g) (hx : vfB g x = true) (hs : x.length ≤ 60000) (hxb : x.all isB = true) {j : Nat} (hj : j < x.length) : vfB g (x.set j (x.getD j 0 ^^^ 1)) = false := by
  obtain ⟨h1, h2⟩ := (vf_dv hg (by omega) hxb).1 hx
  have hb : (x.set j (x.getD j 0 ^^^ 1)).all isB = true := by
    rw [List.all_eq_true] at hxb ⊢
    intro z hz
    rcases List.mem_or_eq_of_mem_set hz with h3 | h3
    · exact hxb z h3
    · rw [h3]; exact flip_bin (getD_bin (List.all_eq_true.2 hxb) hj)
  rw [Bool.eq_false_iff]
  intro h
  have h3 := ((vf_dv hg (by rw [List.length_set]; omega) hb).1 h).2
  rw [vl_flip hxb hj, dv_iff _ h2] at h3
  have h4 := (dv_pow hg.odd 1 (x.length - 1 - j)).1 (by rw [Nat.mul_one]; exact h3)
  have hlo := hg.lo
  have h5 : 1 < 2 ^ deg g := by
    have : 2 ^ 1 ≤ 2 ^ deg g := Nat.pow_le_pow_right (by omega) (by unfold deg; omega)
    omega
  exact absurd (dv_small hg.rng.1 hg.rng.2 h5 h4) (by decide)
/-- What the law says of a row. -/
theorem row_law {g x y : List UInt8} (hg : Gen g) (hx : vfB g x = true) (hs : x.length ≤ 60000) (hxb : x.all isB = true)
    (h : y = x ∨ ∃ j, j < x.length ∧ y = x.set j (x.getD j 0 ^^^ 1)) : dfc x y x.length ≤ 1 ∧ vfB g y = decide (dfc x y x.length = 0) ∧ y.all isB = true ∧ y.length = x.length := by
  rcases h with rfl | ⟨j, hj, rfl⟩
  · rw [dfc_self, hx]; exact ⟨by omega, rfl, hxb, rfl⟩
  · rw [dfc_set x hj, if_pos hj, one_found hg hx hs hxb hj]
    refine ⟨by omega, rfl, ?_, by rw [List.length_set]⟩
    rw [List.all_eq_true] at hxb ⊢
    intro z hz
    rcases List.mem_or_eq_of_mem_set hz with h3 | h3
    · exact hxb z h3
    · rw [h3]; exact flip_bin (getD_bin (List.all_eq_true.2 hxb) hj)
end Go.Proofs.Ytdogepiddjoemaa
