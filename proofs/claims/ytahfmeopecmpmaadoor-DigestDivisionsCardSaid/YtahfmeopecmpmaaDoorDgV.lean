/-
  Plain laws: products.
-/
import Derived.Test.YtahfmeopecmpmaaDoorDgU
import Derived.Test.YtahfmeopecmpmaaDoorDgI
namespace Go.Proofs.YtahfmeopecmpmaaDoor
open Go.RowKit

theorem isB_or {c : UInt8} (h : isB c = true) : c = 48 ∨ c = 49 := by simpa [isB] using h
theorem flp_bin {x y : UInt8} (hx : isB x = true) (hy : isB y = true) : flp x y = if x = y then 48 else 49 := by
  rcases isB_or hx with rfl | rfl <;> rcases isB_or hy with rfl | rfl <;> rfl
theorem all_get {l : List UInt8} (h : l.all isB = true) (j : Nat) (hj : j < l.length) : isB l[j] = true := List.all_eq_true.1 h _ (List.getElem_mem hj)
theorem xk_split {l g : List UInt8} {A : Nat} (hl : l.all isB = true) (hg : g.all isB = true) (h : A + g.length ≤ l.length) :
    xk l A g g.length = l.take A ++ (xr ((l.drop A).take g.length) g ++ l.drop (A + g.length)) := by
  have e1 : (l.take A).length = A := by rw [List.length_take]; omega
  have e2 : (xr ((l.drop A).take g.length) g).length = g.length := by rw [xr_len, List.length_take, List.length_drop]; omega
  apply List.ext_getElem?
  intro j
  rw [xk_get]
  by_cases h1 : j < A
  · rw [if_neg (by omega), List.getElem?_append_left (by omega), List.getElem?_take, if_pos h1]
  · rw [List.getElem?_append_right (by omega), e1]
    by_cases h2 : j < A + g.length
    · have hj : j < l.length := by omega
      have hg' : j - A < g.length := by omega
      have ej : A + (j - A) = j := by omega
      rw [if_pos ⟨by omega, h2, hj⟩, List.getElem?_append_left (by omega), xr, List.getElem?_zipWith, List.getElem?_take, if_pos (by omega), List.getElem?_drop, ej, List.getElem?_eq_getElem hj, List.getElem?_eq_getElem hg', List.getD_eq_getElem?_getD, List.getD_eq_getElem?_getD, List.getElem?_eq_getElem hj, List.getElem?_eq_getElem hg']
      simp only [Option.getD_some]
      rw [flp_bin (all_get hl j hj) (all_get hg _ hg')]
    · rw [if_neg (by omega), List.getElem?_append_right (by omega), e2, List.getElem?_drop]
      congr 1; omega
theorem drop_bin {l : List UInt8} (n : Nat) (h : l.all isB = true) : (l.drop n).all isB = true := by
  rw [List.all_eq_true] at h ⊢
  exact fun x hx => h x (List.mem_of_mem_drop hx)
theorem xk_bin {l g : List UInt8} {A : Nat} (hl : l.all isB = true) (hg : g.all isB = true) (h : A + g.length ≤ l.length) : (xk l A g g.length).all isB = true := by
  rw [xk_split hl hg h, List.all_append, List.all_append, take_bin _ hl, xr_bin, drop_bin _ hl]; rfl
theorem vl_xk {l g : List UInt8} {A : Nat} (hl : l.all isB = true) (hg : g.all isB = true) (h : A + g.length ≤ l.length) :
    vl (xk l A g g.length) = vl l ^^^ 2 ^ (l.length - (A + g.length)) * vl g := by
  have hm : ((l.drop A).take g.length).length = g.length := by rw [List.length_take, List.length_drop]; omega
  have e : l = l.take A ++ ((l.drop A).take g.length ++ l.drop (A + g.length)) := by
    have h1 : (l.drop A).drop g.length = l.drop (A + g.length) := by rw [List.drop_drop]
    rw [← h1, List.take_append_drop, List.take_append_drop]
  rw [xk_split hl hg h]
  conv => rhs; arg 1; rw [e]
  have hr : (l.drop (A + g.length)).length = l.length - (A + g.length) := List.length_drop ..
  rw [vl_app', vl_app', vl_app', vl_app', vl_xr hm (take_bin _ (drop_bin _ hl)) hg, pow_xor]
  rw [List.length_append, List.length_append, xr_len, hm, Nat.min_self, hr]
  generalize 2 ^ (l.length - (A + g.length)) * vl ((l.drop A).take g.length) = M
  generalize 2 ^ (l.length - (A + g.length)) * vl g = Q
  generalize vl (l.drop (A + g.length)) = R
  generalize 2 ^ (g.length + (l.length - (A + g.length))) * vl (l.take A) = T
  rw [Nat.xor_assoc T, Nat.xor_assoc M Q, Nat.xor_assoc M R, Nat.xor_comm Q R]

/-! ### words without zeros in front -/
theorem vl_trm : ∀ l : List UInt8, vl (trm l) = vl l
  | [] => rfl
  | c :: l => by
    by_cases h : c = 48
    · subst h
      have e : trm (48 :: l) = trm l := by simp [trm, Lib.trimLeftB]
      rw [e, vl_trm l]; exact (vl_zeros 1 l).symm
    · have e : trm (c :: l) = c :: l := by simp [trm, Lib.trimLeftB, h]
      rw [e]
/-- Nothing, or a word that begins with 1. -/
def led (l : List UInt8) : Prop := l = [] ∨ l.getD 0 0 = 49
theorem trm_led : ∀ {l : List UInt8}, l.all isB = true → led (trm l) ∧ (trm l).all isB = true
  | [], _ => ⟨.inl rfl, rfl⟩
  | c :: l, h => by
    have h2 := h
    rw [List.all_cons, Bool.and_eq_true] at h
    by_cases h0 : c = 48
    · subst h0
      have e : trm (48 :: l) = trm l := by simp [trm, Lib.trimLeftB]
      rw [e]; exact trm_led h.2
    · have e : trm (c :: l) = c :: l := by simp [trm, Lib.trimLeftB, h0]
      rw [e]
      exact ⟨.inr (by rcases isB_or h.1 with rfl | rfl; exact absurd rfl h0; rfl), h2⟩
theorem led.rng {l : List UInt8} (h : led l) (h0 : l ≠ []) : 2 ^ (l.length - 1) ≤ vl l := by
  rcases h with h | h
  · exact absurd h h0
  · cases l with
    | nil => exact absurd rfl h0
    | cons a t =>
      have ha : a = 49 := by simpa using h
      subst ha
      have := vlF_ge t 1
      rw [Nat.one_mul] at this
      exact this
theorem led_len {l : List UInt8} (h : led l) {i : Nat} (h1 : vl l < 2 ^ (i + 1)) (h2 : 2 ^ i ≤ vl l) : l.length = i + 1 := by
  have h3 := vl_lt l
  have hp := Nat.two_pow_pos i
  have h0 : l ≠ [] := by rintro rfl; have e : vl [] = 0 := rfl; omega
  have h4 := h.rng h0
  have hl : 0 < l.length := List.length_pos_iff.2 h0
  have a1 : i < l.length := (Nat.pow_lt_pow_iff_right (a := 2) (by omega)).1 (by omega)
  have a2 : l.length - 1 < i + 1 := (Nat.pow_lt_pow_iff_right (a := 2) (by omega)).1 (by omega)
  omega
theorem led_nil {l : List UInt8} (h : led l) (h1 : vl l = 0) : l = [] := by
  by_cases h0 : l = []
  · exact h0
  · have := h.rng h0
    have hp := Nat.two_pow_pos (l.length - 1)
    omega
theorem led_inj {l m : List UInt8} (hl : led l) (hm : led m) (bl : l.all isB = true) (bm : m.all isB = true) (h : vl l = vl m) : l = m := by
  by_cases h0 : vl l = 0
  · rw [led_nil hl h0, led_nil hm (by omega)]
  · obtain ⟨i, h1, h2⟩ := rng_of h0
    exact vl_inj (by rw [led_len hl h1 h2, led_len hm (i := i) (by omega) (by omega)]) bl bm h

/-! ### products -/
theorem pk_bin {a b : List UInt8} (hb : b.all isB = true) : ∀ i, i ≤ a.length → (pk a b i).all isB = true
  | 0, _ => by rw [pk]; exact rep48_bin _
  | i + 1, h => by
    rw [pk]; split
    · exact xk_bin (pk_bin hb i (by omega)) hb (by rw [pk_len]; omega)
    · exact pk_bin hb i (by omega)
theorem vl_one (c : UInt8) : vl [c] = bt c := by simp [vl, vlF]
theorem vl_take {a : List UInt8} {i : Nat} (h : i < a.length) : vl (a.take (i + 1)) = 2 * vl (a.take i) + bt a[i] := by
  rw [List.take_add_one, List.getElem?_eq_getElem h, Option.toList_some, vl_app]
  rw [vl_one, List.length_singleton, Nat.pow_one]
theorem pow_dbl (n x : Nat) : 2 ^ n * (2 * x) = 2 ^ (n + 1) * x := by rw [Nat.pow_succ, Nat.mul_assoc]
theorem vl_pk {a b : List UInt8} (hb : b.all isB = true) : ∀ i, i ≤ a.length → vl (pk a b i) = 2 ^ (a.length - i) * cl (vl (a.take i)) (vl b)
  | 0, _ => by rw [pk, vl_rep, List.take_zero]; show 0 = _ * cl 0 _; rw [cl_zero, Nat.mul_zero]
  | i + 1, h => by
    have hi : i < a.length := by omega
    have e : a.getD i 0 = a[i] := by rw [List.getD_eq_getElem?_getD, List.getElem?_eq_getElem hi]; rfl
    have e2 : a.length - i = (a.length - (i + 1)) + 1 := by omega
    rw [pk, e, vl_take hi, cl_bit _ _ _ (bt_le _), pow_xor, pow_dbl, ← e2, ← vl_pk hb i (by omega)]
    by_cases h49 : a[i] = 49
    · rw [if_pos h49, vl_xk (pk_bin hb i (by omega)) hb (by rw [pk_len]; omega), pk_len, show a.length + b.length - (i + 1 + b.length) = a.length - (i + 1) by omega, if_pos (by rw [h49]; rfl)]
    · rw [if_neg h49, if_neg (by rw [bt, if_neg h49]; omega), Nat.mul_zero, Nat.xor_zero]
theorem pr_ok {a b : List UInt8} (h : tw a b = 0) : led (prO a b) ∧ (prO a b).all isB = true ∧ vl (prO a b) = cl (vl a) (vl b) := by
  obtain ⟨_, ha, hb⟩ := tw_ok h
  rw [prO, if_pos h]
  obtain ⟨h1, h2⟩ := trm_led (pk_bin (a := a) hb a.length (Nat.le_refl _))
  refine ⟨h1, h2, ?_⟩
  rw [vl_trm, vl_pk hb _ (Nat.le_refl _), Nat.sub_self, Nat.pow_zero, Nat.one_mul, List.take_length]
theorem tw_bin {a b : List UInt8} (ha : a.all isB = true) (hb : b.all isB = true) (h : a.length + b.length ≤ 4096) : tw a b = 0 := by
  rw [tw, if_pos ((chk2_iff a).2 ⟨by omega, ha⟩), if_pos ((chk2_iff b).2 ⟨by omega, hb⟩), if_pos h]
theorem vl_odd {l : List UInt8} (h : l.all isB = true) (h0 : l ≠ []) : l.getD (l.length - 1) 0 = 49 ↔ vl l % 2 = 1 := by
  obtain ⟨m, c, rfl⟩ : ∃ m c, l = m ++ [c] := by
    rcases List.eq_nil_or_concat l with h1 | ⟨m, c, h1⟩
    · exact absurd h1 h0
    · exact ⟨m, c, by rw [h1, List.concat_eq_append]⟩
  rw [List.all_append, Bool.and_eq_true] at h
  have hc : isB c = true := by simpa using h.2
  rw [vl_app, vl_one, List.length_append, List.length_singleton, Nat.add_sub_cancel, List.getD_eq_getElem?_getD, List.getElem?_append_right (by omega), Nat.sub_self]
  show c = 49 ↔ (2 ^ 1 * vl m + bt c) % 2 = 1
  rw [Nat.pow_one]
  rcases isB_or hc with rfl | rfl
  · have : bt 48 = 0 := rfl
    constructor
    · intro h; exact absurd h (by decide)
    · omega
  · have : bt 49 = 1 := rfl
    constructor
    · omega
    · intro _; rfl
theorem Gen.odd {g : List UInt8} (hg : Gen g) : vl g % 2 = 1 := (vl_odd hg.bin (by intro h; have := hg.lo; rw [h] at this; simp at this)).1 hg.lst
theorem odd_cl {a b : Nat} (ha : a % 2 = 1) (hb : b % 2 = 1) : cl a b % 2 = 1 := by
  have e : a = 2 * (a / 2) + 1 := by omega
  rw [e, cl_bit _ _ _ (by omega), if_pos rfl, xor_two]
  omega
theorem Gen.pr {g h : List UInt8} (hg : Gen g) (hh : Gen h) (hs : g.length + h.length ≤ 34) : (prO g h).length = g.length + h.length - 1 ∧ Gen (prO g h) ∧ vl (prO g h) = cl (vl g) (vl h) := by
  obtain ⟨h1, h2, h3⟩ := pr_ok (tw_bin hg.bin hh.bin (by omega))
  have hr1 := hg.rng
  have hr2 := hh.rng
  have hl1 := hg.lo
  have hl2 := hh.lo
  have d1 : deg g = g.length - 1 := rfl
  have d2 : deg h = h.length - 1 := rfl
  have hlen : (prO g h).length = (deg g + deg h) + 1 := by
    apply led_len h1
    · rw [h3, show deg g + deg h + 1 = (deg g + 1) + deg h by omega]; exact cl_lt hr2.1 _ _ hr1.1
    · rw [h3]; exact cl_ge hr1.1 hr1.2 hr2.1 hr2.2
  have h0 : prO g h ≠ [] := by intro h; rw [h] at hlen; simp at hlen
  refine ⟨by omega, ⟨by omega, by omega, h2, ?_, ?_⟩, h3⟩
  · rcases h1 with h1 | h1
    · exact absurd h1 h0
    · exact h1
  · rw [vl_odd h2 h0, h3]; exact odd_cl hg.odd hh.odd
end Go.Proofs.YtahfmeopecmpmaaDoor
