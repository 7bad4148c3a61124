/-
  Plain laws on the order of interleaving, for words of up to 60 letters: reckoned by the kernel.
-/
import Derived.Test.YtgjlhjklcgladaaIlvH
namespace Go.Proofs.Ytgjlhjklcgladaa
open Go.RowKit

def atK (P : Nat → Nat) (n : Nat) : Nat → List Nat
  | 0 => List.range n
  | k + 1 => (atK P n k).map P
theorem atK_len (P : Nat → Nat) (n k : Nat) : (atK P n k).length = n := by
  induction k with
  | zero => simp [atK]
  | succ k ih => simp [atK, ih]
def same (n : Nat) (l : List Nat) : Bool := (List.range n).all fun j => l.getD j 0 == j
/-- From round k on: the letters are back just before round N. -/
def okFrom (P : Nat → Nat) (n N : Nat) : Nat → Nat → List Nat → Bool
  | 0, _, _ => true
  | f + 1, k, l => (same n (l.map P) == decide (k + 1 = N)) && okFrom P n N f (k + 1) (l.map P)
def ordOk (to : Nat → Nat) (n : Nat) : Nat → Nat → Nat → Nat → Nat → Bool
  | 0, _, _, ord, N => ord == N
  | f + 1, i, met, ord, N => decide (1 ≤ ord) && decide (ord ≤ 1000000) && (match cyc to (n + 1) met i 0 with
    | (m, s) => ordOk to n f (i + 1) m (if 0 < s then ord * (s / Nat.gcd ord s) else ord) N)
def chkOne (r n : Nat) : Bool := n % r != 0 || (List.range (n + 1)).any fun N => decide (1 ≤ N) && (decide (N ≤ n) && (ordOk (posn (n / r) r) n n 0 0 1 N && okFrom (posn (n / r) r) n N N 0 (List.range n)))

theorem ordOk_get (to : Nat → Nat) (n N : Nat) : ∀ f i, ordOk to n f i (ordK to n i).1 (ordK to n i).2 N = true → 1 ≤ N → N ≤ 1000000 → (ordK to n (i + f)).2 = N ∧ ∀ j, i ≤ j → j ≤ i + f → 1 ≤ (ordK to n j).2 ∧ (ordK to n j).2 ≤ 1000000
  | 0, i, h, h1, h2 => by
    simp only [ordOk, beq_iff_eq] at h
    refine ⟨h, fun j hj hj2 => ?_⟩
    obtain rfl : j = i := by omega
    rw [h]; exact ⟨h1, h2⟩
  | f + 1, i, h, h1, h2 => by
    simp only [ordOk, Bool.and_eq_true, decide_eq_true_eq] at h
    obtain ⟨⟨ha, hb⟩, hc⟩ := h
    have hs := ordK_succ to n i
    have ih := ordOk_get to n N f (i + 1) (by rw [hs]; exact hc) h1 h2
    rw [show i + 1 + f = i + (f + 1) by omega] at ih
    refine ⟨ih.1, fun j hj hj2 => ?_⟩
    by_cases hji : j = i
    · subst hji; exact ⟨ha, hb⟩
    · exact ih.2 j (by omega) hj2

theorem okFrom_get (P : Nat → Nat) (n N : Nat) : ∀ f k, okFrom P n N f k (atK P n k) = true → ∀ j, k ≤ j → j < k + f → same n (atK P n (j + 1)) = decide (j + 1 = N)
  | 0, k, _, j, hj, hj2 => by omega
  | f + 1, k, h, j, hj, hj2 => by
    simp only [okFrom, Bool.and_eq_true, beq_iff_eq] at h
    by_cases hjk : j = k
    · subst hjk; exact h.1
    · exact okFrom_get P n N f (k + 1) h.2 j (by omega) (by omega)

theorem chk_all : (List.range 61).all (fun n => (List.range 13).all fun r => r == 0 || n == 0 || chkOne r n) = true := by decide +kernel

theorem ord_facts (r n : Nat) (hr : 1 ≤ r) (hr2 : r ≤ 12) (hn : 1 ≤ n) (hn2 : n ≤ 60) (hd : n % r = 0) :
    1 ≤ ordR r n ∧ ordR r n ≤ n ∧ (∀ j, j ≤ n → 1 ≤ (ordK (posn (n / r) r) n j).2 ∧ (ordK (posn (n / r) r) n j).2 ≤ 1000000) ∧
      ∀ j, j < ordR r n → same n (atK (posn (n / r) r) n (j + 1)) = decide (j + 1 = ordR r n) := by
  have h := chk_all
  rw [List.all_eq_true] at h
  have h2 := h n (List.mem_range.2 (by omega))
  rw [List.all_eq_true] at h2
  have h3 := h2 r (List.mem_range.2 (by omega))
  have e1 : (r == 0) = false := by rw [beq_eq_false_iff_ne]; omega
  have e2 : (n == 0) = false := by rw [beq_eq_false_iff_ne]; omega
  rw [e1, e2, Bool.false_or, Bool.false_or] at h3
  unfold chkOne at h3
  have e3 : (n % r != 0) = false := by rw [bne_eq_false_iff_eq]; exact hd
  rw [e3, Bool.false_or, List.any_eq_true] at h3
  obtain ⟨N, hN, h4⟩ := h3
  simp only [Bool.and_eq_true, decide_eq_true_eq] at h4
  obtain ⟨a1, a2, a3, a4⟩ := h4
  have o := ordOk_get (posn (n / r) r) n N n 0 a3 a1 (by omega)
  rw [Nat.zero_add] at o
  have hR : ordR r n = N := o.1
  rw [hR]
  refine ⟨a1, a2, fun j hj => o.2 j (Nat.zero_le _) hj, fun j hj => ?_⟩
  exact okFrom_get _ _ _ N 0 a4 j (Nat.zero_le _) (by omega)

/-- The word after k times. -/
def xK (rows : Int) (l : List UInt8) : Nat → List UInt8
  | 0 => l
  | k + 1 => blkS rows (xK rows l k)
theorem xK_ok (rows : Int) (l : List UInt8) (hc : chk 16 l = 0) (hl : 1 ≤ l.length) (h1 : 1 ≤ rows) (h2 : rows ≤ 65536) (hm : (l.length : Int) % rows = 0) :
    ∀ k, chk 16 (xK rows l k) = 0 ∧ ckBlock rows (xK rows l k) = 0 ∧ (xK rows l k).length = l.length
  | 0 => ⟨hc, ckBlock_mk hc h1 h2 hm, rfl⟩
  | k + 1 => by
    obtain ⟨i1, i2, i3⟩ := xK_ok rows l hc hl h1 h2 hm k
    obtain ⟨k1, n1, k2, -⟩ := inv_all rows (xK rows l k) i1 (by omega) h1 h2 (by rw [i3]; exact hm)
    have := ckBlock_ok k2
    exact ⟨this.1, k2, by rw [xK, n1, i3]⟩
theorem xK_letters (rows : Int) (l : List UInt8) (hc : chk 16 l = 0) (hl : 1 ≤ l.length) (h1 : 1 ≤ rows) (h2 : rows ≤ 65536) (hm : (l.length : Int) % rows = 0) (P : Nat → Nat)
    (hP : P = posn (l.length / rows.toNat) rows.toNat) :
    ∀ k i, i < l.length → ∃ v, (atK P l.length k)[i]? = some v ∧ v < l.length ∧ (xK rows l k)[v]? = l[i]?
  | 0, i, hi => ⟨i, by simp [atK, hi], hi, rfl⟩
  | k + 1, i, hi => by
    obtain ⟨v, v1, v2, v3⟩ := xK_letters rows l hc hl h1 h2 hm P hP k i hi
    obtain ⟨i1, i2, i3⟩ := xK_ok rows l hc hl h1 h2 hm k
    have hp := places_mk rows (xK rows l k) i2 (by omega)
    rw [i3, ← hP] at hp
    refine ⟨P v, by simp [atK, v1], by have := hp.lt v (by omega); omega, ?_⟩
    rw [← v3, ← hp.letter v (by omega)]; rfl
theorem same_iff (n : Nat) (l : List Nat) (h : same n l = true) (hl : l.length = n) : l = List.range n := by
  unfold same at h
  rw [List.all_eq_true] at h
  apply List.ext_getElem?
  intro i
  by_cases hi : i < n
  · have := h i (List.mem_range.2 hi)
    rw [beq_iff_eq, List.getD_eq_getElem?_getD, List.getElem?_eq_getElem (by omega)] at this
    rw [List.getElem?_eq_getElem (by omega), List.getElem?_range hi]
    simpa using this
  · rw [List.getElem?_eq_none (by omega), List.getElem?_eq_none (by simp; omega)]
theorem xK_back (rows : Int) (l : List UInt8) (hc : chk 16 l = 0) (hl : 1 ≤ l.length) (h1 : 1 ≤ rows) (h2 : rows ≤ 65536) (hm : (l.length : Int) % rows = 0) (P : Nat → Nat)
    (hP : P = posn (l.length / rows.toNat) rows.toNat) (k : Nat) (hb : same l.length (atK P l.length k) = true) : xK rows l k = l := by
  have he := same_iff _ _ hb (atK_len _ _ _)
  apply List.ext_getElem?
  intro i
  by_cases hi : i < l.length
  · obtain ⟨v, v1, v2, v3⟩ := xK_letters rows l hc hl h1 h2 hm P hP k i hi
    rw [he, List.getElem?_range hi] at v1
    obtain rfl : i = v := Option.some.inj v1
    exact v3
  · have := (xK_ok rows l hc hl h1 h2 hm k).2.2
    rw [List.getElem?_eq_none (by omega), List.getElem?_eq_none (by omega)]

/-- The numbers in the midst of a round: the first i are those of the next one. -/
def midK (P : Nat → Nat) (n k i : Nat) : List Nat := (atK P n (k + 1)).take i ++ (atK P n k).drop i
theorem midK_len (P : Nat → Nat) (n k i : Nat) (hi : i ≤ n) : (midK P n k i).length = n := by
  simp [midK, atK_len]; omega
theorem midK_get (P : Nat → Nat) (n k i : Nat) (hi : i < n) : (midK P n k i)[i]? = (atK P n k)[i]? := by
  unfold midK
  rw [List.getElem?_append_right (by simp [atK_len]; omega)]
  have : ((atK P n (k + 1)).take i).length = i := by simp [atK_len]; omega
  rw [this, Nat.sub_self, List.getElem?_drop, Nat.add_zero]
theorem midK_set (P : Nat → Nat) (n k i v : Nat) (hi : i < n) (hv : (atK P n k)[i]? = some v) : (midK P n k i).set i (P v) = midK P n k (i + 1) := by
  have hl : ((atK P n (k + 1)).take i).length = i := by simp [atK_len]; omega
  have h1 : (atK P n (k + 1))[i]? = some (P v) := by simp [atK, hv]
  unfold midK
  rw [List.set_append, hl, if_neg (Nat.lt_irrefl _), Nat.sub_self, List.take_add_one, h1, List.drop_eq_getElem_cons (by rw [atK_len]; exact hi), List.set_cons_zero]
  simp
theorem midK_zero (P : Nat → Nat) (n k : Nat) : midK P n k 0 = atK P n k := by simp [midK]
theorem midK_all (P : Nat → Nat) (n k : Nat) : midK P n k n = atK P n (k + 1) := by
  unfold midK
  rw [List.take_of_length_le (by rw [atK_len]; omega), List.drop_eq_nil_of_le (by rw [atK_len]; omega), List.append_nil]
def backK (P : Nat → Nat) (n k i : Nat) : Bool := (List.range i).all fun j => (atK P n (k + 1)).getD j 0 == j
theorem backK_succ (P : Nat → Nat) (n k i v : Nat) (hv : (atK P n k)[i]? = some v) : backK P n k (i + 1) = (backK P n k i && (P v == i)) := by
  have h1 : (atK P n (k + 1)).getD i 0 = P v := by simp [atK, hv]
  unfold backK
  rw [List.range_succ, List.all_append]
  simp only [List.all_cons, List.all_nil, Bool.and_true, h1]
def nats (l : List Nat) : List Value := l.map fun v : Nat => .int .i64 (v : Int)
theorem nats_get (l : List Nat) (j : Nat) : (nats l)[j]? = (l[j]?).map fun v : Nat => .int .i64 (v : Int) := by simp [nats]
theorem nats_set (l : List Nat) (j v : Nat) : (nats l).set j (.int .i64 (v : Int)) = nats (l.set j v) := by simp [nats, List.map_set]
end Go.Proofs.Ytgjlhjklcgladaa
