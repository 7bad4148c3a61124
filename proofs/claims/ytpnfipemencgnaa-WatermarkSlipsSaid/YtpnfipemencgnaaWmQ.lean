/-
  Plain laws of slips: a letter lost, put in, or changed.
-/
import Derived.Test.YtpnfipemencgnaaWmP
import Derived.Test.YtpnfipemencgnaaPl
namespace Go.Proofs.Ytpnfipemencgnaa

theorem wc_app : ∀ (a m r : List UInt8), wc (a ++ m) (a ++ r) ≤ wc m r
  | [], m, r => Nat.le_refl _
  | c :: a, m, r => by
    have h1 := wc_sub c c (a ++ m) (a ++ r)
    have h2 := wc_app a m r
    rw [(dif_zero c c).2 rfl] at h1
    simp only [List.cons_append]; omega
theorem wc_lost (m : List UInt8) (i : Nat) (hi : i < m.length) : wc m (m.take i ++ m.drop (i + 1)) = 2 := by
  have h0 : m = m.take i ++ m[i] :: m.drop (i + 1) := by
    rw [← List.drop_eq_getElem_cons hi, List.take_append_drop]
  have h1 : wc m (m.take i ++ m.drop (i + 1)) ≤ 2 := by
    have h2 := wc_app (m.take i) (m[i] :: m.drop (i + 1)) (m.drop (i + 1))
    have h3 := wc_del m[i] (m.drop (i + 1)) (m.drop (i + 1))
    rw [wc_self] at h3
    rw [← h0] at h2
    omega
  have h2 := wc_len m (m.take i ++ m.drop (i + 1))
  simp only [List.length_append, List.length_take, List.length_drop] at h2
  omega
theorem wc_put (m : List UInt8) (i : Nat) (c : UInt8) (_hi : i ≤ m.length) : wc m (m.take i ++ c :: m.drop i) = 2 := by
  have h1 : wc m (m.take i ++ c :: m.drop i) ≤ 2 := by
    have h2 := wc_app (m.take i) (m.drop i) (c :: m.drop i)
    have h3 := wc_ins c (m.drop i) (m.drop i)
    rw [wc_self] at h3
    rw [List.take_append_drop] at h2
    omega
  have h2 := wc_len' m (m.take i ++ c :: m.drop i)
  simp only [List.length_append, List.length_take, List.length_cons, List.length_drop] at h2
  omega
/-- How many letters are different. -/
def ham : List UInt8 → List UInt8 → Nat
  | a :: m, b :: r => dif a b + ham m r
  | _, _ => 0
theorem wc_ham : ∀ (m r : List UInt8), m.length = r.length → wc m r ≤ ham m r
  | [], [], _ => by simp [wc, ham]
  | [], _ :: _, h => by simp at h
  | _ :: _, [], h => by simp at h
  | a :: m, b :: r, h => by
    have h1 := wc_sub a b m r
    have h2 := wc_ham m r (by simpa using h)
    rw [ham]; omega
theorem ham_set : ∀ (m r : List UInt8) (i : Nat) (c : UInt8), ham m (r.set i c) ≤ ham m r + 1
  | [], r, i, c => by simp [ham]
  | a :: m, [], i, c => by simp [ham]
  | a :: m, b :: r, 0, c => by have := dif_le a c; simp only [List.set, ham]; omega
  | a :: m, b :: r, i + 1, c => by have := ham_set m r i c; simp only [List.set, ham]; omega
theorem ham_self : ∀ m, ham m m = 0
  | [] => rfl
  | a :: m => by rw [ham, (dif_zero a a).2 rfl, ham_self m]
def flipB (n : Nat) (l : List UInt8) (p : Nat) : List UInt8 := l.set (p % n) ((l.getD (p % n) 0) ^^^ 1)
def flips (m : List UInt8) (ps : List Nat) : List UInt8 := ps.foldl (flipB m.length) m
theorem flips_snoc (m : List UInt8) (ps : List Nat) (p : Nat) : flips m (ps ++ [p]) = flipB m.length (flips m ps) p := by simp [flips]
theorem foldl_flip_len (n : Nat) : ∀ (ps : List Nat) (l : List UInt8), (ps.foldl (flipB n) l).length = l.length
  | [], _ => rfl
  | p :: ps, l => by rw [List.foldl_cons, foldl_flip_len n ps, flipB, List.length_set]
theorem flips_len (m : List UInt8) (ps : List Nat) : (flips m ps).length = m.length := foldl_flip_len _ _ _
theorem ham_foldl (n : Nat) (m : List UInt8) : ∀ (ps : List Nat) (l : List UInt8), ham m (ps.foldl (flipB n) l) ≤ ham m l + ps.length
  | [], l => by simp
  | p :: ps, l => by
    have h1 := ham_foldl n m ps (flipB n l p)
    have h2 := ham_set m l (p % n) ((l.getD (p % n) 0) ^^^ 1)
    rw [List.foldl_cons, List.length_cons]
    unfold flipB at h1 ⊢
    omega
theorem wc_flips (m : List UInt8) (ps : List Nat) : wc m (flips m ps) ≤ ps.length := by
  have h1 := wc_ham m (flips m ps) (flips_len m ps).symm
  have h2 := ham_foldl m.length m ps m
  rw [ham_self] at h2
  unfold flips at h1 ⊢
  omega
theorem isB_xor (c : UInt8) (h : isB c = true) : isB (c ^^^ 1) = true := by
  simp only [isB, Bool.or_eq_true, beq_iff_eq] at h
  rcases h with rfl | rfl <;> decide
theorem all_set (p : UInt8 → Bool) : ∀ (l : List UInt8) (i : Nat) (c : UInt8), l.all p = true → p c = true → (l.set i c).all p = true := by
  intro l i c h1 h2
  rw [List.all_eq_true] at h1 ⊢
  intro x hx
  rcases List.mem_or_eq_of_mem_set hx with h | rfl
  · exact h1 x h
  · exact h2
theorem all_foldl (n : Nat) : ∀ (ps : List Nat) (l : List UInt8), l.length = n → 0 < n → l.all isB = true → (ps.foldl (flipB n) l).all isB = true
  | [], l, _, _, h => h
  | p :: ps, l, hl, hn, h => by
    refine all_foldl n ps (flipB n l p) (by rw [flipB, List.length_set, hl]) hn (all_set isB l _ _ h (isB_xor _ ?_))
    have hp : p % n < l.length := by rw [hl]; exact Nat.mod_lt _ hn
    rw [List.getD_eq_getElem?_getD, List.getElem?_eq_getElem hp]
    rw [List.all_eq_true] at h
    exact h _ (List.getElem_mem hp)
theorem all_flips (m : List UInt8) (ps : List Nat) (h0 : 0 < m.length) (h : m.all isB = true) : (flips m ps).all isB = true := all_foldl m.length ps m rfl h0 h
end Go.Proofs.Ytpnfipemencgnaa
