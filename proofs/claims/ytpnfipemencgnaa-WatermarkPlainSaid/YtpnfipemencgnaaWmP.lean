/-
  Plain laws of the least costs: symmetric, 0 for equal words alone, a metric, at least twice the difference of the lengths.
-/
import Derived.Test.YtpnfipemencgnaaWmB
namespace Go.Proofs.Ytpnfipemencgnaa

theorem dif_comm (a b : UInt8) : dif a b = dif b a := by unfold dif; simp only [eq_comm]
theorem dif_tri (a b c : UInt8) : dif a b ≤ dif a c + dif c b := by
  unfold dif; split
  · omega
  · rename_i h; split
    · rename_i h2; subst h2; rw [if_neg h]; omega
    · omega
theorem dif_zero (a b : UInt8) : dif a b = 0 ↔ a = b := by unfold dif; split <;> simp [*]
theorem wc_comm : ∀ m r, wc m r = wc r m
  | [], r => by simp [wc_nil, wc]
  | a :: m, [] => by simp [wc]
  | a :: m, b :: r => by
    rw [wc, wc, wc_comm m (b :: r), wc_comm (a :: m) r, wc_comm m r, dif_comm a b]
    omega
theorem wc_del (a : UInt8) (m r : List UInt8) : wc (a :: m) r ≤ 2 + wc m r := by
  cases r with
  | nil => simp [wc_nil]; omega
  | cons b r => rw [wc]; omega
theorem wc_ins (b : UInt8) (m r : List UInt8) : wc m (b :: r) ≤ 2 + wc m r := by
  rw [wc_comm, wc_comm m r]; exact wc_del b r m
theorem wc_sub (a b : UInt8) (m r : List UInt8) : wc (a :: m) (b :: r) ≤ dif a b + wc m r := by rw [wc]; omega
theorem wc_len : ∀ m r, 2 * m.length ≤ 2 * r.length + wc m r
  | [], r => by simp
  | a :: m, [] => by simp [wc]
  | a :: m, b :: r => by
    have h1 := wc_len m (b :: r)
    have h2 := wc_len (a :: m) r
    have h3 := wc_len m r
    rw [wc]; simp only [List.length_cons] at *; omega
theorem wc_len' (m r : List UInt8) : 2 * r.length ≤ 2 * m.length + wc m r := by rw [wc_comm]; exact wc_len r m
theorem wc_self : ∀ m, wc m m = 0
  | [] => by simp [wc]
  | a :: m => by have := wc_sub a a m m; rw [wc_self m, (dif_zero a a).2 rfl] at this; omega
theorem wc_zero : ∀ m r, wc m r = 0 → m = r
  | [], r => by cases r <;> simp [wc]
  | a :: m, [] => by simp [wc]
  | a :: m, b :: r => by
    intro h
    rw [wc] at h
    have h1 : dif a b = 0 := by omega
    have h2 : wc m r = 0 := by omega
    rw [(dif_zero a b).1 h1, wc_zero m r h2]
theorem wc_cases (a b : UInt8) (m r : List UInt8) : wc (a :: m) (b :: r) = 2 + wc m (b :: r) ∨ wc (a :: m) (b :: r) = 2 + wc (a :: m) r ∨ wc (a :: m) (b :: r) = dif a b + wc m r := by
  rw [wc]; omega
theorem wc_tri : ∀ (n : Nat) (u w v : List UInt8), u.length + w.length + v.length ≤ n → wc u v ≤ wc u w + wc w v
  | n, u, [], v, _ => by have := wc_le u v; rw [wc_nil, wc]; omega
  | n, [], c :: w, v, _ => by have := wc_len' (c :: w) v; simp only [wc, List.length_cons] at *; omega
  | n, a :: u, c :: w, [], _ => by have := wc_len (a :: u) (c :: w); simp only [wc_nil, List.length_cons] at *; omega
  | 0, a :: u, c :: w, b :: v, h => by simp at h
  | n + 1, a :: u, c :: w, b :: v, h => by
    simp only [List.length_cons] at h
    have t1 := wc_tri n u (c :: w) (b :: v) (by simp only [List.length_cons]; omega)
    have t2 := wc_tri n (a :: u) w (b :: v) (by simp only [List.length_cons]; omega)
    have t3 := wc_tri n (a :: u) (c :: w) v (by simp only [List.length_cons]; omega)
    have t4 := wc_tri n (a :: u) w v (by simp only [List.length_cons]; omega)
    have t5 := wc_tri n u w (b :: v) (by simp only [List.length_cons]; omega)
    have t6 := wc_tri n u w v (by omega)
    have d1 := wc_del a u (b :: v)
    have d2 := wc_ins b (a :: u) v
    have d3 := wc_sub a b u v
    have d4 := dif_tri a b c
    rcases wc_cases a c u w with h1 | h1 | h1 <;> rcases wc_cases c b w v with h2 | h2 | h2 <;> omega
end Go.Proofs.Ytpnfipemencgnaa
