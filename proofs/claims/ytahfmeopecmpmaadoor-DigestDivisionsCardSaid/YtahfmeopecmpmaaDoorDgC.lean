/-
  The contracts of number and remainder.
-/
import Derived.Test.YtahfmeopecmpmaaDoorDgB
import Derived.Laws.Bits64b
namespace Go.Proofs.YtahfmeopecmpmaaDoor
open Go.RowKit Go.Shelf
attribute [local go_sem] Oper.semAt_some

theorem keeps_below {W W' : World} (h : Below W.heap.size W W') : KeepsOthers W W' := ⟨h.size, fun k _ hk _ => (h.block k (Array.getElem?_eq_some_iff.1 hk).1).trans hk⟩
theorem cell_set_other {b B : Nat} {W : World} {u : Value} (h : b ≠ B) (hu : W.cell? ⟨b, 0, none⟩ = some u) (v : Value) : (W.setCell ⟨B, 0, none⟩ v).cell? ⟨b, 0, none⟩ = some u := by
  have hk : (W.setCell ⟨B, 0, none⟩ v).heap[b]? = W.heap[b]? := by
    show (W.heap.modify B _)[b]? = _
    rw [Array.getElem?_modify, if_neg (fun e => h e.symm)]
  exact (World.cell?_of_block hk).trans hu
theorem keepC_set {b B : Nat} (h : b ≠ B) (W : World) (v : Value) : KeepC b W (W.setCell ⟨B, 0, none⟩ v) := fun u hu => by
  exact cell_set_other h hu v
def vlB (n : Nat) (l : List Bt) : Nat := l.foldl (fun n b => 2 * n + b.1) n
theorem vlB_bbs (l : List UInt8) : ∀ n, vlB n (bbs l) = vlF n l := by
  induction l with
  | nil => intro n; rfl
  | cons a l ih => intro n; exact ih (2 * n + bt a)
theorem vlB_lt : ∀ (l : List Bt) (n : Nat), vlB n l < (n + 1) * 2 ^ l.length
  | [], n => by simp [vlB]
  | b :: l, n => by
    have h := vlB_lt l (2 * n + b.1)
    have hb := b.2
    show vlB (2 * n + b.1) l < _
    rw [List.length_cons, Nat.pow_succ]
    refine Nat.lt_of_lt_of_le h ?_
    have e : (2 * n + b.1 + 1) * 2 ^ l.length ≤ (2 * (n + 1)) * 2 ^ l.length := Nat.mul_le_mul_right _ (by omega)
    have e2 : (n + 1) * (2 ^ l.length * 2) = (2 * (n + 1)) * 2 ^ l.length := by rw [Nat.mul_comm (2 ^ l.length) 2, ← Nat.mul_assoc, Nat.mul_comm (n + 1) 2]
    omega
theorem vlB_app (n : Nat) (l k : List Bt) : vlB n (l ++ k) = vlB (vlB n l) k := List.foldl_append
theorem or_bit (n b : Nat) (hb : b ≤ 1) (hn : n < 9223372036854775808) : bits .or .u64 ((n : Int) * 2) (b : Int) = ((2 * n + b : Nat) : Int) := by
  have h := bits_or_u64_nat (2 * n) b (by omega) (by omega)
  rw [show ((n : Int) * 2) = ((2 * n : Nat) : Int) by omega, h]
  have : b = 0 ∨ b = 1 := by omega
  rcases this with rfl | rfl
  · simp
  · congr 1
    have e : 2 * n = n <<< 1 := by rw [Nat.shiftLeft_eq]; omega
    have := Nat.two_pow_add_eq_or_of_lt (i := 1) (b := 1) (by omega) n
    rw [show 2 * n ||| 1 = 2 ^ 1 * n ||| 1 by simp, ← this]

set_option maxRecDepth 100000 in
set_option maxHeartbeats 4000000 in
theorem number_in (s : ByteArray) (w : World) (hs : s.size ≤ 60) (hb : s.data.toList.all isB = true) :
    Calls Tryd.prog 59 #[.string s] w fun e w' => e = .returned (.int .u64 (vl s.data.toList : Nat)) ∧ Below w.heap.size w w' := by
  refine (callsIn_wide (n := 6)).1 ?_
  refine callsIn_of_wp_marks Tryd.func59 rfl trivial ?_ rfl
  simp only [Tryd.ntmps59, List.size_toArray, List.length_cons, List.length_nil, Nat.reduceAdd, Nat.reduceSub, Array.replicate_succ, Array.replicate_zero, List.push_toArray, List.append_toArray, List.nil_append, List.cons_append]
  gi_wp2_with (refine ⟨trivial, ?_⟩; gi_at_call 62; refine ((callsIn_wide.2 (bits_any s _))).mono ?_; rintro e w1 ⟨rfl, rfl⟩)
  have hb0 : Boxed ((w.alloc (.cells #[.int .u64 0] 49)).alloc (.cells #[.string s] 9)) w.heap.size 49 (.int .u64 0) := (Boxed.new w 49 (.int .u64 0)).alloc _
  have hb1 : Boxed ((w.alloc (.cells #[.int .u64 0] 49)).alloc (.cells #[.string s] 9)) (w.heap.size + 1) 9 (.string s) := by
    have h := Boxed.new (w.alloc (.cells #[.int .u64 0] 49)) 9 (.string s)
    rwa [World.size_alloc] at h
  have hBL : Below w.heap.size w ((w.alloc (.cells #[.int .u64 0] 49)).alloc (.cells #[.string s] 9)) := ((Below.refl _ w).alloc (Nat.le_refl _) _).alloc (by simp) _
  have hzL : ((w.alloc (.cells #[.int .u64 0] 49)).alloc (.cells #[.string s] 9)).heap.size = w.heap.size + 1 + 1 := by simp
  obtain ⟨WL, hWL⟩ : ∃ WL, (w.alloc (.cells #[.int .u64 0] 49)).alloc (.cells #[.string s] 9) = WL := ⟨_, rfl⟩
  rw [hWL] at hb0 hb1 hBL hzL ⊢
  clear hWL
  refine wpIn_rangeFunc_ownG rfl (by omega) (gf := 79) (lb := #[.pointer (some ⟨w.heap.size + 1, 0, none⟩)]) rfl trivial (enters_of Tryd.func79 (by kernel_rfl) rfl)
    (bits_stops 5 (by omega) (w.heap.size + 1) s (by omega) hb WL (by omega) hb1.cell) keepC_t (fun W l o o' h1 h2 h3 h4 => keepC_b W l o o' h1 h2 h3 h4) (Below.refl _ _) (fun _ => rfl)
    (fun pre W => Boxed W w.heap.size 49 (.int .u64 (vlB 0 pre : Nat)) ∧ Below w.heap.size w W)
    (fun _ _ _ => False)
    (OwnFrom.and (Own.from (boxed_own w.heap.size 49 (fun pre => .int .u64 (vlB 0 pre : Nat))) _) (ownFrom_below (Nat.le_refl _) (by omega)))
    (fun _ _ _ _ _ hs _ _ => hs)
    ⟨hb0, hBL⟩
    (fun x => { tmps := #[.string s, undef, .int .u64 0, .pointer (some ⟨w.heap.size, 0, none⟩), .int .u64 (x.1 : Int), .string s, .func (.func 79) #[] #[.pointer (some ⟨w.heap.size + 1, 0, none⟩)], .int .u64 (x.1 : Int), undef, undef, undef, undef, undef], defers := [] }) ?assign ?body ?done ?stop
  case assign =>
    intro l x W K hK
    gi_wp2
    exact hK
  case body =>
    rintro l pre x W ⟨hv, hB⟩ hlt
    have hx2 := x.2
    have hV := vlB_lt pre 0
    have hV2 : vlB 0 pre < 2 ^ 60 := Nat.lt_of_lt_of_le hV (by rw [Nat.zero_add, Nat.one_mul]; exact Nat.pow_le_pow_right (by omega) (by omega))
    have HA := Lib.hid (vlB_app 0 pre [x])
    obtain ⟨V, hVV⟩ : ∃ V, vlB 0 pre = V := ⟨_, rfl⟩
    rw [hVV] at hv hV2 HA
    clear hVV hV
    have hor := or_bit V x.1 hx2 (by omega)
    have hc0 := hv.cell
    have hf0 := hv.frozen
    gi_wp2
    exact ⟨(KeepsOthers.setCell _ _ _).from _, keepC_set (by omega) _ _, by
      have h := hv.set (.int .u64 (2 * (V : Int) + (x.1 : Int)))
      rw [HA.out, show vlB V [x] = 2 * V + x.1 from rfl]
      rwa [show ((2 * V + x.1 : Nat) : Int) = 2 * (V : Int) + (x.1 : Int) by omega], hB.setCell (p := ⟨w.heap.size, 0, none⟩) (Nat.le_refl _) _⟩
  case done =>
    rintro D ys W hD rfl ⟨hv, hB⟩ hK
    have c0 := hv.cell
    have hVL : vlB 0 (bbs s.data.toList) = vl s.data.toList := vlB_bbs _ 0
    rw [hVL] at c0 hv
    gi_wp2
    refine ⟨by simp, .inl ⟨_, _, rfl, run_takeDeferred hK, ?_⟩⟩
    refine ⟨.int .u64 (vl s.data.toList : Nat), ?_, rfl, hB.trans (belowK_b (w := w) (Nat.le_refl _) _ D _ _ (by omega) hK rfl rfl)⟩
    simp [results, Tryd.f59, go_sem]
  case stop =>
    rintro D c pre W _ _ h _
    exact h.elim

/-! ### the remainder -/
def st1 (k G r : Nat) : Nat := if r.testBit k then r ^^^ G else r
def rmB (k G n : Nat) (l : List Bt) : Nat := l.foldl (fun r b => st1 k G (2 * r + b.1)) n
def rmF (k G n : Nat) (l : List UInt8) : Nat := l.foldl (fun r c => st1 k G (2 * r + bt c)) n
def rm (k G : Nat) (l : List UInt8) : Nat := rmF k G 0 l
theorem rmB_bbs (k G : Nat) (l : List UInt8) : ∀ n, rmB k G n (bbs l) = rmF k G n l := by
  induction l with
  | nil => intro n; rfl
  | cons a l ih => intro n; exact ih (st1 k G (2 * n + bt a))
theorem rmB_app (k G n : Nat) (l m : List Bt) : rmB k G n (l ++ m) = rmB k G (rmB k G n l) m := List.foldl_append
theorem testBit_ge {r k : Nat} (h : r < 2 ^ (k + 1)) : r.testBit k = decide (2 ^ k ≤ r) := by
  by_cases hk : 2 ^ k ≤ r
  · rw [decide_eq_true hk, Nat.testBit_eq_decide_div_mod_eq]
    rw [Nat.pow_succ] at h
    have : r / 2 ^ k = 1 := by
      rw [Nat.div_eq_iff (Nat.two_pow_pos k)]; omega
    rw [this]; rfl
  · rw [decide_eq_false hk]; exact Nat.testBit_lt_two_pow (by omega)
theorem st1_lt {k G r : Nat} (hG : G < 2 ^ (k + 1)) (hG2 : 2 ^ k ≤ G) (hr : r < 2 ^ (k + 1)) : st1 k G r < 2 ^ k := by
  unfold st1
  split
  · rename_i h
    refine Nat.lt_pow_two_of_testBit _ fun i hi => ?_
    rw [Nat.testBit_xor]
    by_cases hik : i = k
    · rw [hik, h, testBit_ge hG, decide_eq_true hG2]; rfl
    · rw [Nat.testBit_lt_two_pow (Nat.lt_of_lt_of_le hr (Nat.pow_le_pow_right (by omega) (by omega))), Nat.testBit_lt_two_pow (Nat.lt_of_lt_of_le hG (Nat.pow_le_pow_right (by omega) (by omega)))]; rfl
  · rename_i h
    rw [testBit_ge hr] at h
    simpa using h
theorem rmB_lt {k G : Nat} (hG : G < 2 ^ (k + 1)) (hG2 : 2 ^ k ≤ G) : ∀ (l : List Bt) (n : Nat), n < 2 ^ k → rmB k G n l < 2 ^ k
  | [], n, h => h
  | b :: l, n, h => rmB_lt hG hG2 l _ (st1_lt hG hG2 (by have := b.2; rw [Nat.pow_succ]; omega))
theorem top_bit (k R : Nat) (hR : R < 18446744073709551616) : bits .and .u64 ((R : Int) / 2 ^ k) 1 = if R.testBit k then 1 else 0 := by
  have h := bits_and_u64_nat (R / 2 ^ k) 1 (Nat.lt_of_le_of_lt (Nat.div_le_self _ _) hR) (by omega)
  rw [show ((R : Int) / 2 ^ k) = ((R / 2 ^ k : Nat) : Int) by simp, show (1 : Int) = ((1 : Nat) : Int) from rfl, h, Nat.and_one_is_mod]
  rw [Nat.testBit_eq_decide_div_mod_eq]
  have : R / 2 ^ k % 2 = 0 ∨ R / 2 ^ k % 2 = 1 := by omega
  rcases this with e | e <;> simp [e]
end Go.Proofs.YtahfmeopecmpmaaDoor
