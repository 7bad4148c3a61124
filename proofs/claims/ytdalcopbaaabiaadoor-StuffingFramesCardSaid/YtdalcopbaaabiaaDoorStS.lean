/-
  Plain laws: the stretches of words between flags are the stuffed words.
-/
import Derived.Test.YtdalcopbaaabiaaDoorStR
import Derived.Test.YtdalcopbaaabiaaDoorStK
namespace Go.Proofs.YtdalcopbaaabiaaDoor
open Go.RowKit

theorem stf_len5 (c put : UInt8) : ∀ (l : List UInt8) (run : Nat), run < 5 → 5 * (stf c put 5 run l).length ≤ 6 * l.length + run
  | [], _, _ => by simp [stf]
  | a :: l, run, h => by
    rw [stf]
    by_cases ha : a = c
    · rw [if_pos ha]
      by_cases h2 : run + 1 < 5
      · rw [if_pos h2]; have := stf_len5 c put l (run + 1) h2; simp; omega
      · rw [if_neg h2]; have := stf_len5 c put l 0 (by omega); simp; omega
    · rw [if_neg ha]; have := stf_len5 c put l 0 (by omega); simp; omega
/-- Behind letters without six letters 1 in a row the first flag is the flag. -/
theorem ix_first {u : List UInt8} (r : List UInt8) (h : Lib.contains u [49, 49, 49, 49, 49, 49] = false) : Lib.index (u ++ (flag ++ r)) flag = u.length := by
  have hno : ∀ j, j ≤ u.length → Lib.occAt u [49, 49, 49, 49, 49, 49] j = false := fun j hj => by
    unfold Lib.contains at h
    rw [decide_eq_false_iff_not] at h
    rcases Lib.index_spec u [49, 49, 49, 49, 49, 49] with ⟨_, h2⟩ | ⟨i, h1, _⟩
    · exact h2 j hj
    · omega
  refine Lib.index_first (by simp) (by simp [Lib.occAt]) fun j hj => ?_
  by_cases ho : Lib.occAt (u ++ (flag ++ r)) flag j = true
  · exfalso
    unfold Lib.occAt at ho
    rw [List.isPrefixOf_iff_prefix] at ho
    obtain ⟨t, ht⟩ := ho
    have hg : ∀ k, k < 8 → (u ++ (flag ++ r))[j + k]? = flag[k]? := fun k hk => by
      have : ((u ++ (flag ++ r)).drop j)[k]? = flag[k]? := by rw [← ht, List.getElem?_append_left (by exact hk)]
      rw [← this, List.getElem?_drop]
    by_cases h7 : j + 7 ≤ u.length
    · have hb := hno (j + 1) (by omega)
      have hp : Lib.occAt u [49, 49, 49, 49, 49, 49] (j + 1) = true := by
        unfold Lib.occAt
        rw [List.isPrefixOf_iff_prefix, List.prefix_iff_eq_take]
        apply List.ext_getElem?
        intro k
        by_cases hk : k < 6
        · rw [List.getElem?_take, if_pos (by exact hk), List.getElem?_drop, ← List.getElem?_append_left (l₁ := u) (l₂ := flag ++ r) (by omega), show j + 1 + k = j + (k + 1) by omega, hg (k + 1) (by omega)]
          have : k = 0 ∨ k = 1 ∨ k = 2 ∨ k = 3 ∨ k = 4 ∨ k = 5 := by omega
          rcases this with rfl | rfl | rfl | rfl | rfl | rfl <;> rfl
        · rw [List.getElem?_eq_none (by simp; omega), List.getElem?_eq_none (by simp; omega)]
      rw [hp] at hb; cases hb
    · have hd := hg (u.length - j) (by omega)
      rw [show j + (u.length - j) = u.length by omega, List.getElem?_append_right (Nat.le_refl _), Nat.sub_self] at hd
      have : u.length - j = 1 ∨ u.length - j = 2 ∨ u.length - j = 3 ∨ u.length - j = 4 ∨ u.length - j = 5 ∨ u.length - j = 6 := by omega
      rcases this with e | e | e | e | e | e <;> rw [e] at hd <;> simp [flag] at hd
  · simpa using ho
theorem ctf_first {u : List UInt8} (r : List UInt8) (h : Lib.contains u [49, 49, 49, 49, 49, 49] = false) : ctf (u ++ (flag ++ r)) = (u, r, true) := by
  rw [cut_hit (ix_first r h), List.take_left', ← List.drop_drop, List.drop_left']
  · rfl
  · rfl
  · rfl
theorem small_none {u : List UInt8} (h : u.length ≤ 7) : ctf u = (u, [], false) := by
  refine cut_miss (Lib.index_none fun j hj => ?_)
  unfold Lib.occAt
  rw [Bool.eq_false_iff]
  intro hp
  have := (List.isPrefixOf_iff_prefix.1 hp).length_le
  simp [flag] at this
  omega
theorem small_six {u : List UInt8} (h : u.length ≤ 5) : Lib.contains u [49, 49, 49, 49, 49, 49] = false := by
  unfold Lib.contains
  rw [decide_eq_false_iff_not, Lib.index_none (sub := [49, 49, 49, 49, 49, 49]) fun j hj => ?_]
  · decide
  unfold Lib.occAt
  rw [Bool.eq_false_iff]
  intro hp
  have := (List.isPrefixOf_iff_prefix.1 hp).length_le
  simp at this
  omega
theorem ust5_stf (l : List UInt8) : ust5 (stf 49 48 5 0 l) = some l := ust_stf 49 48 5 (by omega) l 0 (by omega)
theorem stf_six (l : List UInt8) : Lib.contains (stf 49 48 5 0 l) [49, 49, 49, 49, 49, 49] = false := by
  rw [Bool.eq_false_iff]
  intro h
  have := six_bad h
  rw [ust5_stf] at this; cases this
theorem stF_frames (tail : List UInt8) (ht : tail.length ≤ 7) : ∀ (ss : List ByteArray) (n : Nat), ss.length < n → stF n (ss.flatMap frW ++ tail) = ss.map fun s => stf 49 48 5 0 s.data.toList
  | [], n + 1, _ => by rw [stF]; simp [small_none ht]
  | s :: ss, n + 1, h => by
    have e : (s :: ss).flatMap frW ++ tail = stf 49 48 5 0 s.data.toList ++ (flag ++ (ss.flatMap frW ++ tail)) := by simp [frW]
    rw [e, stF, ctf_first _ (stf_six _)]
    simp only [if_true, List.map_cons]
    rw [stF_frames tail ht ss n (by simpa using h)]
theorem frames_len (ss : List ByteArray) : ss.length ≤ (ss.flatMap frW).length := by
  induction ss with
  | nil => simp
  | cons s ss ih => simp only [List.flatMap_cons, List.length_append, List.length_cons, frW]; have : flag.length = 8 := rfl; omega
theorem stL_frames {head tail : List UInt8} (hh : head.length ≤ 5) (ht : tail.length ≤ 7) (ss : List ByteArray) : stL (head ++ frT ss ++ tail) = ss.map fun s => stf 49 48 5 0 s.data.toList := by
  have e : head ++ frT ss ++ tail = head ++ (flag ++ (ss.flatMap frW ++ tail)) := by simp [frT]
  have h1 := frames_len ss
  rw [e, stL, ctf_first _ (small_six hh)]
  simp only [if_true]
  exact stF_frames tail ht ss _ (by simp only [List.length_append]; omega)
theorem filterMap_stf (ss : List ByteArray) : (ss.map fun s => stf 49 48 5 0 s.data.toList).filterMap ust5 = ss.map fun s => s.data.toList := by
  induction ss with
  | nil => rfl
  | cons s ss ih => rw [List.map_cons, List.filterMap_cons, ust5_stf, ih]; rfl
theorem filter_stf (ss : List ByteArray) : (ss.map fun s => stf 49 48 5 0 s.data.toList).filter (fun x => (ust5 x).isNone) = [] := by
  induction ss with
  | nil => rfl
  | cons s ss ih => rw [List.map_cons, List.filter_cons, ust5_stf, ih]; rfl
/-- Words that are binary and short enough. -/
def binA (ss : List ByteArray) : Bool := ss.all fun s => binT s.data.toList
theorem binT_iff {l : List UInt8} (h : binT l = true) : l.length ≤ 60 ∧ l.all isB = true := by
  simp only [binT, Bool.and_eq_true, decide_eq_true_eq] at h
  exact ⟨h.1, ((chk2_iff _).1 h.2).2⟩
theorem frames_small : ∀ {ss : List ByteArray}, binA ss = true → (ss.flatMap frW).length ≤ ss.length * 80 ∧ (ss.flatMap frW).all isB = true ∧ fbad ss = 0
  | [], _ => ⟨by simp, rfl, rfl⟩
  | s :: ss, h => by
    simp only [binA, List.all_cons, Bool.and_eq_true] at h
    obtain ⟨i1, i2, i3⟩ := frames_small (ss := ss) h.2
    obtain ⟨b1, b2⟩ := binT_iff h.1
    have h5 := stf_len5 49 48 s.data.toList 0 (by omega)
    have h8 : flag.length = 8 := rfl
    refine ⟨?_, ?_, ?_⟩
    · simp only [List.flatMap_cons, List.length_append, frW, List.length_cons]; omega
    · simp only [List.flatMap_cons, List.all_append, frW, Bool.and_eq_true]
      exact ⟨⟨stf_all 49 48 5 isB (by decide) _ 0 b2, by decide⟩, i2⟩
    · rw [fbad, if_neg (by simp [chk2_small (by omega) b2]), i3]
theorem framed {ss : List ByteArray} (hl : ss.length ≤ 12) (h : binA ss = true) : frE ss = 0 ∧ frO ss = frT ss ∧ (frT ss).length ≤ 968 ∧ (frT ss).all isB = true := by
  obtain ⟨h1, h2, h3⟩ := frames_small h
  have h8 : flag.length = 8 := rfl
  have h4 : (frT ss).length ≤ 968 := by rw [frT, List.length_append]; omega
  have h5 : frE ss = 0 := by rw [frE, if_neg (by omega), if_neg (by simp [h3]), if_pos (by omega)]
  exact ⟨h5, by rw [frO, if_pos h5], h4, by rw [frT, List.all_append, h2]; decide⟩
/-- What Deframe finds in framed words, also with letters before and behind. -/
theorem found {ss : List ByteArray} {head tail : List UInt8} (hl : ss.length ≤ 12) (h : binA ss = true) (hh : head.length ≤ 5) (ht : tail.length ≤ 7) (bh : head.all isB = true) (bt : tail.all isB = true) :
    (head ++ frT ss ++ tail).length ≤ 1000 ∧ chk 2 (head ++ frT ss ++ tail) = 0 ∧ dwO (bas (stL (head ++ frT ss ++ tail))) = ss.map (fun s => s.data.toList) ∧ dwB (bas (stL (head ++ frT ss ++ tail))) = 0 := by
  obtain ⟨f1, f2, f3, f4⟩ := framed hl h
  have hlen : (head ++ frT ss ++ tail).length ≤ 1000 := by simp only [List.length_append]; omega
  have hm : ∀ x ∈ stL (head ++ frT ss ++ tail), x.length ≤ 65536 := fun x hx => by have := stL_mem _ _ hx; omega
  obtain ⟨b1, b2⟩ := bas_val _ hm
  refine ⟨hlen, chk2_small (by omega) (by simp only [List.all_append, bh, f4, bt]; rfl), ?_, ?_⟩
  · rw [b1, stL_frames hh ht, filterMap_stf]
  · rw [b2, stL_frames hh ht, filter_stf]; rfl
end Go.Proofs.YtdalcopbaaabiaaDoor
