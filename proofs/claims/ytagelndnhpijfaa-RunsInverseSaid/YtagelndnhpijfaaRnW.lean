/-
  Plain laws: levels and transitions undo each other.
-/
import Derived.Test.YtagelndnhpijfaaRnE
namespace Go.Proofs.Ytagelndnhpijfaa
open Go.RowKit

theorem outs_get (o : Nat → UInt8) {n k : Nat} (h : k < n) : (outs o n).getD k 0 = 48 + o k := by
  rw [outs, List.getD_eq_getElem?_getD, List.getElem?_map, List.getElem?_range h]; rfl
theorem outs_eq {o : Nat → UInt8} {l : List UInt8} (h : ∀ k, k < l.length → 48 + o k = l.getD k 0) : outs o l.length = l := by
  apply List.ext_getElem
  · rw [outs_len]
  · intro k h1 h2
    have h3 := h k h2
    rw [List.getD_eq_getElem?_getD, List.getElem?_eq_getElem h2] at h3
    simp only [outs, List.getElem_map, List.getElem_range]
    exact h3
theorem back48 (c : UInt8) : 48 + (c - 48) = c := by
  rw [UInt8.add_comm]; exact UInt8.sub_add_cancel c 48
theorem sub48' (x : UInt8) : (48 + x) - 48 = x := by
  rw [UInt8.add_comm]; exact UInt8.add_sub_cancel x 48
theorem xor_back (a b : UInt8) : a ^^^ (a ^^^ b) = b := by
  rw [← UInt8.xor_assoc, UInt8.xor_self, UInt8.zero_xor]
/-- The transitions of the levels are the word. -/
theorem tr_lv (s : UInt8) (l : List UInt8) : outs (trO s (outs (lvO s l) l.length)) l.length = l := by
  have hs : ∀ k, k ≤ l.length → trS s (outs (lvO s l) l.length) k = lvS s l k := fun k hk => by
    cases k with
    | zero => rfl
    | succ k => rw [trS, outs_get _ (by omega), sub48']; rfl
  apply outs_eq
  intro k hk
  rw [trO, hs k (by omega), hs (k + 1) (by omega), lvS, xor_back, back48]
/-- The levels of the transitions are the word. -/
theorem lv_tr (s : UInt8) (l : List UInt8) : outs (lvO s (outs (trO s l) l.length)) l.length = l := by
  have hs : ∀ k, k ≤ l.length → lvS s (outs (trO s l) l.length) k = trS s l k := by
    intro k
    induction k with
    | zero => intro _; rfl
    | succ k ih =>
      intro hk
      rw [lvS, ih (by omega), outs_get _ (by omega), sub48', trO, xor_back]
  apply outs_eq
  intro k hk
  rw [lvO, hs (k + 1) (by omega), trS, back48]
def opp (c : UInt8) : UInt8 := if c = 48 then 49 else if c = 49 then 48 else c
/-- The levels from the other start. -/
theorem lv_other (s : UInt8) (hs : isZ s = true) (l : List UInt8) (hl : l.all isB = true) : outs (lvO (s ^^^ 1) l) l.length = (outs (lvO s l) l.length).map opp := by
  have h : ∀ k, lvS (s ^^^ 1) l k = lvS s l k ^^^ 1 := by
    intro k
    induction k with
    | zero => rfl
    | succ k ih => rw [lvS, ih, lvS, UInt8.xor_assoc, UInt8.xor_comm 1, ← UInt8.xor_assoc]
  rw [outs, outs, List.map_map]
  apply List.map_congr_left
  intro k hk
  have hk' : k < l.length := List.mem_range.1 hk
  show 48 + lvS (s ^^^ 1) l (k + 1) = opp (48 + lvS s l (k + 1))
  rw [h]
  rcases isZ_cases (lvS_z s l hs hl (k + 1) (by omega)) with e | e <;> rw [e] <;> decide
end Go.Proofs.Ytagelndnhpijfaa
