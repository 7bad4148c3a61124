/-
  Slices that the call makes by append: what they hold (Own), and the walk's rules over them.
-/
import Derived.Test.YtagelndnhpijfaaMem
namespace Go.Proofs.Ytagelndnhpijfaa
open Go.RowKit

/-- The slice value v holds the one-cell elements xs, in a block of the call's own (from base on), or is nil and empty. -/
def Own (w : World) (base : Nat) (T : TypeId) (v : Value) (xs : List Value) : Prop := w.ownsRow base T 1 v xs.length xs

theorem own_nil (w : World) (base : Nat) (T : TypeId) : Own w base T (.slice none 0 0) [] := World.ownsRow_nil w base T 1
theorem Own.alloc {w : World} {base : Nat} {T : TypeId} {v : Value} {xs : List Value} (h : Own w base T v xs) (o : Obj) : Own (w.alloc o) base T v xs := World.ownsRow.alloc h o
theorem Own.drewN {w : World} {base : Nat} {T : TypeId} {v : Value} {xs : List Value} (h : Own w base T v xs) (n : Nat) : Own (w.drewN n) base T v xs := h
theorem Own.kept {w w' : World} {base : Nat} {T : TypeId} {v : Value} {xs : List Value} {r : Option Nat} (h : Own w base T v xs) (hg : w.grownBy w' r) (hne : v.ownBlock = none ∨ v.ownBlock ≠ r) : Own w' base T v xs := World.ownsRow.kept h hg hne
theorem Own.block {w : World} {base : Nat} {T : TypeId} {v : Value} {xs : List Value} (h : Own w base T v xs) : ∀ k, v.ownBlock = some k → base ≤ k ∧ k < w.heap.size := World.ownsRow.lt h
theorem grown_of_below {w w' : World} (h : Below w.heap.size w w') (r : Option Nat) : w.grownBy w' r := ⟨h.os, h.tape, h.output, h.size, fun k hk _ => h.block k hk⟩
theorem Own.below {w w' : World} {base : Nat} {T : TypeId} {v : Value} {xs : List Value} (h : Own w base T v xs) (hb : Below w.heap.size w w') : Own w' base T v xs := by
  rcases hv : v.ownBlock with _ | k
  · exact h.kept (grown_of_below hb none) (.inl hv)
  · exact h.kept (grown_of_below hb none) (.inr (by rw [hv]; simp))
theorem Own.set_other {w : World} {base : Nat} {T : TypeId} {v : Value} {xs : List Value} (h : Own w base T v xs) (a : Addr) (u : Value) (hne : v.ownBlock ≠ some a.block) : Own (w.setCell a u) base T v xs := ownsRow_setCell_other h hne u
/-- The shape of a slice that is owned: nil, or the head of a block that is known. -/
theorem Own.cases {w : World} {base : Nat} {T : TypeId} {v : Value} {xs : List Value} (h : Own w base T v xs) :
    (v = .slice none 0 0 ∧ xs = []) ∨ ∃ g cap, v = .slice (some ⟨g, 0, none⟩) xs.length cap ∧ base ≤ g ∧ g < w.heap.size ∧ xs.length ≤ cap ∧ (∀ j : Nat, j < xs.length → w.cell? ⟨g, j, none⟩ = xs[j]?) ∧ (∀ j : Nat, w.frozen? ⟨g, j, none⟩ = false) := by
  have h0 := h
  obtain ⟨hl, h | h⟩ := h
  · exact .inl ⟨h.1, List.eq_nil_of_length_eq_zero h.2⟩
  · obtain ⟨g, cap, cur, rfl, hb, hg, hc, hm, hs, ht⟩ := h
    have hlt := h0.block g rfl
    refine .inr ⟨g, cap, rfl, hb, hlt.2, hc, fun j hj => World.ownsRow.cellAt h0 j (by omega), fun j => World.ownsRow.frozenAt h0 j⟩
theorem own_lit (w : World) (base : Nat) (T : TypeId) (xs : List Value) (hb : base ≤ w.heap.size) (hm : xs.length ≤ maxLen) : Own (w.alloc (.cells xs.toArray T)) base T (.slice (some ⟨w.heap.size, 0, none⟩) xs.length xs.length) xs := by
  have := World.ownsRow_lit (base := base) (e := T) (size := 1) w xs.toArray xs.length hb hm (by simp)
  simpa [Own] using this
theorem Own.stored {w : World} {base : Nat} {T : TypeId} {g cap : Nat} {xs : List Value} (h : Own w base T (.slice (some ⟨g, 0, none⟩) xs.length cap) xs) (j : Nat) (u : Value) :
    Own (w.setCell ⟨g, j, none⟩ u) base T (.slice (some ⟨g, 0, none⟩) (xs.set j u).length cap) (xs.set j u) := by
  have := World.ownsRow.stored (base := base) (e := T) (size := 1) h j u
  unfold Own
  rw [List.length_set]
  exact this.1
theorem below_grown {w0 w w' : World} {base : Nat} {T : TypeId} {v : Value} {xs : List Value} (hb : Below base w0 w) (h : Own w base T v xs) (hg : w.grownBy w' v.ownBlock) (hB : base ≤ w.heap.size) : Below base w0 w' :=
  hb.grown hg hB (fun k hk => (h.block k hk).1)

/-- s = append(s, u): one element, which the walk has laid into a block of its own. -/
theorem wpList_app1 {P : Program} (w : World) {ops : Array Oper} {rest : List Oper} {o : Oper} {a : Act} {Q : Exit → Act → World → Prop} (hgd : o.guard = none) (s x : Operand) (t : TypeId)
    (ho : o.op = .call { callee := .builtin .append, args := #[s, x], argTypes := #[t, t] }) (base : Nat) (e : TypeId) (z : Value) (bytes : Nat) (ht : P.underlying t = some (.slice e))
    (h2 : (P.info? e).map (fun i => (i.zero, i.size, i.bytes)) = some (some z, 1, bytes)) (hz : z.cells.size = 1)
    (v : Value) (xs : List Value) (hs : a.eval s = v) (hown : Own w base e v xs) (B c : Nat) (u : Value) (hx : a.eval x = .slice (some ⟨B, 0, none⟩) 1 c) (hnew : w.cell? ⟨B, 0, none⟩ = some u) (h1 : u.oneCell' = true)
    (hmax : xs.length + 1 ≤ 9223372036854775807) (hbytes : (xs.length + 1) * bytes ≤ 140737488355328) (hbase : base ≤ w.heap.size)
    (h : ∀ v' w', Own w' base e v' (xs ++ [u]) → w.grownBy w' v.ownBlock → v' ≠ .slice none 0 0 → wpList P ops Q rest (a.put o.dst v') w') : wpList P ops Q (o :: rest) a w := by
  obtain ⟨i, hi, hz0, hz1, hz2⟩ := info_parts h2
  refine wpList_append_own w hgd s x t ho base e i z 1 bytes ht hi hz0 hz1 hz2 hz (by omega) v xs.length xs hs hown ⟨B, 0, none⟩ 1 c [u] hx rfl ?_ ?_ (by unfold maxLen; omega) hbytes hbase ?_
  · intro j u' hu
    cases j with
    | zero => simp at hu; subst hu; simpa [Addr.add] using hnew
    | succ j => simp at hu
  · intro u' hu; simp at hu; subst hu; exact h1
  · intro v' w' k1 k2 k3
    refine h v' w' ?_ k2 ?_
    · unfold Own; rw [List.length_append, List.length_singleton]; exact k1
    · intro hv
      have := (k3.1 hv).2
      omega
end Go.Proofs.Ytagelndnhpijfaa
