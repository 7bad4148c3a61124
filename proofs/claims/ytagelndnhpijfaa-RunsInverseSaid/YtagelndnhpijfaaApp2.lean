/-
  Slices of structs of two numbers.
-/
import Derived.Test.YtagelndnhpijfaaEql
namespace Go.Proofs.Ytagelndnhpijfaa
open Go.RowKit

def pcells : List (Int × Int) → List Value
  | [] => []
  | p :: l => .int .i64 p.1 :: .int .i64 p.2 :: pcells l
theorem pcells_len : ∀ l, (pcells l).length = l.length * 2
  | [] => rfl
  | p :: l => by simp [pcells, pcells_len l]; omega
theorem pcells_app : ∀ l k, pcells (l ++ k) = pcells l ++ pcells k
  | [], _ => rfl
  | p :: l, k => by simp [pcells, pcells_app l k]
theorem pcells_get : ∀ (l : List (Int × Int)) (j : Nat) (h : j < l.length), (pcells l)[j * 2]? = some (.int .i64 l[j].1) ∧ (pcells l)[j * 2 + 1]? = some (.int .i64 l[j].2)
  | [], j, h => by simp at h
  | p :: l, 0, _ => ⟨rfl, rfl⟩
  | p :: l, j + 1, h => by
    have := pcells_get l j (by simpa using h)
    rw [show (j + 1) * 2 = j * 2 + 1 + 1 by omega]
    simpa [pcells] using this
/-- The slice value v holds these pairs. -/
def HoldsP (w : World) (v : Value) (l : List (Int × Int)) : Prop :=
  ∃ a c, v = .slice a l.length c ∧ ∀ j (h : j < l.length), ∃ g o, a = some ⟨g, o, none⟩ ∧ w.cell? ⟨g, o + j * 2, none⟩ = some (.int .i64 l[j].1) ∧ w.cell? ⟨g, o + j * 2 + 1, none⟩ = some (.int .i64 l[j].2)
theorem HoldsP.drewN {w : World} {v : Value} {l : List (Int × Int)} (h : HoldsP w v l) (n : Nat) : HoldsP (w.drewN n) v l := h
theorem HoldsP.below {w w' : World} {v : Value} {l : List (Int × Int)} (h : HoldsP w v l) (hb : Below w.heap.size w w') : HoldsP w' v l := by
  obtain ⟨a, c, rfl, hc⟩ := h
  refine ⟨a, c, rfl, fun j hj => ?_⟩
  obtain ⟨g, o, rfl, h1, h2⟩ := hc j hj
  exact ⟨g, o, rfl, cell_below h1 hb (cell_lt h1), cell_below h2 hb (cell_lt h2)⟩
def Own2 (w : World) (base : Nat) (T : TypeId) (v : Value) (l : List (Int × Int)) : Prop := w.ownsRow base T 2 v l.length (pcells l)
theorem own2_nil (w : World) (base : Nat) (T : TypeId) : Own2 w base T (.slice none 0 0) [] := World.ownsRow_nil w base T 2
theorem Own2.alloc {w : World} {base : Nat} {T : TypeId} {v : Value} {l : List (Int × Int)} (h : Own2 w base T v l) (o : Obj) : Own2 (w.alloc o) base T v l := World.ownsRow.alloc h o
theorem Own2.drewN {w : World} {base : Nat} {T : TypeId} {v : Value} {l : List (Int × Int)} (h : Own2 w base T v l) (n : Nat) : Own2 (w.drewN n) base T v l := h
theorem Own2.mono {w : World} {B m : Nat} {T : TypeId} {v : Value} {l : List (Int × Int)} (h : Own2 w m T v l) (hB : B ≤ m) : Own2 w B T v l := by
  obtain ⟨hl, h | ⟨g, cap, cur, hv, hb, r⟩⟩ := h
  · exact ⟨hl, .inl h⟩
  · exact ⟨hl, .inr ⟨g, cap, cur, hv, Nat.le_trans hB hb, r⟩⟩
theorem Own2.block {w : World} {base : Nat} {T : TypeId} {v : Value} {l : List (Int × Int)} (h : Own2 w base T v l) : ∀ k, v.ownBlock = some k → base ≤ k ∧ k < w.heap.size := World.ownsRow.lt h
theorem Own2.below {w w' : World} {base : Nat} {T : TypeId} {v : Value} {l : List (Int × Int)} (h : Own2 w base T v l) (hb : Below w.heap.size w w') : Own2 w' base T v l := by
  rcases hv : v.ownBlock with _ | k
  · exact World.ownsRow.kept h (grown_of_below hb none) (.inl hv)
  · exact World.ownsRow.kept h (grown_of_below hb none) (.inr (by rw [hv]; simp))
theorem below_grown2 {w0 w w' : World} {base : Nat} {T : TypeId} {v : Value} {l : List (Int × Int)} (hb : Below base w0 w) (h : Own2 w base T v l) (hg : w.grownBy w' v.ownBlock) (hB : base ≤ w.heap.size) : Below base w0 w' :=
  hb.grown hg hB (fun k hk => (h.block k hk).1)
theorem Own2.cases {w : World} {base : Nat} {T : TypeId} {v : Value} {l : List (Int × Int)} (h : Own2 w base T v l) :
    (v = .slice none 0 0 ∧ l = []) ∨ ∃ g cap cur, v = .slice (some ⟨g, 0, none⟩) l.length cap ∧ base ≤ g ∧ w.heap[g]? = some (.cells cur T (0, 0)) ∧ cur.size = cap * 2 ∧ l.length ≤ cap ∧ cap ≤ maxLen ∧ cur.toList.take (l.length * 2) = pcells l := by
  obtain ⟨hl, h | ⟨g, cap, cur, rfl, hb, hg, hc, hm, hs, ht⟩⟩ := h
  · exact .inl ⟨h.1, List.eq_nil_of_length_eq_zero h.2⟩
  · exact .inr ⟨g, cap, cur, rfl, hb, hg, hs, hc, hm, ht⟩
theorem Own2.holds {w : World} {base : Nat} {T : TypeId} {v : Value} {l : List (Int × Int)} (h : Own2 w base T v l) : HoldsP w v l := by
  rcases h.cases with ⟨rfl, rfl⟩ | ⟨g, cap, cur, rfl, _, hg, hs, hc, _, ht⟩
  · exact ⟨none, 0, rfl, fun j hj => by simp at hj⟩
  · refine ⟨_, cap, rfl, fun j hj => ⟨g, 0, rfl, ?_, ?_⟩⟩
    · have h1 : (cur.toList.take (l.length * 2))[j * 2]? = some (.int .i64 l[j].1) := by rw [ht]; exact (pcells_get l j hj).1
      rw [List.getElem?_take, if_pos (by omega)] at h1
      simp only [Nat.zero_add, World.cell?, hg]
      simpa using h1
    · have h1 : (cur.toList.take (l.length * 2))[j * 2 + 1]? = some (.int .i64 l[j].2) := by rw [ht]; exact (pcells_get l j hj).2
      rw [List.getElem?_take, if_pos (by omega)] at h1
      simp only [Nat.zero_add, World.cell?, hg]
      simpa using h1
theorem own2_lit (w : World) (base : Nat) (T : TypeId) (l : List (Int × Int)) (hb : base ≤ w.heap.size) (hm : l.length ≤ maxLen) : Own2 (w.alloc (.cells (pcells l).toArray T)) base T (.slice (some ⟨w.heap.size, 0, none⟩) l.length l.length) l := by
  have := World.ownsRow_lit (base := base) (e := T) (size := 2) w (pcells l).toArray l.length hb hm (by simp [pcells_len])
  simpa [Own2] using this

/-- s = append(s, p): one pair, which the walk has laid into a block of its own. -/
theorem wpList_app2 {P : Program} (w : World) {ops : Array Oper} {rest : List Oper} {o : Oper} {a : Act} {Q : Exit → Act → World → Prop} (hgd : o.guard = none) (s x : Operand) (t : TypeId)
    (ho : o.op = .call { callee := .builtin .append, args := #[s, x], argTypes := #[t, t] }) (base : Nat) (e : TypeId) (z : Value) (bytes : Nat) (ht : P.underlying t = some (.slice e))
    (h2 : (P.info? e).map (fun i => (i.zero, i.size, i.bytes)) = some (some z, 2, bytes)) (hz : z.cells.size = 2)
    (v : Value) (l : List (Int × Int)) (hs : a.eval s = v) (hown : Own2 w base e v l) (B c : Nat) (p : Int × Int) (hx : a.eval x = .slice (some ⟨B, 0, none⟩) 1 c) (hn1 : w.cell? ⟨B, 0, none⟩ = some (.int .i64 p.1)) (hn2 : w.cell? ⟨B, 1, none⟩ = some (.int .i64 p.2))
    (hmax : l.length + 1 ≤ 9223372036854775807) (hbytes : (l.length + 1) * bytes ≤ 140737488355328) (hbase : base ≤ w.heap.size)
    (h : ∀ v' w', Own2 w' base e v' (l ++ [p]) → w.grownBy w' v.ownBlock → v' ≠ .slice none 0 0 → wpList P ops Q rest (a.put o.dst v') w') : wpList P ops Q (o :: rest) a w := by
  obtain ⟨i, hi, hz0, hz1, hz2⟩ := info_parts h2
  refine wpList_append_own w hgd s x t ho base e i z 2 bytes ht hi hz0 hz1 hz2 hz (by omega) v l.length (pcells l) hs hown ⟨B, 0, none⟩ 1 c [.int .i64 p.1, .int .i64 p.2] hx rfl ?_ ?_ (by unfold maxLen; omega) hbytes hbase ?_
  · intro j u hu
    match j, hu with
    | 0, hu => simp at hu; subst hu; simpa [Addr.add] using hn1
    | 1, hu => simp at hu; subst hu; simpa [Addr.add] using hn2
    | j + 2, hu => simp at hu
  · intro u hu; simp at hu; rcases hu with rfl | rfl <;> rfl
  · intro v' w' k1 k2 k3
    refine h v' w' ?_ k2 ?_
    · unfold Own2; rw [List.length_append, List.length_singleton, pcells_app]; exact k1
    · intro hv
      have := (k3.1 hv).2
      omega
end Go.Proofs.Ytagelndnhpijfaa
