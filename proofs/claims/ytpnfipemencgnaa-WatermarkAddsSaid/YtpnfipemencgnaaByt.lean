/-
  []byte(s): a row of cells that begins with the string's bytes (RowP), and the walk's rules for it.
-/
import Derived.Test.YtpnfipemencgnaaApp
import Derived.Lib.BufferRead
import Derived.Laws.IdiomStrings
namespace Go.Proofs.Ytpnfipemencgnaa
open Go.RowKit

/-- Block B begins with these cells, and none of them is frozen. -/
def RowP (w : World) (B : Nat) (T : TypeId) (xs : List Value) : Prop :=
  ∃ (C : Array Value) (mk : Nat × Nat), w.heap[B]? = some (.cells C T mk) ∧ ∀ j, j < xs.length → C[j]? = xs[j]? ∧ ¬ (mk.1 ≤ j ∧ j < mk.2)

theorem RowP.lt {w : World} {B : Nat} {T : TypeId} {xs : List Value} (h : RowP w B T xs) : B < w.heap.size := by
  obtain ⟨C, mk, h, _⟩ := h
  rcases Nat.lt_or_ge B w.heap.size with h' | h'
  · exact h'
  · rw [Array.getElem?_eq_none h'] at h; cases h
theorem RowP.cell {w : World} {B : Nat} {T : TypeId} {xs : List Value} (h : RowP w B T xs) (j : Nat) (hj : j < xs.length) : w.cell? ⟨B, j, none⟩ = xs[j]? := by
  obtain ⟨C, mk, h, h2⟩ := h
  simp [World.cell?, h, (h2 j hj).1]
theorem RowP.frozen {w : World} {B : Nat} {T : TypeId} {xs : List Value} (h : RowP w B T xs) (j : Nat) (hj : j < xs.length) : w.frozen? ⟨B, j, none⟩ = false := by
  obtain ⟨C, mk, h, h2⟩ := h
  have := (h2 j hj).2
  simp only [World.frozen?, h]
  rw [Bool.and_eq_false_iff, decide_eq_false_iff_not, decide_eq_false_iff_not]
  omega
theorem RowP.set {w : World} {B : Nat} {T : TypeId} {xs : List Value} (h : RowP w B T xs) (j : Nat) (u : Value) (hj : j < xs.length) : RowP (w.setCell ⟨B, j, none⟩ u) B T (xs.set j u) := by
  obtain ⟨C, mk, h, h2⟩ := h
  refine ⟨C.setIfInBounds j u, mk, by simp [World.setCell, Array.getElem?_modify, h], fun i hi => ?_⟩
  rw [List.length_set] at hi
  refine ⟨?_, (h2 i hi).2⟩
  rw [Array.getElem?_setIfInBounds, List.getElem?_set, (h2 i hi).1]
  by_cases hij : j = i
  · subst hij
    have : j < C.size := by
      have := (h2 j hj).1
      rw [List.getElem?_eq_getElem hj] at this
      exact (Array.getElem?_eq_some_iff.1 this).1
    simp [this, hj]
  · simp [hij]
theorem RowP.set_other {w : World} {B : Nat} {T : TypeId} {xs : List Value} (h : RowP w B T xs) (a : Addr) (u : Value) (hne : B ≠ a.block) : RowP (w.setCell a u) B T xs := by
  obtain ⟨C, mk, h, h2⟩ := h
  exact ⟨C, mk, by rw [Below.heap_setCell _ _ _ _ hne]; exact h, h2⟩
theorem RowP.alloc {w : World} {B : Nat} {T : TypeId} {xs : List Value} (h : RowP w B T xs) (o : Obj) : RowP (w.alloc o) B T xs := by
  have hlt := h.lt
  obtain ⟨C, mk, h, h2⟩ := h
  exact ⟨C, mk, by rw [Below.heap_alloc _ _ _ hlt]; exact h, h2⟩
theorem RowP.drewN {w : World} {B : Nat} {T : TypeId} {xs : List Value} (h : RowP w B T xs) (n : Nat) : RowP (w.drewN n) B T xs := h
theorem RowP.drew {w : World} {B : Nat} {T : TypeId} {xs : List Value} (h : RowP w B T xs) : RowP w.drew B T xs := h
theorem RowP.below {w w' : World} {B C : Nat} {T : TypeId} {xs : List Value} (h : RowP w B T xs) (hb : Below C w w') (hB : B < C) : RowP w' B T xs := by
  obtain ⟨C, mk, h, h2⟩ := h
  exact ⟨C, mk, by rw [hb.block _ hB]; exact h, h2⟩
theorem RowP.grown {w w' : World} {B : Nat} {T : TypeId} {xs : List Value} {r : Option Nat} (h : RowP w B T xs) (hb : w.grownBy w' r) (hB : some B ≠ r) : RowP w' B T xs := by
  have hlt := h.lt
  obtain ⟨C, mk, h, h2⟩ := h
  exact ⟨C, mk, by rw [hb.block _ hlt hB]; exact h, h2⟩
theorem Row.rowP {w : World} {B : Nat} {T : TypeId} {xs : List Value} (h : Row w B T xs) : RowP w B T xs :=
  ⟨xs.toArray, (0, 0), h, fun j _ => ⟨by simp, by simp⟩⟩

theorem bytesRow_get (s : ByteArray) (c j : Nat) (hj : j < s.size) : (bytesRow s c)[j]? = (bts s.data.toList)[j]? := by
  unfold bytesRow bts
  rw [Array.getElem?_append_left (by simpa using hj)]
  simp

/-- b = []byte(s). -/
theorem wpList_bytes {P : Program} (w : World) {ops : Array Oper} {rest : List Oper} {o : Oper} {a : Act} {Q : Exit → Act → World → Prop}
    (hg : o.guard = none) (x : Operand) (src dst e : TypeId) (hop : o.op = Op.convert src dst x) (h1 : P.underlying src = some .string) (h2 : P.underlying dst = some (.slice e)) (h3 : P.underlying e = some (.int .u8))
    (s : ByteArray) (hx : a.eval x = .string s)
    (hK : ∀ w' c, RowP w' w.heap.size e (bts s.data.toList) → Below w.heap.size w w' → w'.heap.size = w.heap.size + 1 → s.size ≤ c → wpList P ops Q rest (a.put o.dst (.slice (some ⟨w.heap.size, 0, none⟩) s.size c)) w') :
    wpList P ops Q (o :: rest) a w := by
  refine wpList_plain hg fun K hK' => ?_
  have hr := run_bytes_of_string (P := P) w src dst e s h1 h2 h3
  unfold Oper.wp
  simp [execOp, hop, hx, hr, Result.andThen]
  refine hK' _ _ (hK _ _ ?_ ?_ (by simp) (grownCap_ge w s.size 0 e))
  · refine ⟨_, _, heap_alloc_new w.drew _, fun j hj => ?_⟩
    rw [bts_len] at hj
    refine ⟨bytesRow_get s _ j hj, ?_⟩
    have : s.size ≤ (bytesRow s (grownCap w s.size 0 e)).size := by simp [bytesRow]
    have hj' : j < s.size := hj
    dsimp only
    omega
  · exact ((Below.refl w.heap.size w).drew).alloc (Nat.le_refl _) _

theorem run_string_rowP {P : Program} {w : World} {src dst e : TypeId} {B c n : Nat} {l : List UInt8}
    (hs : P.underlying src = some (.slice e)) (he : P.underlying e = some (.int .u8)) (hd : P.underlying dst = some .string)
    (h : RowP w B e (bts l)) (hn : l.length = n) :
    (convert src dst (.slice (some ⟨B, 0, none⟩) n c)).run P w = .ok (.string ⟨l.toArray⟩) w := by
  subst hn
  refine run_string_of w src dst e ⟨B, 0, none⟩ c l hs he hd fun j v hv => ?_
  have hj : j < (bts l).length := (List.getElem?_eq_some_iff.1 hv).1
  have := h.cell j hj
  rw [hv] at this
  by_cases h0 : j = 0
  · subst h0; simpa [Addr.add] using this
  · simpa [Addr.add, h0] using this

/-- string(b), b a slice that the call made by append. -/
theorem run_string_own {P : Program} {w : World} {src dst e : TypeId} {base : Nat} {v : Value} {l : List UInt8}
    (hs : P.underlying src = some (.slice e)) (he : P.underlying e = some (.int .u8)) (hd : P.underlying dst = some .string)
    (h : Own w base e v (bts l)) : (convert src dst v).run P w = .ok (.string ⟨l.toArray⟩) w := by
  rcases h.cases with ⟨rfl, h1⟩ | ⟨g, cap, rfl, _, _, _, hc, _⟩
  · obtain rfl : l = [] := by
      cases l with
      | nil => rfl
      | cons a l => simp [bts] at h1
    exact Lib.run_convert_nil_bytes w src dst e 0 hs he hd
  · rw [bts_len]
    refine run_string_of w src dst e ⟨g, 0, none⟩ cap l hs he hd fun j u hu => ?_
    have hj : j < (bts l).length := (List.getElem?_eq_some_iff.1 hu).1
    have := hc j hj
    rw [hu] at this
    by_cases h0 : j = 0
    · subst h0; simpa [Addr.add] using this
    · simpa [Addr.add, h0] using this
/-- string(b), b of length 0. -/
theorem run_string_zero {P : Program} {w : World} {src dst e : TypeId} {p : Option Addr} {c : Nat}
    (hs : P.underlying src = some (.slice e)) (he : P.underlying e = some (.int .u8)) (hd : P.underlying dst = some .string) :
    (convert src dst (.slice p 0 c)).run P w = .ok (.string ⟨#[]⟩) w := by
  rcases p with _ | a
  · exact Lib.run_convert_nil_bytes w src dst e c hs he hd
  · exact run_string_of (l := []) w src dst e a c hs he hd fun j u hu => by simp [bts] at hu
/-- A slice that the call made by append: nil, or the head of a block that begins with its cells. -/
theorem Own.rowP {w : World} {base : Nat} {e : TypeId} {v : Value} {xs : List Value} (h : Own w base e v xs) :
    (v = .slice none 0 0 ∧ xs = []) ∨ ∃ g cap, v = .slice (some ⟨g, 0, none⟩) xs.length cap ∧ base ≤ g ∧ RowP w g e xs := by
  obtain ⟨hl, h | ⟨g, cap, cur, rfl, hb, hg, hc, hm, hs, ht⟩⟩ := h
  · exact .inl ⟨h.1, List.eq_nil_of_length_eq_zero h.2⟩
  · refine .inr ⟨g, cap, rfl, hb, cur, (0, 0), hg, fun j hj => ⟨?_, by simp⟩⟩
    have : (cur.toList.take (xs.length * 1))[j]? = xs[j]? := by rw [ht]
    rw [List.getElem?_take, if_pos (by omega)] at this
    rw [← this]; simp
end Go.Proofs.Ytpnfipemencgnaa
