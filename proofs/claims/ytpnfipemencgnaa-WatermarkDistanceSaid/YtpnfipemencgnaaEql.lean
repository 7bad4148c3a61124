/-
  slices.Equal on slices of ints that are known by what they hold.
-/
import Derived.Test.YtpnfipemencgnaaApp
import Derived.Test.YtpnfipemencgnaaShelf
import Derived.OpenShut
namespace Go.Proofs.Ytpnfipemencgnaa
open Go.RowKit

def ints (l : List Int) : List Value := l.map fun v => .int .i64 v
theorem ints_len (l : List Int) : (ints l).length = l.length := by simp [ints]
theorem ints_app (l k : List Int) : ints l ++ ints k = ints (l ++ k) := by simp [ints]
theorem ints_one (v : Int) : [Value.int .i64 v] = ints [v] := rfl
theorem ints_get (l : List Int) (j : Nat) : (ints l)[j]? = (l[j]?).map fun v => .int .i64 v := by simp [ints]

/-- A slice of ints that holds l: nil or empty, or a block's cells. -/
def Holds (w : World) (v : Value) (l : List Int) : Prop :=
  (∃ a c, v = .slice a 0 c ∧ l = []) ∨ ∃ g o c, v = .slice (some ⟨g, o, none⟩) l.length c ∧ ∀ j, j < l.length → w.cell? ⟨g, o + j, none⟩ = some (.int .i64 (l.getD j 0))
theorem Own.holds {w : World} {base : Nat} {v : Value} {l : List Int} (h : Own w base 3 v (ints l)) : Holds w v l := by
  rcases h.cases with ⟨h1, h2⟩ | ⟨g, cap, h1, _, _, _, h5, _⟩
  · refine .inl ⟨none, 0, h1, ?_⟩
    cases l with
    | nil => rfl
    | cons a l => simp [ints] at h2
  · refine .inr ⟨g, 0, cap, by rw [h1, ints_len], fun j hj => ?_⟩
    rw [Nat.zero_add, h5 j (by rw [ints_len]; exact hj), ints_get, List.getElem?_eq_getElem hj, List.getD_eq_getElem?_getD, List.getElem?_eq_getElem hj]; rfl
theorem Holds.drewN {w : World} {v : Value} {l : List Int} (h : Holds w v l) (n : Nat) : Holds (w.drewN n) v l := h
theorem Row.holds {w : World} {B c : Nat} {l : List Int} (h : Row w B 3 (ints l)) : Holds w (.slice (some ⟨B, 0, none⟩) l.length c) l := by
  refine .inr ⟨B, 0, c, rfl, fun j hj => ?_⟩
  rw [Nat.zero_add, h.cell, ints_get, List.getElem?_eq_getElem hj, List.getD_eq_getElem?_getD, List.getElem?_eq_getElem hj]; rfl

theorem equal_holds {w : World} {v v' : Value} {l l' : List Int} (h : Holds w v l) (h' : Holds w v' l') (b : l.length ≤ 9223372036854775807) (b' : l'.length ≤ 9223372036854775807) :
    Calls Try.prog 27 #[v, v'] w fun e w' => e = .returned (.bool (l == l')) ∧ ∃ q, w' = w.drewN q := by
  have nil_case : ∀ (a1 : Option Addr) (c : Nat) (a2 : Option Addr) (d : Nat), Calls Try.prog 27 #[.slice a1 0 c, .slice a2 l'.length d] w fun e w' => e = .returned (.bool (([] : List Int) == l')) ∧ ∃ q, w' = w.drewN q := by
    intro a1 c a2 d
    refine (Try.slices_Equal_int_empty a1 a2 c l'.length d w b').mono fun e w' ⟨h1, h2⟩ => ⟨?_, 0, h2⟩
    rw [h1]; cases l' <;> simp
  rcases h with ⟨a, c, rfl, rfl⟩ | ⟨g, o, c, rfl, hc⟩
  · rcases h' with ⟨a', c', rfl, rfl⟩ | ⟨g', o', c', rfl, hc'⟩
    · exact nil_case _ _ _ _
    · exact nil_case _ _ _ _
  · by_cases hl : l.length = l'.length
    · by_cases h0 : l.length = 0
      · obtain rfl : l = [] := List.eq_nil_of_length_eq_zero h0
        rcases h' with ⟨a', c', rfl, rfl⟩ | ⟨g', o', c', rfl, hc'⟩
        · exact nil_case _ _ _ _
        · exact nil_case _ _ _ _
      · rcases h' with ⟨a', c', rfl, rfl⟩ | ⟨g', o', c', rfl, hc'⟩
        · exact absurd hl h0
        · refine (Try.slices_Equal_int g o l.length c g' o' l'.length c' l l' w (Nat.le_refl _) (Nat.le_refl _) b b' hc hc').mono fun e w' ⟨h1, h2⟩ => ⟨?_, h2⟩
          rw [h1, List.take_length, List.take_length]
    · rcases h' with ⟨a', c', rfl, rfl⟩ | ⟨g', o', c', rfl, hc'⟩
      · refine (Try.slices_Equal_int_lens _ _ _ _ 0 _ w (by simpa using hl)).mono fun e w' ⟨h1, h2⟩ => ⟨?_, 0, h2⟩
        rw [h1]; cases l <;> simp at *
      · refine (Try.slices_Equal_int_lens _ _ _ _ _ _ w hl).mono fun e w' ⟨h1, h2⟩ => ⟨?_, 0, h2⟩
        rw [h1]
        have : (l == l') = false := by rw [beq_eq_false_iff_ne]; rintro rfl; exact hl rfl
        rw [this]

/-- A slice of integers that came in. -/
def IsRowI (k : IntKind) (w : World) (a : Option Addr) (len cap : Nat) (zs : List Int) : Prop :=
  (a = none ∧ len = 0 ∧ cap = 0 ∧ zs = []) ∨
  ∃ x, a = some x ∧ len ≤ cap ∧ cap ≤ maxLen ∧ zs.length = cap ∧ (∀ i, i < zs.length → w.cell? (x.add i) = some (.int k (zs.getD i 0))) ∧ ∀ n ∈ zs, (Lit.int k n).wf = true
theorem cell_plain {w : World} {x : Addr} {v : Value} (h : w.cell? x = some v) : x.spot = none := by
  unfold World.cell? at h
  split at h
  · split at h
    · cases h
    · rename_i hs; simpa using hs
  · cases h
theorem cell_lt {w : World} {g o : Nat} {v : Value} (h : w.cell? ⟨g, o, none⟩ = some v) : g < w.heap.size := by
  unfold World.cell? at h
  rcases Nat.lt_or_ge g w.heap.size with h' | h'
  · exact h'
  · rw [Array.getElem?_eq_none h'] at h; cases h
theorem IsRowI.holds {w : World} {a : Option Addr} {len cap : Nat} {zs : List Int} (h : IsRowI .i64 w a len cap zs) : Holds w (.slice a len cap) (zs.take len) ∧ (zs.take len).length = len ∧ (∀ x ∈ zs.take len, -9223372036854775808 ≤ x ∧ x ≤ 9223372036854775807) ∧ len ≤ maxLen := by
  rcases h with ⟨rfl, rfl, rfl, rfl⟩ | ⟨x, rfl, h1, h2, h3, h4, h5⟩
  · exact ⟨.inl ⟨none, 0, rfl, rfl⟩, rfl, by simp, Nat.zero_le _⟩
  · have hl : (zs.take len).length = len := by rw [List.length_take]; omega
    refine ⟨?_, hl, fun y hy => ?_, by omega⟩
    · by_cases h0 : len = 0
      · subst h0; exact .inl ⟨_, cap, rfl, rfl⟩
      · have hs : x.spot = none := by
          have := cell_plain (h4 0 (by omega))
          simpa [Addr.add] using this
        obtain ⟨g, o, sp⟩ := x
        obtain rfl : sp = none := hs
        refine .inr ⟨g, o, cap, by rw [hl], fun j hj => ?_⟩
        have := h4 j (by omega)
        rw [hl] at hj
        rw [show (zs.take len).getD j 0 = zs.getD j 0 by simp [List.getD_eq_getElem?_getD, hj]]
        by_cases hj0 : j = 0
        · subst hj0; simpa [Addr.add] using this
        · simpa [Addr.add, hj0] using this
    · have := h5 y (List.mem_of_mem_take hy)
      exact bounds_i64 this
theorem Holds.below {w w' : World} {v : Value} {l : List Int} (h : Holds w v l) (hb : Below w.heap.size w w') : Holds w' v l := by
  rcases h with h | ⟨g, o, c, rfl, hc⟩
  · exact .inl h
  · refine .inr ⟨g, o, c, rfl, fun j hj => ?_⟩
    rw [hb.cell (p := ⟨g, o + j, none⟩) (cell_lt (hc j hj))]; exact hc j hj
theorem Holds.below' {w w' : World} {v : Value} {l : List Int} {C : Nat} (h : Holds w v l) (hb : Below C w w') (hC : w.heap.size ≤ C) : Holds w' v l := h.below (hb.mono hC)
end Go.Proofs.Ytpnfipemencgnaa
