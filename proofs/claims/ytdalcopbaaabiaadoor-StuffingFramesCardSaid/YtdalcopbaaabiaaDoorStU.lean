/-
  Slices of strings: compared, found by Deframe, and an argument opened to its cells.
-/
import Derived.Test.YtdalcopbaaabiaaDoorStS
import Derived.ProofKit
import Derived.Deep.Strs
namespace Go.Proofs.YtdalcopbaaabiaaDoor
open Go.ChangeShapes Go.WideShapes Go.ChangeAt Go.RowKit Go.Deep

theorem SRow.drewN {w : World} {a : Option Addr} {ss : List ByteArray} (h : SRow w a ss) (n : Nat) : SRow (w.drewN n) a ss := h
theorem SRow.at {w : World} {a : Option Addr} {ss : List ByteArray} (h : SRow w a ss) (h0 : 0 < ss.length) : ∃ g o, a = some ⟨g, o, none⟩ ∧ ∀ j, j < ss.length → w.cell? ⟨g, o + j, none⟩ = some (.string (ss.getD j ByteArray.empty)) := by
  obtain ⟨g, o, rfl, _⟩ := h 0 h0
  refine ⟨g, o, rfl, fun j hj => ?_⟩
  obtain ⟨g', o', e, hc⟩ := h j hj
  simp only [Option.some.injEq, Addr.mk.injEq, and_true] at e
  obtain ⟨rfl, rfl⟩ := e
  rw [hc, List.getD_eq_getElem?_getD, List.getElem?_eq_getElem hj]; rfl
theorem equalS_any (a a' : Option Addr) (c c' : Nat) (xs ys : List ByteArray) (w : World) (hx : SRow w a xs) (hy : SRow w a' ys) (bx : xs.length ≤ 9223372036854775807) (by' : ys.length ≤ 9223372036854775807) :
    Calls Tryd.prog 40 #[.slice a xs.length c, .slice a' ys.length c'] w fun e w' => e = .returned (.bool (decide (xs = ys))) ∧ ∃ q, w' = w.drewN q := by
  by_cases hl : xs.length = ys.length
  · by_cases h0 : xs.length = 0
    · obtain rfl : xs = [] := List.eq_nil_of_length_eq_zero h0
      obtain rfl : ys = [] := List.eq_nil_of_length_eq_zero (by rw [← hl, h0])
      exact (Tryd.slices_Equal_string_empty a a' c 0 c' w (by omega)).mono fun e w' ⟨h1, h2⟩ => ⟨by rw [h1]; simp, 0, h2⟩
    · obtain ⟨g, o, rfl, h1⟩ := hx.at (by omega)
      obtain ⟨g', o', rfl, h2⟩ := hy.at (by omega)
      refine (Tryd.slices_Equal_string g o xs.length c g' o' ys.length c' xs ys w (Nat.le_refl _) (Nat.le_refl _) bx by' h1 h2).mono fun e w' ⟨h1, h2⟩ => ⟨?_, h2⟩
      rw [h1, List.take_length, List.take_length]
  · refine (Tryd.slices_Equal_string_lens a a' xs.length c ys.length c' w hl).mono fun e w' ⟨h1, h2⟩ => ⟨?_, 0, h2⟩
    have : decide (xs = ys) = false := decide_eq_false fun h => hl (by rw [h])
    rw [h1, this]
theorem srow_of_own {w : World} {B : Nat} {v : Value} {l : List (List UInt8)} {n : Nat} (hn : n = l.length) (h : w.ownsRow B 9 1 v n (strs l)) : ∃ a c, v = .slice a l.length c ∧ SRow w a (l.map fun x => (⟨x.toArray⟩ : ByteArray)) := by
  subst hn
  rcases h.2 with ⟨rfl, h0⟩ | ⟨g, cap, cur, rfl, _⟩
  · exact ⟨none, 0, by rw [h0], fun j hj => by simp at hj; omega⟩
  · refine ⟨_, cap, rfl, fun j hj => ⟨g, 0, rfl, ?_⟩⟩
    have hj' : j < l.length := by simpa using hj
    rw [Nat.zero_add, World.ownsRow.cellAt h j (by simpa using hj)]
    simp [strs, List.getElem?_eq_getElem hj']
/-- The words as they came in. -/
theorem words_back (ss : List ByteArray) : (ss.map fun s => s.data.toList).map (fun x => (⟨x.toArray⟩ : ByteArray)) = ss := by
  rw [List.map_map]
  exact List.map_id'' (fun s => by simp) ss

theorem cell_plain {w : World} {x : Addr} {v : Value} (h : w.cell? x = some v) : x.spot = none := by
  unfold World.cell? at h
  split at h
  · split at h
    · cases h
    · rename_i hs; simpa using hs
  · cases h
theorem strs_of {H : Type} {enc : TypeId × Value → H} {w : World} {base : Nat} {sp : Nat → Bool} {held : Bool} {a : Option Addr} {len cap : Nat} {d : DataW H} {q : List MemPlace}
    (h : DataW.Trod enc Tryd.prog w base sp held 40 (.slice a len cap) d q) :
    ∃ l : List ByteArray, l.length = len ∧ len ≤ 9223372036854775807 ∧ SRow w a l := by
  obtain ⟨fuel, hf⟩ := h
  rcases open_strs Tryd.underlying40 Tryd.underlying9 (by kernel_rfl) hf with ⟨hcs, _⟩ | ⟨x, l, c, m, Sx, hcs, _, hl, hm, hmm, _, hcell⟩
  · simp [Value.cells] at hcs
    obtain ⟨rfl, rfl, rfl⟩ := hcs
    exact ⟨[], rfl, by omega, fun j hj => by simp at hj⟩
  · simp [Value.cells] at hcs
    obtain ⟨rfl, rfl, rfl⟩ := hcs
    have hlm : len ≤ m := by rw [hmm]; split <;> omega
    have hmax : len ≤ 9223372036854775807 := by have h9 := hm; unfold maxLen at h9; omega
    refine ⟨(List.range len).map Sx, by simp, hmax, fun j hj => ?_⟩
    simp only [List.length_map, List.length_range] at hj
    have hs : x.spot = none := by
      have := cell_plain (hcell 0 (by omega)).1
      simpa [Addr.add] using this
    obtain ⟨g, o, sp'⟩ := x
    obtain rfl : sp' = none := hs
    refine ⟨g, o, rfl, ?_⟩
    simp only [List.getElem_map, List.getElem_range]
    have e : (⟨g, o, none⟩ : Addr).add j = ⟨g, o + j, none⟩ := by
      by_cases h00 : j = 0 <;> simp [Addr.add, h00]
    rw [← e]; exact (hcell j (by omega)).1
end Go.Proofs.YtdalcopbaaabiaaDoor
