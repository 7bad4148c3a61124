/-
  An argument []string opened to its cells.
-/
import Derived.Test.YtdogepiddjoemaaTsC
import Derived.ProofKit
import Derived.Deep.Strs
namespace Go.Proofs.Ytdogepiddjoemaa
open Go.ChangeShapes Go.WideShapes Go.ChangeAt Go.RowKit Go.Deep

theorem cell_plain {w : World} {x : Addr} {v : Value} (h : w.cell? x = some v) : x.spot = none := by
  unfold World.cell? at h
  split at h
  · split at h
    · cases h
    · rename_i hs; simpa using hs
  · cases h
theorem strs_of {H : Type} {enc : TypeId × Value → H} {w : World} {base : Nat} {sp : Nat → Bool} {held : Bool} {a : Option Addr} {len cap : Nat} {d : DataW H} {q : List MemPlace}
    (h : DataW.Trod enc Try.prog w base sp held 33 (.slice a len cap) d q) :
    ∃ l : List ByteArray, l.length = len ∧ len ≤ 9223372036854775807 ∧ SRow w a l := by
  obtain ⟨fuel, hf⟩ := h
  rcases open_strs Try.underlying33 Try.underlying9 (by kernel_rfl) hf with ⟨hcs, _⟩ | ⟨x, l, c, m, Sx, hcs, _, hl, hm, hmm, _, hcell⟩
  · simp [Value.cells] at hcs
    obtain ⟨rfl, rfl, rfl⟩ := hcs
    exact ⟨[], rfl, by omega, fun j hj => by simp at hj⟩
  · simp [Value.cells] at hcs
    obtain ⟨rfl, rfl, rfl⟩ := hcs
    have hlm : len ≤ m := by rw [hmm]; split <;> omega
    have hmax : len ≤ 9223372036854775807 := by have h9 := hm; unfold maxLen at h9; omega
    refine ⟨(List.range len).map Sx, by simp, hmax, fun j hj => ?_⟩
    simp only [List.length_map, List.length_range] at hj
    have hs : x.spot = none := by
      have := cell_plain (hcell 0 (by omega)).1
      simpa [Addr.add] using this
    obtain ⟨g, o, sp'⟩ := x
    obtain rfl : sp' = none := hs
    refine ⟨g, o, rfl, ?_⟩
    simp only [List.getElem_map, List.getElem_range]
    have e : (⟨g, o, none⟩ : Addr).add j = ⟨g, o + j, none⟩ := by
      by_cases h00 : j = 0 <;> simp [Addr.add, h00]
    rw [← e]; exact (hcell j (by omega)).1
end Go.Proofs.Ytdogepiddjoemaa
