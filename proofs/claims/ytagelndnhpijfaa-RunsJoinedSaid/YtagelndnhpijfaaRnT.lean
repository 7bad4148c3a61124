/-
  An argument that is a slice of runs, opened to its cells.
-/
import Derived.Test.YtagelndnhpijfaaRnS
import Derived.ProofKit
import Derived.Deep.SlicePairs
namespace Go.Proofs.Ytagelndnhpijfaa
open Go.ChangeShapes Go.WideShapes Go.ChangeAt Go.RowKit Go.Deep

theorem pairs_of {H : Type} {enc : TypeId × Value → H} {w : World} {base : Nat} {sp : Nat → Bool} {held : Bool} {a : Option Addr} {len cap : Nat} {d : DataW H} {q : List MemPlace}
    (h : DataW.Trod enc Try.prog w base sp held 36 (.slice a len cap) d q) :
    ∃ l : List (Int × Int), l.length = len ∧ len ≤ 9223372036854775807 ∧ PRow w a l ∧ ∀ p ∈ l, p.2 ≤ 9223372036854775807 := by
  obtain ⟨fuel, hf⟩ := h
  rcases open_slice_pairs Try.underlying36 Try.underlying50 (by kernel_rfl) rfl rfl (by kernel_rfl) (by kernel_rfl) hf with ⟨hcs, _⟩ | ⟨x, l, c, m, n, V0, V1, D0, D1, P0, P1, hcs, _, hl, hm, hmm, _, hcell⟩
  · simp [Value.cells] at hcs
    obtain ⟨rfl, rfl, rfl⟩ := hcs
    exact ⟨[], rfl, by omega, fun j hj => by simp at hj, fun p hp => by cases hp⟩
  · simp [Value.cells] at hcs
    obtain ⟨rfl, rfl, rfl⟩ := hcs
    have hlm : len ≤ m := by rw [hmm]; split <;> omega
    have hv : ∀ i, i < len → ∃ z0 z1 : Int, w.cell? (x.add (i * 2)) = some (.int .i64 z0) ∧ w.cell? (x.add (i * 2 + 1)) = some (.int .i64 z1) ∧ z1 ≤ 9223372036854775807 := fun i hi => by
      obtain ⟨h0, h1, t0, t1⟩ := hcell i (by omega)
      obtain ⟨z0, e0, _, _⟩ := DataW.trod_int Try.underlying3 t0
      obtain ⟨z1, e1, _, hw⟩ := DataW.trod_int Try.underlying3 t1
      simp only [List.cons.injEq, and_true] at e0 e1
      refine ⟨z0, z1, by rw [h0, e0], by rw [h1, e1], ?_⟩
      simp [Lit.wf, IntKind.min, IntKind.max, IntKind.signed, IntKind.bits] at hw
      exact hw.2
    have hmax : len ≤ 9223372036854775807 := by have h9 := hm; unfold maxLen at h9; omega
    refine ⟨(List.range len).map (fun i => (((match w.cell? (x.add (i * 2)) with | some (.int _ z) => z | _ => 0) : Int), ((match w.cell? (x.add (i * 2 + 1)) with | some (.int _ z) => z | _ => 0) : Int))), by simp, hmax, fun j hj => ?_, fun p hp => ?_⟩
    · simp only [List.length_map, List.length_range] at hj
      obtain ⟨z0, z1, h0, h1, _⟩ := hv j hj
      have hs : x.spot = none := by
        obtain ⟨_, _, h00, _, _⟩ := hv 0 (by omega)
        have := cell_plain h00
        simpa [Addr.add] using this
      obtain ⟨g, o, sp'⟩ := x
      obtain rfl : sp' = none := hs
      refine ⟨g, o, rfl, ?_, ?_⟩
      · simp only [List.getElem_map, List.getElem_range, h0]
        have e : (⟨g, o, none⟩ : Addr).add (j * 2) = ⟨g, o + j * 2, none⟩ := by
          by_cases h00 : j * 2 = 0 <;> simp [Addr.add, h00]
        rw [← e]; exact h0
      · simp only [List.getElem_map, List.getElem_range, h1]
        have e : (⟨g, o, none⟩ : Addr).add (j * 2 + 1) = ⟨g, o + j * 2 + 1, none⟩ := by
          simp [Addr.add]; omega
        rw [← e]; exact h1
    · simp only [List.mem_map, List.mem_range] at hp
      obtain ⟨i, hi, rfl⟩ := hp
      obtain ⟨z0, z1, h0, h1, hz⟩ := hv i hi
      simp only [h1]; exact hz
end Go.Proofs.Ytagelndnhpijfaa
