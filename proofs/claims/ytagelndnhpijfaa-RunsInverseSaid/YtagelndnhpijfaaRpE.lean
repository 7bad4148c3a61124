/-
  The contract of (*strings.Replacer).buildOnce, at the four strings 0, 1, 1, 0.
-/
import Derived.Test.YtagelndnhpijfaaRpB
import Derived.Test.YtagelndnhpijfaaRpD
namespace Go.Proofs.Ytagelndnhpijfaa
open Go.RowKit

/-- The table is laid. -/
def Built (rb : Nat) (w w' : World) : Prop :=
  Below rb w w' ∧ rb < w'.heap.size ∧ ∃ Bt, Bt < w'.heap.size ∧ Bt ≠ rb ∧ w'.cell? ⟨rb, 3, none⟩ = some (.iface 120 (.pointer (some ⟨Bt, 0, none⟩))) ∧
    w'.cell? ⟨Bt, 48, none⟩ = some (.int .u8 49) ∧ w'.cell? ⟨Bt, 49, none⟩ = some (.int .u8 48)
theorem size_setCell (w : World) (a : Addr) (v : Value) : (w.setCell a v).heap.size = w.heap.size := by simp [World.setCell]
theorem Built.setCell {rb : Nat} {w w' : World} (h : Built rb w w') (j : Nat) (hj : j ≠ 3) (v : Value) : Built rb w (w'.setCell ⟨rb, j, none⟩ v) := by
  obtain ⟨hb, hlt, Bt, h1, h2, h3, h4, h5⟩ := h
  refine ⟨hb.setCell (p := ⟨rb, j, none⟩) (Nat.le_refl _) v, by rw [size_setCell]; exact hlt, Bt, by rw [size_setCell]; exact h1, h2, ?_, ?_, ?_⟩
  · rw [World.cell?_setCell_other _ _ _ _ (fun h => by injection h with _ h; omega)]; exact h3
  · rw [World.cell?_setCell_other _ _ _ _ (fun h => by injection h with h; omega)]; exact h4
  · rw [World.cell?_setCell_other _ _ _ _ (fun h => by injection h with h; omega)]; exact h5
theorem Built.drew {rb : Nat} {w w' : World} (h : Built rb w w') : Built rb w w'.drew := by
  obtain ⟨hb, hlt, Bt, h1, h2, h3, h4, h5⟩ := h
  exact ⟨hb.drew, hlt, Bt, h1, h2, h3, h4, h5⟩
theorem Built.after {rb : Nat} {w0 w w' : World} (h : Built rb w w') (hb : Below rb w0 w) : Built rb w0 w' := ⟨hb.trans h.1, h.2⟩
/-- Nothing is laid yet. -/
def Raw (rb sb : Nat) (w : World) : Prop :=
  (∃ c, w.cell? ⟨rb, 4, none⟩ = some (.slice (some ⟨sb, 0, none⟩) 4 c)) ∧ (∃ x, w.cell? ⟨rb, 3, none⟩ = some x) ∧ (∀ j, w.frozen? ⟨rb, j, none⟩ = false) ∧ Four w sb ∧ sb < w.heap.size ∧ rb < w.heap.size ∧ sb ≠ rb
theorem frozen_setCell (w : World) (a b : Addr) (v : Value) : (w.setCell a v).frozen? b = w.frozen? b := by simp
theorem Raw.setCell {rb sb : Nat} {w : World} (h : Raw rb sb w) (j : Nat) (hj : j < 3) (v : Value) : Raw rb sb (w.setCell ⟨rb, j, none⟩ v) := by
  obtain ⟨⟨c, h1⟩, ⟨x, h2⟩, h3, h4, h5, h6, h7⟩ := h
  refine ⟨⟨c, ?_⟩, ⟨x, ?_⟩, fun k => by rw [frozen_setCell]; exact h3 k, ⟨?_, ?_, ?_, ?_⟩, by rw [size_setCell]; exact h5, by rw [size_setCell]; exact h6, h7⟩
  · rw [World.cell?_setCell_other _ _ _ _ (fun h => by injection h with _ h; omega)]; exact h1
  · rw [World.cell?_setCell_other _ _ _ _ (fun h => by injection h with _ h; omega)]; exact h2
  · rw [World.cell?_setCell_other _ _ _ _ (fun h => by injection h with h; omega)]; exact h4.1
  · rw [World.cell?_setCell_other _ _ _ _ (fun h => by injection h with h; omega)]; exact h4.2.1
  · rw [World.cell?_setCell_other _ _ _ _ (fun h => by injection h with h; omega)]; exact h4.2.2.1
  · rw [World.cell?_setCell_other _ _ _ _ (fun h => by injection h with h; omega)]; exact h4.2.2.2
theorem frozen_below {w w' : World} {C b j : Nat} (hb : Below C w w') (hC : b < C) : w'.frozen? ⟨b, j, none⟩ = w.frozen? ⟨b, j, none⟩ := by
  simp only [World.frozen?, hb.block _ hC]

set_option maxHeartbeats 2000000 in
set_option maxRecDepth 100000 in
theorem buildOnce_any (rb sb : Nat) (w : World) (h : Raw rb sb w) :
    Calls Try.prog 56 #[.pointer (some ⟨rb, 0, none⟩)] w fun e w' => e = .returned (.tuple #[]) ∧ Built rb w w' ∧
      (∀ j, j < 3 → w'.cell? ⟨rb, j, none⟩ = w.cell? ⟨rb, j, none⟩) ∧ (∀ j, w'.frozen? ⟨rb, j, none⟩ = false) := by
  have HRw := Lib.hid h
  obtain ⟨⟨c, h4⟩, ⟨x, h3⟩, hz, hf, hsb, hrb, hne⟩ := h
  have HZ := Lib.hid hz
  have HF := Lib.hid hf
  have H3 := Lib.hid h3
  have H4 := Lib.hid h4
  have HN := Lib.hid hne
  have HSB := Lib.hid hsb
  have HRB := Lib.hid hrb
  clear hz hf h3 h4 hne hsb hrb
  go_enter Try.func56, Try.ntmps56
  go_wp2_with fail
  refine (build_any rb sb c w H4.out HF.out HSB.out).mono ?_
  rintro e w1 ⟨Bt, rfl, h1, h2, hb, h48, h49⟩
  have q3 : w1.cell? ⟨rb, 3, none⟩ = some x := cell_below H3.out hb HRB.out
  have z3 : w1.frozen? ⟨rb, 3, none⟩ = false := by rw [frozen_below hb HRB.out]; exact HZ.out 3
  have q4 : w1.cell? ⟨rb, 4, none⟩ = some (.slice (some ⟨sb, 0, none⟩) 4 c) := cell_below H4.out hb HRB.out
  have z4 : w1.frozen? ⟨rb, 4, none⟩ = false := by rw [frozen_below hb HRB.out]; exact HZ.out 4
  have HBt := Lib.hid h1
  have HBs := Lib.hid h2
  have HB := Lib.hid hb
  have H48 := Lib.hid h48
  have H49 := Lib.hid h49
  clear h1 h2 hb h48 h49
  go_wp2_with fail
  go_end0
  have hrb1 : rb < w1.heap.size := Nat.lt_of_lt_of_le HRB.out HB.out.size
  have hB := ((HB.out.mono (Nat.le_of_lt HRB.out)).setCell (p := ⟨rb, 3, none⟩) (Nat.le_refl _) (.iface 120 (.pointer (some ⟨Bt, 0, none⟩)))).setCell (p := ⟨rb, 4, none⟩) (Nat.le_refl _) (.slice none 0 0)
  have hbt : Bt ≠ rb := by have := HBt.out; have := HRB.out; omega
  refine ⟨rfl, ⟨hB, by simp only [size_setCell]; exact hrb1, Bt, by simp only [size_setCell]; exact HBs.out, hbt, ?_, ?_, ?_⟩, fun j hj => ?_, fun j => ?_⟩
  · rw [World.cell?_setCell_other _ _ _ _ (fun h => by injection h with _ h; omega)]
    exact World.cell?_setCell_same _ _ _ q3
  · rw [World.cell?_setCell_other _ _ _ _ (fun h => by injection h with h; omega), World.cell?_setCell_other _ _ _ _ (fun h => by injection h with h; omega)]; exact H48.out
  · rw [World.cell?_setCell_other _ _ _ _ (fun h => by injection h with h; omega), World.cell?_setCell_other _ _ _ _ (fun h => by injection h with h; omega)]; exact H49.out
  · rw [World.cell?_setCell_other _ _ _ _ (fun h => by injection h with _ h; omega), World.cell?_setCell_other _ _ _ _ (fun h => by injection h with _ h; omega), HB.out.cell (p := ⟨rb, j, none⟩) HRB.out]
  · rw [frozen_setCell, frozen_setCell, frozen_below HB.out HRB.out]; exact HZ.out j
end Go.Proofs.Ytagelndnhpijfaa
