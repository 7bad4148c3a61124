/-
  The contracts of align and Align.
-/
import Derived.Test.YtpnfipemencgnaaWmD
import Derived.Laws.EntriesVeiled
namespace Go.Proofs.Ytpnfipemencgnaa
open Go.RowKit

theorem Own.mono {w : World} {B m : Nat} {T : TypeId} {v : Value} {xs : List Value} (h : Own w m T v xs) (hB : B ≤ m) : Own w B T v xs := ownsRow_mono h hB
/-- The three boxes of align, laid one behind the other. -/
def boxes (w : World) (bm br B : Nat) : World :=
  ((w.alloc (.cells #[.map (some B)] 61)).alloc (.cells #[.slice none 0 0] 28)).alloc (.cells #[.func (.func 65) #[] #[.pointer (some ⟨bm, 0, none⟩), .pointer (some ⟨br, 0, none⟩), .pointer (some ⟨w.heap.size, 0, none⟩), .pointer (some ⟨w.heap.size + 1, 0, none⟩), .pointer (some ⟨w.heap.size + 1 + 1, 0, none⟩)]] 88)
theorem boxes_ok {m r : ByteArray} {w : World} {bm br B B0 : Nat} (h1 : bm < w.heap.size) (h2 : br < w.heap.size) (h3 : B < w.heap.size) (c0 : w.cell? ⟨bm, 0, none⟩ = some (.string m)) (c1 : w.cell? ⟨br, 0, none⟩ = some (.string r))
    (hmap : MapIs w B encR (cf m.data.toList r.data.toList 0 (r.size + 1))) (hB0 : B0 ≤ w.heap.size) :
    Cap m r (w.heap.size + 1 + 1 + 1) (w.heap.size + 1) bm br w.heap.size (w.heap.size + 1 + 1) B (boxes w bm br B) ∧ OutIs (w.heap.size + 1 + 1 + 1) (w.heap.size + 1) [] (boxes w bm br B) ∧ Below B0 w (boxes w bm br B) := by
  have hb : Below w.heap.size w (boxes w bm br B) := (((Below.refl _ _).alloc (Nat.le_refl _) _).alloc (by simp) _).alloc (by simp; omega) _
  refine ⟨⟨⟨by omega, by omega, ?_⟩, ⟨by omega, by omega, ?_⟩, ⟨by omega, by omega, ?_⟩, ⟨by omega, by omega, ?_⟩, by omega, by omega, ?_⟩, ⟨by omega, ?_, .slice none 0 0, ?_, own_nil _ _ _⟩, hb.mono hB0⟩
  · rw [hb.cell (p := ⟨bm, 0, none⟩) h1, c0]
  · rw [hb.cell (p := ⟨br, 0, none⟩) h2, c1]
  · exact (((row_new w 61 [.map (some B)]).alloc _).alloc _).cell 0
  · exact hmap.below hb h3
  · have := (row_new ((w.alloc (.cells #[.map (some B)] 61)).alloc (.cells #[.slice none 0 0] 28)) 88 [.func (.func 65) #[] #[.pointer (some ⟨bm, 0, none⟩), .pointer (some ⟨br, 0, none⟩), .pointer (some ⟨w.heap.size, 0, none⟩), .pointer (some ⟨w.heap.size + 1, 0, none⟩), .pointer (some ⟨w.heap.size + 1 + 1, 0, none⟩)]]).cell 0
    simpa [boxes] using this
  · unfold boxes; simp
  · unfold boxes
    refine Row.alloc ?_ _
    have := row_new (w.alloc (.cells #[.map (some B)] 61)) 28 [.slice none 0 0]
    simpa using this

def alL (m r : List UInt8) : List Int := alI m r m.length 0 0

set_option maxHeartbeats 1000000 in
set_option maxRecDepth 100000 in
theorem align_any (m r : ByteArray) (w : World) (hm : m.size ≤ 256) (hr : r.size ≤ 256) :
    Calls Try.prog 44 #[.string m, .string r] w fun e w' => ∃ v, e = .returned (.tuple #[v, .int .i64 (wc m.data.toList r.data.toList : Nat)]) ∧ Own w' w.heap.size 3 v (ints (alL m.data.toList r.data.toList)) ∧ Below w.heap.size w w' := by
  go_enter Try.func44, Try.ntmps44
  go_wp2_with fail
  refine (costs_any m r _ hm hr).mono ?_
  rintro e w2 ⟨B, rfl, hB, hmap, hb⟩
  have HM := Lib.hid hmap; clear hmap
  have HB := Lib.hid hb
  have c0 : w2.cell? ⟨w.heap.size, 0, none⟩ = some (.string m) := by
    rw [hb.cell (p := ⟨w.heap.size, 0, none⟩) (by simp; omega)]; simp
  have c1 : w2.cell? ⟨w.heap.size + 1, 0, none⟩ = some (.string r) := by
    rw [hb.cell (p := ⟨w.heap.size + 1, 0, none⟩) (by simp)]; simp
  have hz : w.heap.size + 2 ≤ w2.heap.size := by have := hb.size; simpa using this
  clear hb
  have hBl : B < w2.heap.size := HM.out.lt
  have HX := Lib.hid (boxes_ok (B0 := w.heap.size) (show w.heap.size < w2.heap.size by omega) (show w.heap.size + 1 < w2.heap.size by omega) hBl c0 c1 HM.out (by omega))
  go_wp2_with fail
  have hi : (0 : Nat) + m.size = m.size := by omega
  refine (from_any m r (w2.heap.size + 1 + 1 + 1) (w2.heap.size + 1) w.heap.size (w.heap.size + 1) w2.heap.size (w2.heap.size + 1 + 1) B w.heap.size hm hr (by omega) m.size 0 0 [] _ hi (Nat.zero_le _) rfl HX.out.1 HX.out.2.1).mono ?_
  rintro e w4 ⟨rfl, h1, h2, h3⟩
  have H1 := Lib.hid h1
  have H3 := Lib.hid h3; clear h3
  have HC := Lib.hid (HX.out.1.keep h2); clear h2
  obtain ⟨_, _, v, hrow, hown⟩ := h1
  have c4 : w4.cell? ⟨w2.heap.size + 1, 0, none⟩ = some v := hrow.cell 0
  have c5 : w4.cell? ⟨w2.heap.size, 0, none⟩ = some (.map (some B)) := HC.out.2.2.1.2.2
  have L1 := fun n => look_eq (HC.out.2.2.2.1.2.2.drewN n) (0, 0) (wc m.data.toList r.data.toList) (fun z => cf_zero m.data.toList r.data.toList z) 0 0 rfl rfl
  have HO := Lib.hid hown; clear hown hrow
  clear c0 c1
  go_wp2_with fail
  go_quiet (fail)
  go_wp2_with fail
  go_ret2
  refine ⟨v, rfl, (Own.mono HO.out (by omega)).drewN _, below_drewN ((((Below.refl _ _).alloc (Nat.le_refl _) _).alloc (by simp) _).trans ((HB.out.mono (by simp; omega)).trans (HX.out.2.2.trans H3.out))) _⟩
end Go.Proofs.Ytpnfipemencgnaa
