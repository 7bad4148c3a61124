/-
  The example of the chapter on stuffing: awake returns true.
-/
import Derived.Test.YtdalcopbaaabiaaDoorStD
namespace Go.Proofs.YtdalcopbaaabiaaDoor
open Go.RowKit

theorem ex_stuff (w : World) : Calls Tryd.prog 14 #[.int .i64 2, .string ⟨#[48, 48, 48, 49]⟩] w fun e w' => e = .returned (.tuple #[.string ⟨#[48, 48, 49, 48, 49]⟩, .int .i64 0]) ∧ Below w.heap.size w w' :=
  (Stuff_any 2 ⟨#[48, 48, 48, 49]⟩ w).mono fun e w' ⟨he, hb⟩ => ⟨by rw [he, show stO 2 (⟨#[48, 48, 48, 49]⟩ : ByteArray).data.toList = [48, 48, 49, 48, 49] by decide +kernel, show stE 2 (⟨#[48, 48, 48, 49]⟩ : ByteArray).data.toList = 0 by decide +kernel], hb⟩
theorem ex_pad (w : World) (hm : Mx w) : Calls Tryd.prog 15 #[.int .i64 1, .string ⟨#[49, 49, 48]⟩] w fun e w' => e = .returned (.tuple #[.string ⟨#[49, 48, 49, 48, 48]⟩, .int .i64 0]) ∧ Below w.heap.size w w' :=
  (Pad_any 1 ⟨#[49, 49, 48]⟩ w hm).mono fun e w' ⟨he, hb⟩ => ⟨by rw [he, show pdO 1 (⟨#[49, 49, 48]⟩ : ByteArray).data.toList = [49, 48, 49, 48, 48] by decide +kernel, show pdE 1 (⟨#[49, 49, 48]⟩ : ByteArray).data.toList = 0 by decide +kernel], hb⟩
theorem ex_unstuff (w : World) : Calls Tryd.prog 21 #[.int .i64 2, .string ⟨#[48, 48, 48]⟩] w fun e w' => e = .returned (.tuple #[.string ⟨#[]⟩, .int .i64 13]) ∧ Below w.heap.size w w' :=
  (Unstuff_any 2 ⟨#[48, 48, 48]⟩ w).mono fun e w' ⟨he, hb⟩ => ⟨by rw [he, show usO 2 (⟨#[48, 48, 48]⟩ : ByteArray).data.toList = [] by decide +kernel, show usE 2 (⟨#[48, 48, 48]⟩ : ByteArray).data.toList = 13 by decide +kernel], hb⟩
theorem ex_frame (g : Nat) (w : World) (h : Row w g 9 [.string ⟨#[49, 49, 49, 49, 49, 49]⟩, .string ⟨#[]⟩]) : Calls Tryd.prog 36 #[.slice (some ⟨g, 0, none⟩) 2 2] w
    fun e w' => e = .returned (.tuple #[.string ⟨#[48, 49, 49, 49, 49, 49, 49, 48, 49, 49, 49, 49, 49, 48, 49, 48, 49, 49, 49, 49, 49, 49, 48, 48, 49, 49, 49, 49, 49, 49, 48]⟩, .int .i64 0]) ∧ Below w.heap.size w w' :=
  (Frame_any (some ⟨g, 0, none⟩) 2 [⟨#[49, 49, 49, 49, 49, 49]⟩, ⟨#[]⟩] w (fun j hj => ⟨g, 0, rfl, by
    rw [Nat.zero_add, h.cell j]
    match j, hj with
    | 0, _ => rfl
    | 1, _ => rfl⟩) (by simp)).mono fun e w' ⟨he, hb⟩ => ⟨by
      rw [he, show frO [⟨#[49, 49, 49, 49, 49, 49]⟩, ⟨#[]⟩] = [48, 49, 49, 49, 49, 49, 49, 48, 49, 49, 49, 49, 49, 48, 49, 48, 49, 49, 49, 49, 49, 49, 48, 48, 49, 49, 49, 49, 49, 49, 48] by decide +kernel, show frE [⟨#[49, 49, 49, 49, 49, 49]⟩, ⟨#[]⟩] = 0 by decide +kernel], hb⟩

set_option maxHeartbeats 1000000 in
set_option maxRecDepth 100000 in
theorem awake_any (w : World) (hm : Mx w) : Calls Tryd.prog 12 #[] w fun e w' => e = .returned (.bool true) ∧ Below w.heap.size w w' := by
  go_enter Tryd.func12, Tryd.ntmps12
  go_wp2_with fail
  refine (ex_stuff _).mono ?_
  rintro e w1 ⟨rfl, h1⟩
  have HM1 := Lib.hid (hm.below h1 (Nat.le_refl _))
  have H1 := Lib.hid h1; clear h1
  go_wp2_with fail
  refine (ex_pad _ HM1.out).mono ?_
  rintro e w2 ⟨rfl, h2⟩
  have H2 := Lib.hid (H1.out.trans (h2.mono H1.out.size)); clear h2
  go_wp2_with fail
  refine (ex_frame _ _ ?hrow).mono ?_
  case hrow => exact row_new w2 9 [.string ⟨#[49, 49, 49, 49, 49, 49]⟩, .string ⟨#[]⟩]
  rintro e w3 ⟨rfl, h3⟩
  have H3 := Lib.hid ((H2.out.alloc H2.out.size (.cells #[.string ⟨#[49, 49, 49, 49, 49, 49]⟩, .string ⟨#[]⟩] 9)).trans (h3.mono (by have := H2.out.size; simp; omega))); clear h3
  go_wp2_with fail
  refine (ex_unstuff _).mono ?_
  rintro e w4 ⟨rfl, h4⟩
  have H4 := Lib.hid (H3.out.trans (h4.mono H3.out.size)); clear h4
  go_wp2_with fail
  go_ret
  exact ⟨rfl, H4.out⟩
end Go.Proofs.YtdalcopbaaabiaaDoor
