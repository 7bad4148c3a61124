/-
  The example of the chapter.
-/
import Derived.Test.YtagelndnhpijfaaRnB
import Derived.Test.YtagelndnhpijfaaRnE
import Derived.Test.YtagelndnhpijfaaRnG
import Derived.Test.YtagelndnhpijfaaRnH
namespace Go.Proofs.Ytagelndnhpijfaa
open Go.RowKit

def exs : ByteArray := ⟨#[48, 48, 49, 48, 49, 49, 49]⟩
theorem ex_split (w : World) : Calls Try.prog 22 #[.string ⟨#[48, 48, 49, 48, 49, 49, 49]⟩] w fun e w' => ∃ v, e = .returned (.tuple #[v, .int .i64 0]) ∧ Own2 w' w.heap.size 50 v [(0, 2), (1, 1), (0, 1), (1, 3)] ∧ Below w.heap.size w w' := by
  have h1 : chk 16 exs.data.toList = 0 := by kernel_rfl
  have h2 : spV exs.data.toList = [(0, 2), (1, 1), (0, 1), (1, 3)] := by kernel_rfl
  have := Split_any exs w
  rw [h1, h2] at this
  exact this
theorem ex_levels (w : World) : Calls Try.prog 21 #[.int .i64 0, .string ⟨#[48, 48, 49, 48, 49, 49, 49]⟩] w fun e w' => e = .returned (.tuple #[.string ⟨#[48, 48, 49, 49, 48, 49, 48]⟩, .int .i64 0]) ∧ Below w.heap.size w w' := by
  have h1 : lvE 0 exs.data.toList = 0 := by kernel_rfl
  have h2 : (lvV 0 exs.data.toList).toArray = #[48, 48, 49, 49, 48, 49, 48] := by kernel_rfl
  have := Levels_any 0 exs w
  rw [h1, h2] at this
  exact this
theorem ex_charges (w : World) : Calls Try.prog 13 #[.string ⟨#[48, 48, 49, 48, 49, 49, 49]⟩] w fun e w' => ∃ v, e = .returned (.tuple #[v, .int .i64 0]) ∧ Own w' w.heap.size 3 v (ints [0, -1, -2, -1, -2, -1, 0, 1]) ∧ Below w.heap.size w w' := by
  have h1 : chk 2 exs.data.toList = 0 := by kernel_rfl
  have h2 : chgV exs.data.toList = [0, -1, -2, -1, -2, -1, 0, 1] := by kernel_rfl
  have := Charges_any exs w
  rw [h1, h2] at this
  exact this
theorem ex_range (w : World) : Calls Try.prog 17 #[.string ⟨#[48, 48, 49, 48, 49, 49, 49]⟩] w fun e w' => e = .returned (.tuple #[.int .i64 (-2), .int .i64 1, .int .i64 0]) ∧ Below w.heap.size w w' := by
  have h1 : chk 2 exs.data.toList = 0 := by kernel_rfl
  have h2 : loV exs.data.toList = -2 := by kernel_rfl
  have h3 : hiV exs.data.toList = 1 := by kernel_rfl
  have := Range_any exs w
  rw [h1, h2, h3] at this
  exact this
theorem ex_disparity (w : World) : Calls Try.prog 15 #[.string ⟨#[48, 48, 49, 48, 49, 49, 49]⟩] w fun e w' => e = .returned (.tuple #[.int .i64 1, .int .i64 0]) ∧ Below w.heap.size w w' := by
  have h1 : chk 2 exs.data.toList = 0 := by kernel_rfl
  have h2 : dsV exs.data.toList = 1 := by kernel_rfl
  have := Disparity_any exs w
  rw [h1, h2] at this
  exact this
theorem ex_longest (w : World) : Calls Try.prog 32 #[.string ⟨#[48, 48, 49, 48, 49, 49, 49]⟩, .int .i64 1] w fun e w' => e = .returned (.tuple #[.int .i64 3, .int .i64 0]) ∧ Below w.heap.size w w' := by
  have h1 : lgE 1 exs.data.toList = 0 := by kernel_rfl
  have h2 : lgV 1 exs.data.toList = 3 := by kernel_rfl
  have := Longest_any exs 1 w
  rw [h1, h2] at this
  exact this

set_option maxHeartbeats 1000000 in
set_option maxRecDepth 100000 in
theorem awake_any (w : World) :
    Calls Try.prog 12 #[] w fun e w' => e = .returned (.bool true) ∧ Below w.heap.size w w' := by
  go_enter Try.func12, Try.ntmps12
  go_wp2_with fail
  refine (ex_split _).mono ?_
  rintro e w1 ⟨v, rfl, ho1, hb1⟩
  have HO1 := Lib.hid ho1; clear ho1
  have HB1 := Lib.hid hb1; clear hb1
  go_wp2_with fail
  refine (ex_levels _).mono ?_
  rintro e w2 ⟨rfl, hb2⟩
  have HO2 := Lib.hid (HO1.out.below hb2)
  have HB2 := Lib.hid (HB1.out.trans (hb2.mono HB1.out.size)); clear hb2 HO1 HB1
  go_wp2_with fail
  refine (ex_charges _).mono ?_
  rintro e w3 ⟨c, rfl, hc3, hb3⟩
  have HC3 := Lib.hid hc3; clear hc3
  have HO3 := Lib.hid (HO2.out.below hb3)
  have HB3 := Lib.hid (HB2.out.trans (hb3.mono HB2.out.size)); clear hb3 HO2 HB2
  go_wp2_with fail
  refine (ex_range _).mono ?_
  rintro e w4 ⟨rfl, hb4⟩
  have HC4 := Lib.hid (HC3.out.below hb4)
  have HO4 := Lib.hid (HO3.out.below hb4)
  have HB4 := Lib.hid (HB3.out.trans (hb4.mono HB3.out.size)); clear hb4 HO3 HB3 HC3
  go_wp2_with fail
  refine (ex_disparity _).mono ?_
  rintro e w5 ⟨rfl, hb5⟩
  have HC5 := Lib.hid (HC4.out.below hb5)
  have HO5 := Lib.hid (HO4.out.below hb5)
  have HB5 := Lib.hid (HB4.out.trans (hb5.mono HB4.out.size)); clear hb5 HO4 HB4 HC4
  go_wp2_with fail
  refine (ex_longest _).mono ?_
  rintro e w6 ⟨rfl, hb6⟩
  have HC6 := Lib.hid (HC5.out.below hb6)
  have HO6 := Lib.hid (HO5.out.below hb6).holds
  have HB6 := Lib.hid (HB5.out.trans (hb6.mono HB5.out.size)); clear hb6 HO5 HB5 HC5
  go_wp2_with fail
  refine (Same_any _ _ _ [(0, 2), (1, 1), (0, 1), (1, 3)] _ (HO6.out.below ((Below.refl _ _).alloc (Nat.le_refl _) _)) (own2_lit w6 0 _ [(0, 2), (1, 1), (0, 1), (1, 3)] (Nat.zero_le _) (by unfold maxLen; simp)).holds (by simp) (by simp)).mono ?_
  rintro e w7 ⟨rfl, n7, rfl⟩
  have hd : decide ([((0 : Int), (2 : Int)), (1, 1), (0, 1), (1, 3)] = [(0, 2), (1, 1), (0, 1), (1, 3)]) = true := by decide
  rw [hd]
  have HB7 := Lib.hid (below_drewN (HB6.out.alloc HB6.out.size (.cells (pcells [(0, 2), (1, 1), (0, 1), (1, 3)]).toArray 50)) n7)
  go_wp2_with fail
  have hr := row_new ((w6.alloc (.cells (pcells [(0, 2), (1, 1), (0, 1), (1, 3)]).toArray 50)).drewN n7) 3 (ints [0, -1, -2, -1, -2, -1, 0, 1])
  have hsz : ((w6.alloc (.cells (pcells [(0, 2), (1, 1), (0, 1), (1, 3)]).toArray 50)).drewN n7).heap.size = w6.heap.size + 1 := by simp
  rw [hsz] at hr
  refine (equal_holds ((((HC6.out.alloc _).drewN n7).alloc _).holds) (Row.holds hr) (by simp) (by simp)).mono ?_
  rintro e w8 ⟨rfl, n8, rfl⟩
  have hd2 : (([0, -1, -2, -1, -2, -1, 0, 1] : List Int) == [0, -1, -2, -1, -2, -1, 0, 1]) = true := by decide
  rw [hd2]
  have HB8 := Lib.hid (below_drewN (HB7.out.alloc HB7.out.size (.cells (ints [0, -1, -2, -1, -2, -1, 0, 1]).toArray 3)) n8)
  go_wp2_with fail
  go_ret
  exact ⟨rfl, HB8.out⟩
end Go.Proofs.Ytagelndnhpijfaa
