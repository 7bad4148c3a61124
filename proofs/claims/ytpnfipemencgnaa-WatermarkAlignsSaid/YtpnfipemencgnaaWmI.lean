/-
  awake returns true.
-/
import Derived.Test.YtpnfipemencgnaaWmF
import Derived.Test.YtpnfipemencgnaaWmG
import Derived.Test.YtpnfipemencgnaaWmH
namespace Go.Proofs.Ytpnfipemencgnaa
open Go.RowKit

theorem wc00 (r : List UInt8) : wc [] r = 2 * r.length := by simp [wc]
theorem wc0 (a : UInt8) (m : List UInt8) : wc (a :: m) [] = 2 * (a :: m).length := by simp [wc]
theorem wc1 (a b : UInt8) (m r : List UInt8) : wc (a :: m) (b :: r) = min (min (2 + wc m (b :: r)) (2 + wc (a :: m) r)) (dif a b + wc m r) := by rw [wc]
theorem al_ex1 : alL [48, 48, 49, 49] [48, 49, 49] = [0, -1, 1, 2] := by simp [alL, alI, pkI, hit, wcI_eq, wc1, wc0, wc00, dif]
theorem wc_ex1 : wc [48, 48, 49, 49] [48, 49, 49] = 2 := by simp [wc1, wc0, wc00, dif]
theorem al_ex2 : alL [48, 49] [49, 48] = [0, 1] := by simp [alL, alI, pkI, hit, wcI_eq, wc1, wc0, wc00, dif]
theorem wc_ex2 : wc [48, 49] [49, 48] = 2 := by simp [wc1, wc0, wc00, dif]

theorem ex_align1 (w : World) : Calls Try.prog 15 #[.string ⟨#[48, 48, 49, 49]⟩, .string ⟨#[48, 49, 49]⟩] w fun e w' => ∃ v, e = .returned (.tuple #[v, .int .i64 2, .int .i64 0]) ∧ Own w' w.heap.size 3 v (ints [0, -1, 1, 2]) ∧ Below w.heap.size w w' :=
  (walign_any ⟨#[48, 48, 49, 49]⟩ ⟨#[48, 49, 49]⟩ w).mono fun e w' ⟨v, he, ho, hb⟩ => by
    have k : chkA [48, 48, 49, 49] [48, 49, 49] = 0 := by decide +kernel
    have c : costV [48, 48, 49, 49] [48, 49, 49] = 2 := by rw [costV, if_pos k, wc_ex1]; rfl
    rw [alE_ok k, al_ex1] at ho
    rw [k, c] at he
    exact ⟨v, he, ho, hb⟩
theorem ex_align2 (w : World) : Calls Try.prog 15 #[.string ⟨#[48, 49]⟩, .string ⟨#[49, 48]⟩] w fun e w' => ∃ v, e = .returned (.tuple #[v, .int .i64 2, .int .i64 0]) ∧ Own w' w.heap.size 3 v (ints [0, 1]) ∧ Below w.heap.size w w' :=
  (walign_any ⟨#[48, 49]⟩ ⟨#[49, 48]⟩ w).mono fun e w' ⟨v, he, ho, hb⟩ => by
    have k : chkA [48, 49] [49, 48] = 0 := by decide +kernel
    have c : costV [48, 49] [49, 48] = 2 := by rw [costV, if_pos k, wc_ex2]; rfl
    rw [alE_ok k, al_ex2] at ho
    rw [k, c] at he
    exact ⟨v, he, ho, hb⟩
theorem ex_mark (w : World) : Calls Try.prog 33 #[.int .i64 1, .int .i64 0] w fun e w' => e = .returned (.tuple #[.string ⟨#[48]⟩, .int .i64 0]) ∧ Below w.heap.size w w' :=
  (mark_any 1 0 w).mono fun e w' ⟨he, hb⟩ => ⟨by rw [he, show mkV 1 0 = [48] by decide +kernel, show mkE 1 0 = 0 by decide +kernel], hb⟩
theorem ex_add (w : World) : Calls Try.prog 28 #[.string ⟨#[48, 49, 49, 48]⟩, .string ⟨#[48, 48, 49, 49]⟩] w fun e w' => e = .returned (.tuple #[.string ⟨#[48, 49, 48, 49]⟩, .int .i64 0]) ∧ Below w.heap.size w w' :=
  (add_any ⟨#[48, 49, 49, 48]⟩ ⟨#[48, 48, 49, 49]⟩ w).mono fun e w' ⟨he, hb⟩ => ⟨by rw [he, show adV (⟨#[48, 49, 49, 48]⟩ : ByteArray).data.toList (⟨#[48, 48, 49, 49]⟩ : ByteArray).data.toList = [48, 49, 48, 49] by decide +kernel, show adE (⟨#[48, 49, 49, 48]⟩ : ByteArray).data.toList (⟨#[48, 48, 49, 49]⟩ : ByteArray).data.toList = 0 by decide +kernel], hb⟩

set_option maxHeartbeats 800000 in
set_option maxRecDepth 100000 in
theorem awake_any (w : World) : Calls Try.prog 13 #[] w fun e w' => e = .returned (.bool true) ∧ Below w.heap.size w w' := by
  go_enter Try.func13, Try.ntmps13
  go_wp2_with fail
  refine (ex_align1 _).mono ?_
  rintro e w1 ⟨v1, rfl, o1, h1⟩
  have O1 := Lib.hid o1; clear o1
  have H1 := Lib.hid h1; clear h1
  go_wp2_with fail
  refine (ex_align2 _).mono ?_
  rintro e w2 ⟨v2, rfl, o2, h2⟩
  have O1 := Lib.hid (O1.out.below h2)
  have O2 := Lib.hid o2; clear o2
  have H2 := Lib.hid h2; clear h2
  go_wp2_with fail
  refine (ex_mark _).mono ?_
  rintro e w3 ⟨rfl, h3⟩
  have O1 := Lib.hid (O1.out.below h3)
  have O2 := Lib.hid (O2.out.below h3)
  have H3 := Lib.hid h3; clear h3
  go_wp2_with fail
  refine (ex_add _).mono ?_
  rintro e w4 ⟨rfl, h4⟩
  have O1 := Lib.hid (O1.out.below h4)
  have O2 := Lib.hid (O2.out.below h4)
  have H4 := Lib.hid h4; clear h4
  go_wp2_with fail
  refine (equal_holds (O1.out.alloc _).holds (row_new w4 3 (ints [0, -1, 1, 2])).holds (by decide) (by decide)).mono ?_
  rintro e w5 ⟨rfl, q, rfl⟩
  have R2 := Lib.hid (show Row ((w4.alloc (.cells #[.int .i64 0, .int .i64 (-1), .int .i64 1, .int .i64 2] 3)).alloc (.cells #[.int .i64 0, .int .i64 1] 3)) (w4.heap.size + 1) 3 (ints [0, 1]) by
    have := row_new (w4.alloc (.cells #[.int .i64 0, .int .i64 (-1), .int .i64 1, .int .i64 2] 3)) 3 (ints [0, 1])
    rwa [World.size_alloc] at this)
  have O2 := Lib.hid ((O2.out.alloc (.cells #[.int .i64 0, .int .i64 (-1), .int .i64 1, .int .i64 2] 3)).alloc (.cells #[.int .i64 0, .int .i64 1] 3))
  have s1 := H1.out.size
  have s2 := H2.out.size
  have s3 := H3.out.size
  have s4 := H4.out.size
  have HB := Lib.hid (show Below w.heap.size w w4 from ext_trans H1.out (ext_trans H2.out (ext_trans H3.out H4.out)))
  have HS : Hid (w.heap.size ≤ w4.heap.size) := Lib.hid (by omega)
  clear s1 s2 s3 s4
  go_wp2_with fail
  trace_state
  refine (equal_holds (O2.out.drewN q).holds (R2.out.drewN q).holds (by decide) (by decide)).mono ?_
  rintro e w6 ⟨rfl, q2, rfl⟩
  go_wp2_with fail
  go_ret
  exact ⟨rfl, below_drewN (((HB.out.alloc HS.out _).alloc (by have := HS.out; simp; omega) _)) _⟩
end Go.Proofs.Ytpnfipemencgnaa
