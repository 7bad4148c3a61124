/-
  The contracts of the reference for interleaving: fits, position, positions, put, Block, Unblock.
-/
import Derived.Test.YtgjlhjklcgladaaIlvD
import Derived.Test.YtgjlhjklcgladaaApp
namespace Go.Proofs.Ytgjlhjklcgladaa
open Go.RowKit

def refFits (rows n : Int) : Int := if rows < 1 ∨ 65536 < rows then 2 else if n % rows ≠ 0 then 11 else 0

set_option maxHeartbeats 400000 in
theorem refFits_any (rows n : Int) (w : World) (hn : 0 ≤ n) :
    Calls Try.prog 34 #[.int .i64 rows, .int .i64 n] w fun e w' => e = .returned (.int .i64 (refFits rows n)) ∧ w = w' := by
  by_cases h1 : rows < 1
  · have H := Lib.hid (show refFits rows n = 2 by rw [refFits, if_pos (by omega)])
    go_enter Try.func34, Try.ntmps34
    go_wp2
    go_ret
    exact ⟨by rw [H.out]; rfl, rfl⟩
  by_cases h2 : 65536 < rows
  · have H := Lib.hid (show refFits rows n = 2 by rw [refFits, if_pos (by omega)])
    go_enter Try.func34, Try.ntmps34
    go_wp2
    go_ret
    exact ⟨by rw [H.out]; rfl, rfl⟩
  have H0 := Lib.hid (show refFits rows n = if n % rows ≠ 0 then 11 else 0 by rw [refFits, if_neg (by omega)])
  have b1 : 1 ≤ rows := by omega
  clear h1
  by_cases h5 : n % rows = 0
  · have H := Lib.hid (show refFits rows n = 0 by rw [H0.out, if_neg (by omega)])
    have h5' : (n % rows != 0) = false := by simp [h5]
    clear h5
    go_enter Try.func34, Try.ntmps34
    go_wp2
    go_ret
    exact ⟨by rw [H.out]; rfl, rfl⟩
  · have H := Lib.hid (show refFits rows n = 11 by rw [H0.out, if_pos h5])
    have h5' : (n % rows != 0) = true := by simp [h5]
    clear h5
    go_enter Try.func34, Try.ntmps34
    go_wp2
    go_ret
    exact ⟨by rw [H.out]; rfl, rfl⟩

set_option maxHeartbeats 400000 in
theorem refPosition_in (r n i : Nat) (w : World) (hr1 : 1 ≤ r) (hr : r ≤ 65536) (hn : n ≤ 65536) (hc : 1 ≤ n / r) (hi : i ≤ 65536) :
    Calls Try.prog 39 #[.int .i64 r, .int .i64 n, .int .i64 i] w fun e w' => e = .returned (.int .i64 (posn (n / r) r i)) ∧ ∃ m, w' = w.drewN m := by
  have hd : (n : Int) / r ≤ 65536 := by
    have := Nat.div_le_self n r
    omega
  have hd0 : 1 ≤ (n : Int) / r := by
    have h : ((1 : Nat) : Int) ≤ ((n / r : Nat) : Int) := Int.ofNat_le.2 hc
    exact h
  have hm : (i : Int) % ((n : Int) / r) * r ≤ 65536 * 65536 := by
    have : i % (n / r) * r ≤ 65536 * 65536 := Nat.mul_le_mul (Nat.le_trans (Nat.mod_le _ _) hi) hr
    have h : ((i % (n / r) * r : Nat) : Int) ≤ ((65536 * 65536 : Nat) : Int) := Int.ofNat_le.2 this
    exact h
  have hm0 : 0 ≤ (i : Int) % ((n : Int) / r) * r := by
    have h : ((0 : Nat) : Int) ≤ ((i % (n / r) * r : Nat) : Int) := Int.ofNat_le.2 (Nat.zero_le _)
    exact h
  have he : (i : Int) / ((n : Int) / r) ≤ 65536 := by
    have h : ((i / (n / r) : Nat) : Int) ≤ ((65536 : Nat) : Int) := Int.ofNat_le.2 (Nat.le_trans (Nat.div_le_self _ _) hi)
    exact h
  have he0 : 0 ≤ (i : Int) / ((n : Int) / r) := by
    have h : ((0 : Nat) : Int) ≤ ((i / (n / r) : Nat) : Int) := Int.ofNat_le.2 (Nat.zero_le _)
    exact h
  go_enter Try.func39, Try.ntmps39
  go_wp2
  go_quiet (fail)
  go_wp2
  go_ret
  exact ⟨rfl, _, rfl⟩

/-- The letters' places, as cells. -/
def places (to : Nat → Nat) (k : Nat) : List Value := (List.range k).map fun i => .int .i64 ((to i : Nat) : Int)
theorem places_len (to : Nat → Nat) (k : Nat) : (places to k).length = k := by simp [places]
theorem places_succ (to : Nat → Nat) (k : Nat) : places to k ++ [.int .i64 ((to k : Nat) : Int)] = places to (k + 1) := by simp [places, List.range_succ]
theorem places_get (to : Nat → Nat) (k j : Nat) (h : j < k) : (places to k)[j]? = some (.int .i64 ((to j : Nat) : Int)) := by simp [places, h]

set_option maxHeartbeats 800000 in
theorem positions_any (r n : Nat) (w : World) (hr1 : 1 ≤ r) (hr : r ≤ 65536) (hn : n ≤ 65536) (hc : n = 0 ∨ 1 ≤ n / r) :
    Calls Try.prog 36 #[.int .i64 r, .int .i64 n] w fun e w' => ∃ v, e = .returned v ∧ Own w' w.heap.size 3 v (places (posn (n / r) r) n) ∧ Below w.heap.size w w' := by
  go_enter Try.func36, Try.ntmps36
  go_wp2_with fail
  have ho := own_lit w w.heap.size 3 [] (Nat.le_refl _) (by simp)
  have HO := Lib.hid ho; clear ho
  go_loopw [5, 6] (fun v i wr => ∃ k : Nat, k ≤ n ∧ i = .int .i64 k ∧ Own wr w.heap.size 3 v (places (posn (n / r) r) k) ∧ Below w.heap.size w wr) (fun _ i _ => n - (intOf i).toNat)
  case atStart => exact ⟨0, by omega, rfl, HO.out, (Below.refl _ _).alloc (Nat.le_refl _) _⟩
  case round =>
    obtain ⟨k, hk, rfl, hown, hb⟩ := hrel
    have HW := Lib.hid hown; clear hown
    have HB := Lib.hid hb; clear hb
    by_cases hlt : k < n
    · go_wp2_with fail
      refine (refPosition_in r n k _ hr1 hr hn (by omega) (by omega)).mono ?_
      rintro e w1 ⟨rfl, m, hm⟩
      have hW1 : Own w1 w.heap.size 3 u5 (places (posn (n / r) r) k) := by rw [hm]; exact HW.out
      have hB1 : Below w.heap.size w w1 := by rw [hm]; exact below_drewN HB.out _
      clear hm
      have HW1 := Lib.hid hW1; clear hW1
      have HB1 := Lib.hid hB1; clear hB1
      have hsz := HB1.out.size
      have HSZ := Lib.hid hsz; clear hsz
      go_wp2_with (at_builtin; refine wpList_app1 _ rfl _ _ _ rfl w.heap.size 3 (.int .i64 0) 8 Try.underlying32 (by kernel_rfl) rfl _ _ rfl (HW1.out.alloc _) w1.heap.size 1 (.int .i64 ((posn (n / r) r k : Nat) : Int)) rfl ((row_new w1 3 [.int .i64 ((posn (n / r) r k : Nat) : Int)]).cell 0) rfl ?c1 ?c2 ?c3 ?_)
      case c1 => rw [places_len]; omega
      case c2 => rw [places_len]; omega
      case c3 => have := HSZ.out; simp; omega
      intro v' w2 hown2 hgr hnn
      have hown2' : Own w2 w.heap.size 3 v' (places (posn (n / r) r) (k + 1)) := by rw [← places_succ]; exact hown2
      have hb2 : Below w.heap.size w w2 := below_grown (HB1.out.alloc HSZ.out _) (HW1.out.alloc _) hgr (by have := HSZ.out; simp; omega)
      have HO2 := Lib.hid hown2'; clear hown2 hown2'
      have HB2 := Lib.hid hb2; clear hb2
      clear hgr hnn
      go_wp2_with fail
      go_roundw
      case rel => exact ⟨k + 1, by omega, by go_num, HO2.out, HB2.out⟩
      case measure => simp [intOf]; omega
    · obtain rfl : k = n := by omega
      go_wp2_with fail
      go_ret
      exact ⟨_, rfl, HW.out, HB.out⟩
end Go.Proofs.Ytgjlhjklcgladaa
