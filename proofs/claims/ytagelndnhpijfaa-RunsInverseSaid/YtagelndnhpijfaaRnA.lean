/-
  The charges of binary words: the plain function chS; the contracts of charges, Charges and Disparity and of their references.
-/
import Derived.Test.YtagelndnhpijfaaPl
import Derived.Test.YtagelndnhpijfaaByt
namespace Go.Proofs.Ytagelndnhpijfaa
open Go.RowKit

def stp (c : UInt8) : Int := if c = 49 then 1 else -1
/-- The charge of the first k letters. -/
def chS (l : List UInt8) : Nat → Int
  | 0 => 0
  | k + 1 => chS l k + stp (l.getD k 0)
def chL (l : List UInt8) (k : Nat) : List Int := (List.range (k + 1)).map (chS l)
theorem chL_zero (l : List UInt8) : chL l 0 = [0] := rfl
theorem chL_succ (l : List UInt8) (k : Nat) : chL l (k + 1) = chL l k ++ [chS l (k + 1)] := by simp [chL, List.range_succ]
theorem chL_len (l : List UInt8) (k : Nat) : (chL l k).length = k + 1 := by simp [chL]
theorem chL_get (l : List UInt8) (k j : Nat) (h : j ≤ k) : (chL l k)[j]? = some (chS l j) := by
  rw [chL, List.getElem?_map, List.getElem?_range (by omega)]; rfl
theorem chS_bd (l : List UInt8) : ∀ k : Nat, -(k : Int) ≤ chS l k ∧ chS l k ≤ k
  | 0 => by simp [chS]
  | k + 1 => by
    have := chS_bd l k
    rw [chS, stp]; split <;> omega

theorem getD_at (s : ByteArray) (k : Nat) (h : k < s.size) : s.data.toList.getD k 0 = s[k] := by
  rw [List.getD_eq_getElem?_getD, List.getElem?_eq_getElem (by simpa using h)]; rfl

set_option maxHeartbeats 1000000 in
set_option maxRecDepth 100000 in
theorem charges_any (s : ByteArray) (w : World) (hs : s.size ≤ 65536) :
    Calls Try.prog 38 #[.string s] w fun e w' => ∃ v, e = .returned v ∧ Own w' w.heap.size 3 v (ints (chL s.data.toList s.size)) ∧ Below w.heap.size w w' := by
  go_enter Try.func38, Try.ntmps38
  go_wp2_with fail
  have HO := Lib.hid (own_lit w w.heap.size 3 [.int .i64 0] (Nat.le_refl _) (by unfold maxLen; simp))
  go_loopw [3, 9] (fun v i wr => ∃ k : Nat, k ≤ s.size ∧ i = .int .i64 k ∧ Own wr w.heap.size 3 v (ints (chL s.data.toList k)) ∧ Below w.heap.size w wr) (fun _ i _ => s.size - (intOf i).toNat)
  case atStart => exact ⟨0, by omega, rfl, HO.out, (Below.refl _ _).alloc (Nat.le_refl _) _⟩
  case round =>
    obtain ⟨k, hk, rfl, hown, hb⟩ := hrel
    have HW := Lib.hid hown; clear hown
    have HB := Lib.hid hb; clear hb
    by_cases hlt : k < s.size
    · have HSZ := Lib.hid HB.out.size
      have hbd := chS_bd s.data.toList k
      have HCL := Lib.hid (chL_len s.data.toList k)
      rcases HW.out.cases with ⟨h1, h2⟩ | ⟨g, cap, rfl, hg1, hg2, hg3, hg4, hg5⟩
      · have := congrArg List.length h2
        rw [ints_len, chL_len] at this; simp at this
      · have cK := hg4 k (by rw [ints_len, chL_len]; omega)
        rw [ints_get, chL_get _ _ _ (Nat.le_refl _)] at cK
        have cK' : wr.cell? ⟨g, k, none⟩ = some (.int .i64 (chS s.data.toList k)) := cK
        have hil : (ints (chL s.data.toList k)).length = k + 1 := by rw [ints_len, chL_len]
        clear cK hg1 hg2 hg3 hg4 hg5
        have HS := Lib.hid (show chS s.data.toList (k + 1) = chS s.data.toList k + stp s[k] by rw [chS, getD_at s k hlt])
        have HW2 := Lib.hid (show Own wr w.heap.size 3 (.slice (some ⟨g, 0, none⟩) (k + 1) cap) (ints (chL s.data.toList k)) by have := HW.out; rwa [hil] at this)
        have HIL := Lib.hid hil
        rw [hil]
        clear hil
        by_cases h1 : s[k] = 49
        · have hb : (((s[k].toNat : Nat) : Int) == 49) = true := by rw [h1]; rfl
          have HS2 := Lib.hid (show chS s.data.toList (k + 1) = chS s.data.toList k + 1 by rw [HS.out, stp, if_pos h1])
          clear h1
          go_wp2_with (at_builtin; refine wpList_app1 _ rfl _ _ _ rfl w.heap.size 3 (.int .i64 0) 8 Try.underlying24 (by kernel_rfl) rfl _ _ rfl (HW2.out.alloc _) wr.heap.size 1 (.int .i64 (chS s.data.toList k + 1)) rfl ((row_new wr 3 [.int .i64 (chS s.data.toList k + 1)]).cell 0) rfl ?c1 ?c2 ?c3 ?_)
          case c1 => rw [HIL.out]; omega
          case c2 => rw [HIL.out]; omega
          case c3 => exact Nat.le_trans HSZ.out (by simp)
          intro v' w3 hown' hgrow _
          have HO3 := Lib.hid hown'; clear hown'
          have HB3 := Lib.hid (below_grown (HB.out.alloc HSZ.out _) (HW2.out.alloc _) hgrow (Nat.le_trans HSZ.out (by simp))); clear hgrow
          go_wp2_with fail
          go_roundw
          case rel => exact ⟨k + 1, by omega, by go_num, by rw [chL_succ, HS2.out, ← ints_app]; exact HO3.out, HB3.out⟩
          case measure => simp [intOf]; omega
        · have hb : (((s[k].toNat : Nat) : Int) == 49) = false := by
            rw [beq_eq_false_iff_ne]; intro he; apply h1; rw [← UInt8.toNat_inj]
            have e : (49 : UInt8).toNat = 49 := rfl
            omega
          have HS2 := Lib.hid (show chS s.data.toList (k + 1) = chS s.data.toList k + -1 by rw [HS.out, stp, if_neg h1])
          clear h1
          go_wp2_with (at_builtin; refine wpList_app1 _ rfl _ _ _ rfl w.heap.size 3 (.int .i64 0) 8 Try.underlying24 (by kernel_rfl) rfl _ _ rfl (HW2.out.alloc _) wr.heap.size 1 (.int .i64 (chS s.data.toList k + -1)) rfl ((row_new wr 3 [.int .i64 (chS s.data.toList k + -1)]).cell 0) rfl ?c1 ?c2 ?c3 ?_)
          case c1 => rw [HIL.out]; omega
          case c2 => rw [HIL.out]; omega
          case c3 => exact Nat.le_trans HSZ.out (by simp)
          intro v' w3 hown' hgrow _
          have HO3 := Lib.hid hown'; clear hown'
          have HB3 := Lib.hid (below_grown (HB.out.alloc HSZ.out _) (HW2.out.alloc _) hgrow (Nat.le_trans HSZ.out (by simp))); clear hgrow
          go_wp2_with fail
          go_roundw
          case rel => exact ⟨k + 1, by omega, by go_num, by rw [chL_succ, HS2.out, ← ints_app]; exact HO3.out, HB3.out⟩
          case measure => simp [intOf]; omega
    · obtain rfl : k = s.size := by omega
      have hd : decide ((s.size : Int) < (s.size : Int)) = false := by simp
      go_wp2_with fail
      go_ret
      exact ⟨_, rfl, HW.out, HB.out⟩
end Go.Proofs.Ytagelndnhpijfaa
