/-
  WatermarkDistance returns true for every input: the walk.
-/
import Derived.Test.YtpnfipemencgnaaWmI
import Derived.Test.YtpnfipemencgnaaWmJ
import Derived.Test.YtpnfipemencgnaaWmP
import Derived.OpenShut
namespace Go.Proofs.Ytpnfipemencgnaa
open Go.RowKit

theorem bin_ok {n : Int} {s : ByteArray} (h : bin n s = true) : (s.size : Int) ≤ n ∧ chk 2 s.data.toList = 0 := by
  unfold bin at h
  rw [Bool.and_eq_true, decide_eq_true_eq, beq_iff_eq] at h
  exact h
theorem chkA_mk {m r : List UInt8} (h1 : chk 2 m = 0) (h2 : chk 2 r = 0) (h3 : m.length ≤ 256) (h4 : r.length ≤ 256) : chkA m r = 0 := by
  rw [chkA, chk2, if_pos h1, if_pos h2, if_neg (by omega)]
/-- Cost at binary words that are short enough. -/
theorem cost_bin {u v : ByteArray} (hu : bin 24 u = true) (hv : bin 24 v = true) (w : World) :
    Calls Try.prog 14 #[.string u, .string v] w fun e w' => e = .returned (.tuple #[.int .i64 (wc u.data.toList v.data.toList : Nat), .int .i64 0]) ∧ Below w.heap.size w w' := by
  have h1 := bin_ok hu
  have h2 := bin_ok hv
  have hk : chkA u.data.toList v.data.toList = 0 := chkA_mk h1.2 h2.2 (by have : u.data.toList.length = u.size := rfl; omega) (by have : v.data.toList.length = v.size := rfl; omega)
  refine (cost_any u v w).mono fun e w' ⟨he, hb⟩ => ⟨?_, hb⟩
  rw [he, hk, costV, if_pos hk]

theorem strs3 (w : World) (a b c : ByteArray) : Strs (w.alloc (.cells #[.string a, .string b, .string c] 9)) w.heap.size 0 [a, b, c] := by
  intro j hj
  have := (row_new w 9 [.string a, .string b, .string c]).cell j
  rw [Nat.zero_add]
  refine this.trans ?_
  match j, hj with
  | 0, _ => rfl
  | 1, _ => rfl
  | 2, _ => rfl

set_option maxHeartbeats 1000000 in
set_option maxRecDepth 100000 in
theorem law_watermarkDistance (u v x : ByteArray) (_hu : u.size ≤ maxLen) (_hv : v.size ≤ maxLen) (_hx : x.size ≤ maxLen) (w : World) :
    Calls Try.prog 3 #[.string u, .string v, .string x] w fun e w' => e = .returned (.bool true) ∧ Below w.heap.size w w' := by
  have HN := Lib.hid (binary_any 24 w.heap.size 0 3 [u, v, x] _ (strs3 w u v x) (by simp) (by simp))
  clear _hu _hv _hx
  by_cases hall : [u, v, x].all (bin 24) = true
  · have h3 := hall
    simp only [List.all_cons, List.all_nil, Bool.and_true, Bool.and_eq_true] at h3
    obtain ⟨bu, bv, bx⟩ := h3
    have lu := (bin_ok bu).1
    have lv := (bin_ok bv).1
    have C1 := Lib.hid (fun w => cost_bin bu bv w)
    have C2 := Lib.hid (fun w => cost_bin bv bu w)
    have C3 := Lib.hid (fun w => cost_bin bu bx w)
    have C4 := Lib.hid (fun w => cost_bin bx bv w)
    have e1 := wc_comm v.data.toList u.data.toList
    rw [e1] at C2
    have t1 := wc_tri _ u.data.toList x.data.toList v.data.toList (Nat.le_refl _)
    have l1 := wc_len u.data.toList v.data.toList
    have l2 := wc_len' u.data.toList v.data.toList
    have z1 := wc_zero u.data.toList v.data.toList
    have z2 := wc_self u.data.toList
    have b1 := wc_le u.data.toList v.data.toList
    have b2 := wc_le u.data.toList x.data.toList
    have b3 := wc_le x.data.toList v.data.toList
    have q1 : u.data.toList.length = u.size := rfl
    have q2 : v.data.toList.length = v.size := rfl
    have q3 : x.data.toList.length = x.size := rfl
    have lx := (bin_ok bx).1
    rw [q1, q2] at l1 l2 b1
    rw [q1, q3] at b2
    rw [q3, q2] at b3
    clear q1 q2 q3 e1
    have HALL := Lib.hid hall
    have HZ : Hid (∃ b : Bool, (((wc u.data.toList v.data.toList : Nat) : Int) == 0) = b ∧ (u.toList == v.toList) = b) := Lib.hid (by
      rw [ByteArray.toList_eq, ByteArray.toList_eq]
      by_cases huv : u.data.toList = v.data.toList
      · rw [← huv, z2]; exact ⟨true, by simp⟩
      · have : wc u.data.toList v.data.toList ≠ 0 := fun h => huv (z1 h)
        have e1 : (((wc u.data.toList v.data.toList : Nat) : Int) == 0) = false := by simp; omega
        have e2 : (u.data.toList == v.data.toList) = false := by simpa using huv
        exact ⟨false, e1, e2⟩)
    clear z1 z2 hall
    generalize wc u.data.toList v.data.toList = a at *
    generalize wc u.data.toList x.data.toList = c at *
    generalize wc x.data.toList v.data.toList = d at *
    clear bu bv bx
    go_enter Try.func3, Try.ntmps3
    go_wp2_with fail
    refine HN.out.mono ?_
    rintro e w0 ⟨rfl, h0⟩
    rw [HALL.out]
    have H0 := Lib.hid h0; clear h0
    go_wp2_with fail
    refine (C1.out _).mono ?_
    rintro e w1 ⟨rfl, h1⟩
    have H1 := Lib.hid h1; clear h1
    go_wp2_with fail
    refine (C2.out _).mono ?_
    rintro e w2 ⟨rfl, h2⟩
    have H2 := Lib.hid h2; clear h2
    go_wp2_with fail
    refine (C3.out _).mono ?_
    rintro e w3 ⟨rfl, h3⟩
    have H3 := Lib.hid h3; clear h3
    go_wp2_with fail
    refine (C4.out _).mono ?_
    rintro e w4 ⟨rfl, h4⟩
    have H4 := Lib.hid h4; clear h4
    obtain ⟨b, hz1, hz2⟩ := HZ.out
    go_wp2_with fail
    refine (awake_any _).mono ?_
    rintro e w5 ⟨rfl, h5⟩
    have H5 := Lib.hid h5; clear h5
    go_wp2_with fail
    go_ret
    exact ⟨rfl, ((Below.refl _ _).alloc (Nat.le_refl _) _).trans ((ext_trans H0.out (ext_trans H1.out (ext_trans H2.out (ext_trans H3.out (ext_trans H4.out H5.out))))).mono (by simp))⟩
  · have hall' : [u, v, x].all (bin 24) = false := by simpa using hall
    clear hall
    go_enter Try.func3, Try.ntmps3
    go_wp2_with fail
    refine HN.out.mono ?_
    rintro e w1 ⟨rfl, h1⟩
    rw [hall']
    clear hall'
    have H1 := Lib.hid h1; clear h1
    go_wp2_with fail
    refine (awake_any _).mono ?_
    rintro e w2 ⟨rfl, h2⟩
    have H2 := Lib.hid h2; clear h2
    go_wp2_with fail
    go_ret
    exact ⟨rfl, ((Below.refl _ _).alloc (Nat.le_refl _) _).trans ((ext_trans H1.out H2.out).mono (by simp))⟩
end Go.Proofs.Ytpnfipemencgnaa
