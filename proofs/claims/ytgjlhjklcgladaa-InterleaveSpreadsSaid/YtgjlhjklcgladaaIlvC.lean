/-
  put over the closure of branches, take over both closures; the closure of branches itself.
-/
import Derived.Test.YtgjlhjklcgladaaIlvB
namespace Go.Proofs.Ytgjlhjklcgladaa
open Go.RowKit

def brn (st i : Nat) : Nat := i + 3 * st * (i % 3)

set_option maxHeartbeats 400000 in
theorem branchTo_any (st i : Nat) (as' : Addr) (w : World) (hst : st ≤ 4096) (hi : i ≤ 65536) (h1 : w.cell? as' = some (.int .i64 st)) :
    Calls Try.prog 44 #[.int .i64 i, .pointer (some as')] w fun e w' => e = .returned (.int .i64 (brn st i)) ∧ ∃ n, w' = w.drewN n := by
  have hm : 3 * (st : Int) * ((i : Int) % 3) ≤ 36864 := by
    have h2 : 3 * st * (i % 3) ≤ 3 * 4096 * 3 := Nat.mul_le_mul (by omega) (by omega)
    have h : ((3 * st * (i % 3) : Nat) : Int) ≤ ((3 * 4096 * 3 : Nat) : Int) := Int.ofNat_le.2 h2
    exact h
  have hm0 : 0 ≤ 3 * (st : Int) * ((i : Int) % 3) := by
    have h : ((0 : Nat) : Int) ≤ ((3 * st * (i % 3) : Nat) : Int) := Int.ofNat_le.2 (Nat.zero_le _)
    exact h
  go_enter Try.func44, Try.ntmps44
  go_wp2
  go_ret
  exact ⟨rfl, 0, rfl⟩

set_option maxHeartbeats 400000 in
theorem branches_any (st : Nat) (w : World) :
    Calls Try.prog 38 #[.int .i64 st] w fun e w' =>
      e = .returned (.func (.func 44) #[] #[.pointer (some ⟨w.heap.size, 0, none⟩)]) ∧
      w'.cell? ⟨w.heap.size, 0, none⟩ = some (.int .i64 st) ∧ w'.heap.size = w.heap.size + 1 ∧ Below w.heap.size w w' := by
  go_enter Try.func38, Try.ntmps38
  go_wp2
  go_ret
  refine ⟨rfl, ?_, ?_, ?_⟩
  · exact (row_new w 3 [.int .i64 st]).cell 0
  · simp
  · exact (Below.refl _ _).alloc (Nat.le_refl _) _

/-- n letters of l, each from its place. -/
def takeL (l : List UInt8) (to : Nat → Nat) (n : Nat) : List UInt8 := (List.range n).map fun i => l.getD (to i) 0
theorem takeL_zero (l : List UInt8) (to : Nat → Nat) : takeL l to 0 = [] := rfl
theorem takeL_len (l : List UInt8) (to : Nat → Nat) (n : Nat) : (takeL l to n).length = n := by simp [takeL]
theorem takeL_set (l : List UInt8) (to : Nat → Nat) (n k : Nat) (hk : k < n) :
    (takeL l to k ++ List.replicate (n - k) 0).set k (l.getD (to k) 0) = takeL l to (k + 1) ++ List.replicate (n - (k + 1)) 0 := by
  rw [List.set_append]
  simp only [takeL_len, Nat.lt_irrefl, if_false, Nat.sub_self]
  obtain ⟨m, hm⟩ : ∃ m, n - k = m + 1 := ⟨n - k - 1, by omega⟩
  rw [hm, show n - (k + 1) = m by omega, List.replicate_succ, List.set_cons_zero]
  simp [takeL, List.range_succ]

set_option maxHeartbeats 800000 in
theorem take_blk (s : ByteArray) (n c r : Nat) (ac ar : Addr) (w : World) (hn : n ≤ 65536) (hc1 : 1 ≤ c) (hr : r ≤ 65536) (hto : ∀ i, i < n → posn c r i < s.size)
    (h1 : w.cell? ac = some (.int .i64 c)) (h2 : w.cell? ar = some (.int .i64 r)) (hlc : ac.block < w.heap.size) (hlr : ar.block < w.heap.size) :
    Calls Try.prog 31 #[.string s, .int .i64 n, .func (.func 43) #[] #[.pointer (some ac), .pointer (some ar)]] w fun e w' =>
      e = .returned (.string ⟨(takeL s.data.toList (posn c r) n).toArray⟩) ∧ Below w.heap.size w w' := by
  have Hto := Lib.hid hto; clear hto
  have H1 := Lib.hid h1; clear h1
  have H2 := Lib.hid h2; clear h2
  go_enter Try.func31, Try.ntmps31
  go_wp2_with (at_make; refine wpList_mkrow _ rfl _ _ rfl 5 (.int .u8 0) 1 Try.underlying46 (by kernel_rfl) rfl _ n rfl rfl (by omega) (by omega) ?_; intro w1 hrow1 hb1 hsz1)
  go_loopw [13] (fun i wr => ∃ k : Nat, k ≤ n ∧ i = .int .i64 k ∧ Row wr w.heap.size 5 (bts (takeL s.data.toList (posn c r) k ++ List.replicate (n - k) 0)) ∧ Below w.heap.size w wr) (fun i _ => n - (intOf i).toNat)
  case atStart =>
    refine ⟨0, by omega, rfl, ?_, hb1⟩
    have h := bts_rep n 0
    simp only [UInt8.toNat_zero, Int.natCast_zero] at h
    rw [takeL_zero, List.nil_append, Nat.sub_zero, ← h]; exact hrow1
  case round =>
    obtain ⟨j, hj, rfl, hrow, hb⟩ := hrel
    have hlen := takeL_len s.data.toList (posn c r) j
    have HL := Lib.hid hlen; clear hlen
    by_cases hlt : j < n
    · have hp := Hto.out j hlt
      have hcell : ∃ v, wr.cell? ⟨w.heap.size, j, none⟩ = some v := by
        rw [hrow.cell]; rw [List.getElem?_eq_getElem (by rw [bts_len, List.length_append, HL.out, List.length_replicate]; omega)]; exact ⟨_, rfl⟩
      obtain ⟨v0, hv0⟩ := hcell
      have hfz := hrow.frozen j
      have hc1' : wr.cell? ac = some (.int .i64 c) := by rw [hb.cell hlc]; exact H1.out
      have hc2' : wr.cell? ar = some (.int .i64 r) := by rw [hb.cell hlr]; exact H2.out
      have K1 := Lib.hid hc1'; clear hc1'
      have K2 := Lib.hid hc2'; clear hc2'
      go_wp2_with (go_at_call 43; refine (blockTo_any c r j ac ar _ hc1 hr (by omega) (by exact K1.out) (by exact K2.out)).mono ?_; rintro e w' ⟨rfl, nq, rfl⟩)
      go_roundw
      case rel =>
        refine ⟨j + 1, by omega, by go_num, ?_, ?_⟩
        · have h := hrow.set j (.int .u8 (((s.data.toList.getD (posn c r j) 0).toNat : Nat) : Int))
          rw [bts_set, takeL_set _ _ _ _ hlt] at h
          have e : s.data.toList.getD (posn c r j) 0 = s[posn c r j] := by
            rw [List.getD_eq_getElem?_getD, List.getElem?_eq_getElem hp]; rfl
          rw [e] at h
          exact h
        · exact below_drewN (hb.setCell (Nat.le_refl _) _) _
      case measure => simp [intOf]; omega
    · obtain rfl : j = n := by omega
      rw [Nat.sub_self, List.replicate_zero, List.append_nil] at hrow
      have hcv := run_string_row (P := Try.prog) (w := wr) (src := 46) (dst := 9) (c := j) Try.underlying46 Try.underlying5 Try.underlying9 hrow HL.out
      go_wp2_with fail
      go_ret
      exact ⟨rfl, hb⟩

set_option maxHeartbeats 800000 in
theorem take_br (s : ByteArray) (n st : Nat) (as' : Addr) (w : World) (hn : n ≤ 65536) (hst : st ≤ 4096) (hto : ∀ i, i < n → brn st i < s.size)
    (h1 : w.cell? as' = some (.int .i64 st)) (hlc : as'.block < w.heap.size) :
    Calls Try.prog 31 #[.string s, .int .i64 n, .func (.func 44) #[] #[.pointer (some as')]] w fun e w' =>
      e = .returned (.string ⟨(takeL s.data.toList (brn st) n).toArray⟩) ∧ Below w.heap.size w w' := by
  have Hto := Lib.hid hto; clear hto
  have H1 := Lib.hid h1; clear h1
  go_enter Try.func31, Try.ntmps31
  go_wp2_with (at_make; refine wpList_mkrow _ rfl _ _ rfl 5 (.int .u8 0) 1 Try.underlying46 (by kernel_rfl) rfl _ n rfl rfl (by omega) (by omega) ?_; intro w1 hrow1 hb1 hsz1)
  go_loopw [13] (fun i wr => ∃ k : Nat, k ≤ n ∧ i = .int .i64 k ∧ Row wr w.heap.size 5 (bts (takeL s.data.toList (brn st) k ++ List.replicate (n - k) 0)) ∧ Below w.heap.size w wr) (fun i _ => n - (intOf i).toNat)
  case atStart =>
    refine ⟨0, by omega, rfl, ?_, hb1⟩
    have h := bts_rep n 0
    simp only [UInt8.toNat_zero, Int.natCast_zero] at h
    rw [takeL_zero, List.nil_append, Nat.sub_zero, ← h]; exact hrow1
  case round =>
    obtain ⟨j, hj, rfl, hrow, hb⟩ := hrel
    have hlen := takeL_len s.data.toList (brn st) j
    have HL := Lib.hid hlen; clear hlen
    by_cases hlt : j < n
    · have hp := Hto.out j hlt
      have hcell : ∃ v, wr.cell? ⟨w.heap.size, j, none⟩ = some v := by
        rw [hrow.cell]; rw [List.getElem?_eq_getElem (by rw [bts_len, List.length_append, HL.out, List.length_replicate]; omega)]; exact ⟨_, rfl⟩
      obtain ⟨v0, hv0⟩ := hcell
      have hfz := hrow.frozen j
      have hc1' : wr.cell? as' = some (.int .i64 st) := by rw [hb.cell hlc]; exact H1.out
      have K1 := Lib.hid hc1'; clear hc1'
      go_wp2_with (go_at_call 44; refine (branchTo_any st j as' _ hst (by omega) (by exact K1.out)).mono ?_; rintro e w' ⟨rfl, nq, rfl⟩)
      go_roundw
      case rel =>
        refine ⟨j + 1, by omega, by go_num, ?_, ?_⟩
        · have h := hrow.set j (.int .u8 (((s.data.toList.getD (brn st j) 0).toNat : Nat) : Int))
          rw [bts_set, takeL_set _ _ _ _ hlt] at h
          have e : s.data.toList.getD (brn st j) 0 = s[brn st j] := by
            rw [List.getD_eq_getElem?_getD, List.getElem?_eq_getElem hp]; rfl
          rw [e] at h
          exact h
        · exact below_drewN (hb.setCell (Nat.le_refl _) _) _
      case measure => simp [intOf]; omega
    · obtain rfl : j = n := by omega
      rw [Nat.sub_self, List.replicate_zero, List.append_nil] at hrow
      have hcv := run_string_row (P := Try.prog) (w := wr) (src := 46) (dst := 9) (c := j) Try.underlying46 Try.underlying5 Try.underlying9 hrow HL.out
      go_wp2_with fail
      go_ret
      exact ⟨rfl, hb⟩

set_option maxHeartbeats 800000 in
theorem put_br (s : ByteArray) (n st : Nat) (as' : Addr) (w : World) (hs : s.size ≤ n) (hn : n ≤ 65536) (hst : st ≤ 4096) (hto : ∀ i, i < s.size → brn st i < n)
    (h1 : w.cell? as' = some (.int .i64 st)) (hlc : as'.block < w.heap.size) :
    Calls Try.prog 29 #[.string s, .int .i64 n, .func (.func 44) #[] #[.pointer (some as')]] w fun e w' =>
      e = .returned (.string ⟨(putL s.data.toList n (brn st)).toArray⟩) ∧ Below w.heap.size w w' := by
  have Hto := Lib.hid hto; clear hto
  have H1 := Lib.hid h1; clear h1
  go_enter Try.func29, Try.ntmps29
  go_wp2_with (at_make; refine wpList_mkrow _ rfl _ _ rfl 5 (.int .u8 0) 1 Try.underlying46 (by kernel_rfl) rfl _ n rfl rfl (by omega) (by omega) ?_; intro w1 hrow1 hb1 hsz1)
  go_loopw [14] (fun i wr => ∃ k : Nat, k ≤ n ∧ i = .int .i64 k ∧ Row wr w.heap.size 5 (bts (List.replicate k 48 ++ List.replicate (n - k) 0)) ∧ Below w.heap.size w wr) (fun i _ => n - (intOf i).toNat)
  case atStart =>
    refine ⟨0, by omega, rfl, ?_, hb1⟩
    have h := bts_rep n 0
    simp only [UInt8.toNat_zero, Int.natCast_zero] at h
    rw [List.replicate_zero, List.nil_append, Nat.sub_zero, ← h]; exact hrow1
  case round =>
    obtain ⟨k, hk, rfl, hrow, hb⟩ := hrel
    by_cases hlt : k < n
    · have hcell : ∃ v, wr.cell? ⟨w.heap.size, k, none⟩ = some v := by
        rw [hrow.cell]; rw [List.getElem?_eq_getElem (by simp [bts_len]; omega)]; exact ⟨_, rfl⟩
      obtain ⟨v0, hv0⟩ := hcell
      have hfz := hrow.frozen k
      go_wp2_with fail
      go_roundw
      case rel =>
        refine ⟨k + 1, by omega, by go_num, ?_, hb.setCell (Nat.le_refl _) _⟩
        have h := hrow.set k (.int .u8 ((48 : UInt8).toNat : Int))
        rw [bts_set, zeros_set n k hlt] at h
        exact h
      case measure => simp [intOf]; omega
    · obtain rfl : k = n := by omega
      rw [Nat.sub_self, List.replicate_zero, List.append_nil] at hrow
      go_wp2_with fail
      have HR := Lib.hid hrow; clear hrow
      have HB := Lib.hid hb; clear hb
      obtain ⟨n', hn'⟩ : ∃ n' : Nat, n' = k := ⟨k, rfl⟩
      subst hn'
      obtain ⟨W, hW⟩ : ∃ W : World, W = wr := ⟨wr, rfl⟩
      have hlen : (putK s.data.toList (brn st) s.size (List.replicate n' 48)).length = n' := by rw [putK_len, List.length_replicate]
      clear hlen
      go_loopw [23] (fun i wr2 => ∃ j : Nat, j ≤ s.size ∧ i = .int .i64 j ∧ Row wr2 w.heap.size 5 (bts (putK s.data.toList (brn st) j (List.replicate n' 48))) ∧ Below w.heap.size w wr2) (fun i _ => s.size - (intOf i).toNat)
      case atStart => exact ⟨0, by omega, rfl, HR.out, HB.out⟩
      case round =>
        obtain ⟨j, hj, rfl, hrow, hb⟩ := hrel
        have hlen := putK_len s.data.toList (brn st) j (List.replicate n' 48)
        rw [List.length_replicate] at hlen
        have HL := Lib.hid hlen; clear hlen
        by_cases hlt : j < s.size
        · have hp := Hto.out j hlt
          have hcell : ∃ v, wr.cell? ⟨w.heap.size, brn st j, none⟩ = some v := by
            rw [hrow.cell]; rw [List.getElem?_eq_getElem (by rw [bts_len, HL.out]; exact hp)]; exact ⟨_, rfl⟩
          obtain ⟨v0, hv0⟩ := hcell
          have hfz := hrow.frozen (brn st j)
          have hc1' : wr.cell? as' = some (.int .i64 st) := by rw [hb.cell hlc]; exact H1.out
          have K1 := Lib.hid hc1'; clear hc1'
          go_wp2_with fail
          go_region_with (go_at_call 44; refine (branchTo_any st j as' _ hst (by omega) (by exact K1.out)).mono ?_; rintro e w' ⟨rfl, nq, rfl⟩)
          all_goals
            go_wp2_with fail
            go_roundw
            case rel =>
              refine ⟨j + 1, by omega, by go_num, ?_, ?_⟩
              · have h := hrow.set (brn st j) (.int .u8 (((s.data.toList.getD j 0).toNat : Nat) : Int))
                rw [bts_set] at h
                have e : s.data.toList.getD j 0 = s[j] := by
                  rw [List.getD_eq_getElem?_getD, List.getElem?_eq_getElem hlt]; rfl
                rw [e] at h
                rw [putK, e]
                exact h
              · exact below_drewN (hb.setCell (Nat.le_refl _) _) _
            case measure => simp [intOf]; omega
        · obtain rfl : j = s.size := by omega
          have hcv := run_string_row (P := Try.prog) (w := wr) (src := 46) (dst := 9) (c := n') Try.underlying46 Try.underlying5 Try.underlying9 hrow HL.out
          go_wp2_with fail
          go_ret
          exact ⟨rfl, hb⟩

end Go.Proofs.Ytgjlhjklcgladaa
