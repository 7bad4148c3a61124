/-
  The contracts of interleave.Block and Unblock.
-/
import Derived.Test.YtdogepiddjoemaaChk
import Derived.Test.YtdogepiddjoemaaMem
import Derived.Deep.RegionWith
namespace Go.Proofs.Ytdogepiddjoemaa
open Go.RowKit

def ckBlock (rows : Int) (l : List UInt8) : Int :=
  if chk 16 l ≠ 0 then chk 16 l else if rows < 1 ∨ 65536 < rows then 2 else if (l.length : Int) % rows ≠ 0 then 11 else 0
set_option maxHeartbeats 400000 in
theorem checkBlock_any (rows : Int) (s : ByteArray) (w : World) (hs : s.size ≤ maxLen) :
    Calls Try.prog 21 #[.int .i64 rows, .string s] w fun e w' => e = .returned (.int .i64 (ckBlock rows s.data.toList)) ∧ ∃ n, w' = w.drewN n := by
  unfold maxLen at hs
  by_cases hc : chk 16 s.data.toList = 0
  · have hc' : (chk 16 s.data.toList != 0) = false := by simp [hc]
    have H0 := Lib.hid (show ckBlock rows s.data.toList = if rows < 1 ∨ 65536 < rows then 2 else if (s.data.toList.length : Int) % rows ≠ 0 then 11 else 0 by rw [ckBlock, if_neg (by simp [hc])])
    clear hc
    by_cases h1 : rows < 1
    · have H := Lib.hid (show ckBlock rows s.data.toList = 2 by rw [H0.out, if_pos (by omega)])
      go_enter Try.func21, Try.ntmps21
      go_wp2_with (go_at_call 28; refine (check_any _ _ _).mono ?_; rintro e w' ⟨rfl, n, rfl⟩)
      go_ret
      exact ⟨by rw [H.out]; rfl, _, rfl⟩
    by_cases h2 : 65536 < rows
    · have H := Lib.hid (show ckBlock rows s.data.toList = 2 by rw [H0.out, if_pos (by omega)])
      go_enter Try.func21, Try.ntmps21
      go_wp2_with (go_at_call 28; refine (check_any _ _ _).mono ?_; rintro e w' ⟨rfl, n, rfl⟩)
      go_ret
      exact ⟨by rw [H.out]; rfl, _, rfl⟩
    have b1 : 1 ≤ rows := by omega
    clear h1
    by_cases h5 : (s.size : Int) % rows = 0
    · have H := Lib.hid (show ckBlock rows s.data.toList = 0 by rw [H0.out, if_neg (by omega), if_neg]; simpa using h5)
      have h5' : ((s.size : Int) % rows != 0) = false := by simp [h5]
      clear h5
      go_enter Try.func21, Try.ntmps21
      go_wp2_with (go_at_call 28; refine (check_any _ _ _).mono ?_; rintro e w' ⟨rfl, n, rfl⟩)
      go_ret
      exact ⟨by rw [H.out]; rfl, _, rfl⟩
    · have H := Lib.hid (show ckBlock rows s.data.toList = 11 by rw [H0.out, if_neg (by omega), if_pos]; simpa using h5)
      have h5' : ((s.size : Int) % rows != 0) = true := by simp [h5]
      clear h5
      go_enter Try.func21, Try.ntmps21
      go_wp2_with (go_at_call 28; refine (check_any _ _ _).mono ?_; rintro e w' ⟨rfl, n, rfl⟩)
      go_ret
      exact ⟨by rw [H.out]; rfl, _, rfl⟩
  · have hc' : (chk 16 s.data.toList != 0) = true := by simp [hc]
    have H := Lib.hid (show ckBlock rows s.data.toList = chk 16 s.data.toList by rw [ckBlock, if_pos hc])
    clear hc
    go_enter Try.func21, Try.ntmps21
    go_wp2_with (go_at_call 28; refine (check_any _ _ _).mono ?_; rintro e w' ⟨rfl, n, rfl⟩)
    go_ret
    exact ⟨by rw [H.out]; rfl, _, rfl⟩
def posn (c r i : Nat) : Nat := i % c * r + i / c
theorem posn_le (c r i n : Nat) (hc : 1 ≤ c) (hn : n = c * r) (hi : i < n) : posn c r i < n := by
  subst hn
  unfold posn
  have h1 : i % c < c := Nat.mod_lt _ hc
  have h2 : i / c < r := by rw [Nat.div_lt_iff_lt_mul hc]; rwa [Nat.mul_comm]
  have h3 : (i % c + 1) * r ≤ c * r := Nat.mul_le_mul_right _ h1
  rw [Nat.add_mul] at h3
  omega
set_option maxHeartbeats 400000 in
theorem blockTo_any (c r i : Nat) (ac ar : Addr) (w : World) (hc1 : 1 ≤ c) (hr : r ≤ 65536) (hi : i ≤ 65536)
    (h1 : w.cell? ac = some (.int .i64 c)) (h2 : w.cell? ar = some (.int .i64 r)) :
    Calls Try.prog 31 #[.int .i64 i, .pointer (some ac), .pointer (some ar)] w fun e w' => e = .returned (.int .i64 (posn c r i)) ∧ ∃ n, w' = w.drewN n := by
  have hm : (i : Int) % c * r ≤ 65536 * 65536 := by
    have : i % c * r ≤ 65536 * 65536 := Nat.mul_le_mul (Nat.le_trans (Nat.mod_le _ _) hi) hr
    have h : ((i % c * r : Nat) : Int) ≤ ((65536 * 65536 : Nat) : Int) := Int.ofNat_le.2 this
    exact h
  have hm0 : 0 ≤ (i : Int) % c * r := by
    have h : ((0 : Nat) : Int) ≤ ((i % c * r : Nat) : Int) := Int.ofNat_le.2 (Nat.zero_le _)
    exact h
  have hd : (i : Int) / c ≤ 65536 := by
    have := Nat.div_le_self i c
    omega
  have hd0 : 0 ≤ (i : Int) / c := by
    have : 0 ≤ i / c := Nat.zero_le _
    omega
  go_enter Try.func31, Try.ntmps31
  go_wp2
  go_quiet (fail)
  go_wp2
  go_ret
  exact ⟨rfl, _, rfl⟩
set_option maxHeartbeats 400000 in
theorem ilBlock_any (r n : Nat) (w : World) (hr1 : 1 ≤ r) (hn : n ≤ 65536) :
    Calls Try.prog 23 #[.int .i64 r, .int .i64 n] w fun e w' =>
      e = .returned (.func (.func 31) #[] #[.pointer (some ⟨w.heap.size + 1, 0, none⟩), .pointer (some ⟨w.heap.size, 0, none⟩)]) ∧
      w'.cell? ⟨w.heap.size + 1, 0, none⟩ = some (.int .i64 ((n / r : Nat) : Int)) ∧ w'.cell? ⟨w.heap.size, 0, none⟩ = some (.int .i64 r) ∧ w'.heap.size = w.heap.size + 2 ∧ Below w.heap.size w w' := by
  have hd : (n : Int) / r ≤ 65536 := by
    have := Nat.div_le_self n r
    omega
  have hd0 : 0 ≤ (n : Int) / r := by
    have : 0 ≤ n / r := Nat.zero_le _
    omega
  go_enter Try.func23, Try.ntmps23
  go_wp2
  go_ret
  refine ⟨rfl, ?_, ?_, ?_, ?_⟩
  · have h := (row_new (w.alloc (.cells #[.int .i64 r] 3)) 3 [.int .i64 ((n : Int) / r)]).cell 0
    rw [World.size_alloc] at h
    exact h
  · have h := ((row_new w 3 [.int .i64 r]).alloc (.cells #[.int .i64 ((n : Int) / r)] 3)).cell 0
    exact h
  · simp
  · exact ((Below.refl _ _).alloc (Nat.le_refl _) _).alloc (by simp) _
/-- The letters of l put to places of a word of n letters. -/
def putK (l : List UInt8) (tt : Nat → Nat) : Nat → List UInt8 → List UInt8
  | 0, o => o
  | k + 1, o => (putK l tt k o).set (tt k) (l.getD k 0)
def putL (l : List UInt8) (n : Nat) (tt : Nat → Nat) : List UInt8 := putK l tt l.length (List.replicate n 48)
theorem putK_len (l : List UInt8) (tt : Nat → Nat) (k : Nat) (o : List UInt8) : (putK l tt k o).length = o.length := by
  induction k with
  | zero => rfl
  | succ k ih => simp [putK, ih]
theorem il_zeros_set (n k : Nat) (hk : k < n) : (List.replicate k (48 : UInt8) ++ List.replicate (n - k) 0).set k 48 = List.replicate (k + 1) 48 ++ List.replicate (n - (k + 1)) 0 := by
  rw [List.set_append]
  simp only [List.length_replicate, Nat.lt_irrefl, if_false, Nat.sub_self]
  obtain ⟨m, hm⟩ : ∃ m, n - k = m + 1 := ⟨n - k - 1, by omega⟩
  rw [hm, show n - (k + 1) = m by omega, List.replicate_succ, List.set_cons_zero, List.replicate_succ', List.append_assoc]
  rfl
set_option maxHeartbeats 800000 in
theorem put_blk (s : ByteArray) (n c r : Nat) (ac ar : Addr) (w : World) (hs : s.size ≤ n) (hn : n ≤ 65536) (hc1 : 1 ≤ c) (hr : r ≤ 65536) (hto : ∀ i, i < s.size → posn c r i < n)
    (h1 : w.cell? ac = some (.int .i64 c)) (h2 : w.cell? ar = some (.int .i64 r)) (hlc : ac.block < w.heap.size) (hlr : ar.block < w.heap.size) :
    Calls Try.prog 22 #[.string s, .int .i64 n, .func (.func 31) #[] #[.pointer (some ac), .pointer (some ar)]] w fun e w' =>
      e = .returned (.string ⟨(putL s.data.toList n (posn c r)).toArray⟩) ∧ Below w.heap.size w w' := by
  have Hto := Lib.hid hto; clear hto
  have H1 := Lib.hid h1; clear h1
  have H2 := Lib.hid h2; clear h2
  go_enter Try.func22, Try.ntmps22
  go_wp2_with (at_make; refine wpList_mkrow _ rfl _ _ rfl 5 (.int .u8 0) 1 Try.underlying31 (by kernel_rfl) rfl _ n rfl rfl (by omega) (by omega) ?_; intro w1 hrow1 hb1 hsz1)
  go_loopw [14] (fun i wr => ∃ k : Nat, k ≤ n ∧ i = .int .i64 k ∧ Row wr w.heap.size 5 (bts (List.replicate k 48 ++ List.replicate (n - k) 0)) ∧ Below w.heap.size w wr) (fun i _ => n - (intOf i).toNat)
  case atStart =>
    refine ⟨0, by omega, rfl, ?_, hb1⟩
    have h := bts_rep n 0
    simp only [UInt8.toNat_zero, Int.natCast_zero] at h
    rw [List.replicate_zero, List.nil_append, Nat.sub_zero, ← h]; exact hrow1
  case round =>
    obtain ⟨k, hk, rfl, hrow, hb⟩ := hrel
    by_cases hlt : k < n
    · have hcell : ∃ v, wr.cell? ⟨w.heap.size, k, none⟩ = some v := by
        rw [hrow.cell]; rw [List.getElem?_eq_getElem (by simp [bts_len]; omega)]; exact ⟨_, rfl⟩
      obtain ⟨v0, hv0⟩ := hcell
      have hfz := hrow.frozen k
      go_wp2_with fail
      go_roundw
      case rel =>
        refine ⟨k + 1, by omega, by go_num, ?_, hb.setCell (Nat.le_refl _) _⟩
        have h := hrow.set k (.int .u8 ((48 : UInt8).toNat : Int))
        rw [bts_set, il_zeros_set n k hlt] at h
        exact h
      case measure => simp [intOf]; omega
    · obtain rfl : k = n := by omega
      rw [Nat.sub_self, List.replicate_zero, List.append_nil] at hrow
      go_wp2_with fail
      have HR := Lib.hid hrow; clear hrow
      have HB := Lib.hid hb; clear hb
      obtain ⟨n', hn'⟩ : ∃ n' : Nat, n' = k := ⟨k, rfl⟩
      subst hn'
      obtain ⟨W, hW⟩ : ∃ W : World, W = wr := ⟨wr, rfl⟩
      have hlen : (putK s.data.toList (posn c r) s.size (List.replicate n' 48)).length = n' := by rw [putK_len, List.length_replicate]
      clear hlen
      go_loopw [23] (fun i wr2 => ∃ j : Nat, j ≤ s.size ∧ i = .int .i64 j ∧ Row wr2 w.heap.size 5 (bts (putK s.data.toList (posn c r) j (List.replicate n' 48))) ∧ Below w.heap.size w wr2) (fun i _ => s.size - (intOf i).toNat)
      case atStart => exact ⟨0, by omega, rfl, HR.out, HB.out⟩
      case round =>
        obtain ⟨j, hj, rfl, hrow, hb⟩ := hrel
        have hlen := putK_len s.data.toList (posn c r) j (List.replicate n' 48)
        rw [List.length_replicate] at hlen
        have HL := Lib.hid hlen; clear hlen
        by_cases hlt : j < s.size
        · have hp := Hto.out j hlt
          have hcell : ∃ v, wr.cell? ⟨w.heap.size, posn c r j, none⟩ = some v := by
            rw [hrow.cell]; rw [List.getElem?_eq_getElem (by rw [bts_len, HL.out]; exact hp)]; exact ⟨_, rfl⟩
          obtain ⟨v0, hv0⟩ := hcell
          have hfz := hrow.frozen (posn c r j)
          have hc1' : wr.cell? ac = some (.int .i64 c) := by rw [hb.cell hlc]; exact H1.out
          have hc2' : wr.cell? ar = some (.int .i64 r) := by rw [hb.cell hlr]; exact H2.out
          have K1 := Lib.hid hc1'; clear hc1'
          have K2 := Lib.hid hc2'; clear hc2'
          go_wp2_with fail
          go_region_with (go_at_call 31; refine (blockTo_any c r j ac ar _ hc1 hr (by omega) (by exact K1.out) (by exact K2.out)).mono ?_; rintro e w' ⟨rfl, nq, rfl⟩)
          all_goals
            go_wp2_with fail
            go_roundw
            case rel =>
              refine ⟨j + 1, by omega, by go_num, ?_, ?_⟩
              · have h := hrow.set (posn c r j) (.int .u8 (((s.data.toList.getD j 0).toNat : Nat) : Int))
                rw [bts_set] at h
                have e : s.data.toList.getD j 0 = s[j] := by
                  rw [List.getD_eq_getElem?_getD, List.getElem?_eq_getElem hlt]; rfl
                rw [e] at h
                rw [putK, e]
                exact h
              · exact below_drewN (hb.setCell (Nat.le_refl _) _) _
            case measure => simp [intOf]; omega
        · obtain rfl : j = s.size := by omega
          have hcv := run_string_row (P := Try.prog) (w := wr) (src := 31) (dst := 9) (c := n') Try.underlying31 Try.underlying5 Try.underlying9 hrow HL.out
          go_wp2_with fail
          go_ret
          exact ⟨rfl, hb⟩
/-- n letters of l, each from its place. -/
def takeL (l : List UInt8) (tt : Nat → Nat) (n : Nat) : List UInt8 := (List.range n).map fun i => l.getD (tt i) 0
theorem takeL_zero (l : List UInt8) (tt : Nat → Nat) : takeL l tt 0 = [] := rfl
theorem takeL_len (l : List UInt8) (tt : Nat → Nat) (n : Nat) : (takeL l tt n).length = n := by simp [takeL]
theorem takeL_set (l : List UInt8) (tt : Nat → Nat) (n k : Nat) (hk : k < n) :
    (takeL l tt k ++ List.replicate (n - k) 0).set k (l.getD (tt k) 0) = takeL l tt (k + 1) ++ List.replicate (n - (k + 1)) 0 := by
  rw [List.set_append]
  simp only [takeL_len, Nat.lt_irrefl, if_false, Nat.sub_self]
  obtain ⟨m, hm⟩ : ∃ m, n - k = m + 1 := ⟨n - k - 1, by omega⟩
  rw [hm, show n - (k + 1) = m by omega, List.replicate_succ, List.set_cons_zero]
  simp [takeL, List.range_succ]
set_option maxHeartbeats 800000 in
theorem take_blk (s : ByteArray) (n c r : Nat) (ac ar : Addr) (w : World) (hn : n ≤ 65536) (hc1 : 1 ≤ c) (hr : r ≤ 65536) (hto : ∀ i, i < n → posn c r i < s.size)
    (h1 : w.cell? ac = some (.int .i64 c)) (h2 : w.cell? ar = some (.int .i64 r)) (hlc : ac.block < w.heap.size) (hlr : ar.block < w.heap.size) :
    Calls Try.prog 24 #[.string s, .int .i64 n, .func (.func 31) #[] #[.pointer (some ac), .pointer (some ar)]] w fun e w' =>
      e = .returned (.string ⟨(takeL s.data.toList (posn c r) n).toArray⟩) ∧ Below w.heap.size w w' := by
  have Hto := Lib.hid hto; clear hto
  have H1 := Lib.hid h1; clear h1
  have H2 := Lib.hid h2; clear h2
  go_enter Try.func24, Try.ntmps24
  go_wp2_with (at_make; refine wpList_mkrow _ rfl _ _ rfl 5 (.int .u8 0) 1 Try.underlying31 (by kernel_rfl) rfl _ n rfl rfl (by omega) (by omega) ?_; intro w1 hrow1 hb1 hsz1)
  go_loopw [13] (fun i wr => ∃ k : Nat, k ≤ n ∧ i = .int .i64 k ∧ Row wr w.heap.size 5 (bts (takeL s.data.toList (posn c r) k ++ List.replicate (n - k) 0)) ∧ Below w.heap.size w wr) (fun i _ => n - (intOf i).toNat)
  case atStart =>
    refine ⟨0, by omega, rfl, ?_, hb1⟩
    have h := bts_rep n 0
    simp only [UInt8.toNat_zero, Int.natCast_zero] at h
    rw [takeL_zero, List.nil_append, Nat.sub_zero, ← h]; exact hrow1
  case round =>
    obtain ⟨j, hj, rfl, hrow, hb⟩ := hrel
    have hlen := takeL_len s.data.toList (posn c r) j
    have HL := Lib.hid hlen; clear hlen
    by_cases hlt : j < n
    · have hp := Hto.out j hlt
      have hcell : ∃ v, wr.cell? ⟨w.heap.size, j, none⟩ = some v := by
        rw [hrow.cell]; rw [List.getElem?_eq_getElem (by rw [bts_len, List.length_append, HL.out, List.length_replicate]; omega)]; exact ⟨_, rfl⟩
      obtain ⟨v0, hv0⟩ := hcell
      have hfz := hrow.frozen j
      have hc1' : wr.cell? ac = some (.int .i64 c) := by rw [hb.cell hlc]; exact H1.out
      have hc2' : wr.cell? ar = some (.int .i64 r) := by rw [hb.cell hlr]; exact H2.out
      have K1 := Lib.hid hc1'; clear hc1'
      have K2 := Lib.hid hc2'; clear hc2'
      go_wp2_with (go_at_call 31; refine (blockTo_any c r j ac ar _ hc1 hr (by omega) (by exact K1.out) (by exact K2.out)).mono ?_; rintro e w' ⟨rfl, nq, rfl⟩)
      go_roundw
      case rel =>
        refine ⟨j + 1, by omega, by go_num, ?_, ?_⟩
        · have h := hrow.set j (.int .u8 (((s.data.toList.getD (posn c r j) 0).toNat : Nat) : Int))
          rw [bts_set, takeL_set _ _ _ _ hlt] at h
          have e : s.data.toList.getD (posn c r j) 0 = s[posn c r j] := by
            rw [List.getD_eq_getElem?_getD, List.getElem?_eq_getElem hp]; rfl
          rw [e] at h
          exact h
        · exact below_drewN (hb.setCell (Nat.le_refl _) _) _
      case measure => simp [intOf]; omega
    · obtain rfl : j = n := by omega
      rw [Nat.sub_self, List.replicate_zero, List.append_nil] at hrow
      have hcv := run_string_row (P := Try.prog) (w := wr) (src := 31) (dst := 9) (c := j) Try.underlying31 Try.underlying5 Try.underlying9 hrow HL.out
      go_wp2_with fail
      go_ret
      exact ⟨rfl, hb⟩
def blkS (rows : Int) (l : List UInt8) : List UInt8 := if ckBlock rows l ≠ 0 then [] else putL l l.length (posn (l.length / rows.toNat) rows.toNat)
def ublS (rows : Int) (l : List UInt8) : List UInt8 := if ckBlock rows l ≠ 0 then [] else takeL l (posn (l.length / rows.toNat) rows.toNat) l.length
theorem il_chk_len {l : List UInt8} (h : chk 16 l = 0) : l.length ≤ 65536 := by
  unfold chk at h
  rw [if_neg (by omega)] at h
  by_cases h2 : 65536 < l.length
  · rw [if_pos h2] at h; omega
  · omega
theorem ckBlock_ok {rows : Int} {l : List UInt8} (h : ckBlock rows l = 0) : chk 16 l = 0 ∧ 1 ≤ rows ∧ rows ≤ 65536 ∧ (l.length : Int) % rows = 0 := by
  unfold ckBlock at h
  by_cases h1 : chk 16 l = 0
  · rw [if_neg (by simp [h1])] at h
    by_cases h2 : rows < 1 ∨ 65536 < rows
    · rw [if_pos h2] at h; omega
    · rw [if_neg h2] at h
      by_cases h3 : (l.length : Int) % rows = 0
      · exact ⟨h1, by omega, by omega, h3⟩
      · rw [if_pos h3] at h; omega
  · rw [if_pos h1] at h; omega
theorem div_parts {n r : Nat} (hn : 1 ≤ n) (hm : (n : Int) % (r : Int) = 0) : 1 ≤ n / r ∧ n = n / r * r := by
  have h : n % r = 0 := by omega
  have h2 := Nat.div_add_mod n r
  rw [h, Nat.add_zero, Nat.mul_comm] at h2
  refine ⟨?_, h2.symm⟩
  rcases Nat.eq_zero_or_pos (n / r) with h0 | h0
  · rw [h0] at h2; omega
  · exact h0
set_option maxHeartbeats 400000 in
theorem blockB_any (rows : Int) (s : ByteArray) (w : World) (hs : s.size ≤ maxLen) :
    Calls Try.prog 13 #[.int .i64 rows, .string s] w fun e w' =>
      e = .returned (.tuple #[.string ⟨(blkS rows s.data.toList).toArray⟩, .int .i64 (ckBlock rows s.data.toList)]) ∧ Below w.heap.size w w' := by
  by_cases hc : ckBlock rows s.data.toList = 0
  · obtain ⟨hk, hr1, hr2, hm⟩ := ckBlock_ok hc
    have hlen := il_chk_len hk
    rw [Array.length_toList] at hlen hm
    have hsz : s.size ≤ 65536 := hlen
    have hb : blkS rows s.data.toList = putL s.data.toList s.data.toList.length (posn (s.data.toList.length / rows.toNat) rows.toNat) := by rw [blkS, if_neg (by simp [hc])]
    rw [Array.length_toList] at hb
    have HB := Lib.hid hb; clear hb
    have HC := Lib.hid hc
    have hc' : (ckBlock rows s.data.toList != 0) = false := by simp [hc]
    clear hc hlen
    obtain ⟨r, rfl⟩ := Int.eq_ofNat_of_zero_le (show 0 ≤ rows by omega)
    by_cases h0 : s.size = 0
    · have he : s.data.toList = [] := List.eq_nil_of_length_eq_zero (by rw [Array.length_toList]; exact h0)
      have he2 : s.toList = [] := by rw [ByteArray.toList_eq]; exact he
      have HF : Hid (blkS r s.data.toList = []) := Lib.hid (by rw [HB.out, he]; show putL [] s.size _ = []; rw [h0]; rfl)
      clear he h0 hm hk
      go_enter Try.func13, Try.ntmps13
      go_wp2_with (go_at_call 21; refine (checkBlock_any _ _ _ hs).mono ?_; rintro e w' ⟨rfl, nq, rfl⟩)
      go_ret2
      exact ⟨by rw [HF.out, HC.out]; rfl, below_ofN _⟩
    · have hp := div_parts (n := s.size) (r := r) (by omega) hm
      have HP := Lib.hid hp; clear hp
      have he2 : s.toList.isEmpty = false := by
        rw [ByteArray.toList_eq]
        cases h : s.data.toList with
        | nil => exfalso; apply h0; show s.data.size = 0; rw [← Array.length_toList, h]; rfl
        | cons a l => rfl
      have he3 : ¬ s.toList = [] := by intro h; rw [h] at he2; cases he2
      clear hm hk
      go_enter Try.func13, Try.ntmps13
      go_wp2_with fail
      refine (checkBlock_any _ _ _ hs).mono ?_
      rintro e w1 ⟨rfl, hw1⟩
      have HW1 := Lib.hid hw1; clear hw1
      go_wp2_with fail
      refine (ilBlock_any r s.size _ (by omega) hsz).mono ?_
      rintro e w2 ⟨rfl, q1, q2, q3, q4⟩
      have Q1 := Lib.hid q1; clear q1
      have Q2 := Lib.hid q2; clear q2
      have Q3 := Lib.hid q3; clear q3
      have Q4 := Lib.hid q4; clear q4
      go_wp2_with fail
      refine (put_blk s s.size (s.size / r) r _ _ _ (Nat.le_refl _) hsz HP.out.1 (by omega) ?_ Q1.out Q2.out ?_ ?_).mono ?_
      · intro i hi; exact posn_le _ _ _ _ HP.out.1 HP.out.2 hi
      · have := Q3.out; dsimp only; omega
      · have := Q3.out; dsimp only; omega
      rintro e w3 ⟨rfl, hb3⟩
      have HB3 := Lib.hid hb3; clear hb3
      go_wp2_with fail
      go_ret2
      obtain ⟨nq, hnq⟩ := HW1.out
      refine ⟨by rw [HC.out, HB.out]; rfl, ?_⟩
      subst hnq
      exact (below_ofN nq).trans (Q4.out.trans (HB3.out.mono (by rw [Q3.out]; omega)))
  · have H := Lib.hid (show blkS rows s.data.toList = [] by rw [blkS, if_pos hc])
    have hc' : (ckBlock rows s.data.toList != 0) = true := by simp [hc]
    clear hc
    go_enter Try.func13, Try.ntmps13
    go_wp2_with (go_at_call 21; refine (checkBlock_any _ _ _ hs).mono ?_; rintro e w' ⟨rfl, nq, rfl⟩)
    go_ret2
    exact ⟨by rw [H.out]; rfl, below_ofN _⟩
set_option maxHeartbeats 400000 in
theorem unblockB_any (rows : Int) (s : ByteArray) (w : World) (hs : s.size ≤ maxLen) :
    Calls Try.prog 14 #[.int .i64 rows, .string s] w fun e w' =>
      e = .returned (.tuple #[.string ⟨(ublS rows s.data.toList).toArray⟩, .int .i64 (ckBlock rows s.data.toList)]) ∧ Below w.heap.size w w' := by
  by_cases hc : ckBlock rows s.data.toList = 0
  · obtain ⟨hk, hr1, hr2, hm⟩ := ckBlock_ok hc
    have hlen := il_chk_len hk
    rw [Array.length_toList] at hlen hm
    have hsz : s.size ≤ 65536 := hlen
    have hb : ublS rows s.data.toList = takeL s.data.toList (posn (s.data.toList.length / rows.toNat) rows.toNat) s.data.toList.length := by rw [ublS, if_neg (by simp [hc])]
    rw [Array.length_toList] at hb
    have HB := Lib.hid hb; clear hb
    have HC := Lib.hid hc
    have hc' : (ckBlock rows s.data.toList != 0) = false := by simp [hc]
    clear hc hlen
    obtain ⟨r, rfl⟩ := Int.eq_ofNat_of_zero_le (show 0 ≤ rows by omega)
    by_cases h0 : s.size = 0
    · have he : s.data.toList = [] := List.eq_nil_of_length_eq_zero (by rw [Array.length_toList]; exact h0)
      have he2 : s.toList = [] := by rw [ByteArray.toList_eq]; exact he
      have HF : Hid (ublS r s.data.toList = []) := Lib.hid (by rw [HB.out, he]; show takeL [] _ s.size = []; rw [h0]; rfl)
      clear he h0 hm hk
      go_enter Try.func14, Try.ntmps14
      go_wp2_with (go_at_call 21; refine (checkBlock_any _ _ _ hs).mono ?_; rintro e w' ⟨rfl, nq, rfl⟩)
      go_ret2
      exact ⟨by rw [HF.out, HC.out]; rfl, below_ofN _⟩
    · have hp := div_parts (n := s.size) (r := r) (by omega) hm
      have HP := Lib.hid hp; clear hp
      have he2 : s.toList.isEmpty = false := by
        rw [ByteArray.toList_eq]
        cases h : s.data.toList with
        | nil => exfalso; apply h0; show s.data.size = 0; rw [← Array.length_toList, h]; rfl
        | cons a l => rfl
      have he3 : ¬ s.toList = [] := by intro h; rw [h] at he2; cases he2
      clear hm hk
      go_enter Try.func14, Try.ntmps14
      go_wp2_with fail
      refine (checkBlock_any _ _ _ hs).mono ?_
      rintro e w1 ⟨rfl, hw1⟩
      have HW1 := Lib.hid hw1; clear hw1
      go_wp2_with fail
      refine (ilBlock_any r s.size _ (by omega) hsz).mono ?_
      rintro e w2 ⟨rfl, q1, q2, q3, q4⟩
      have Q1 := Lib.hid q1; clear q1
      have Q2 := Lib.hid q2; clear q2
      have Q3 := Lib.hid q3; clear q3
      have Q4 := Lib.hid q4; clear q4
      go_wp2_with fail
      refine (take_blk s s.size (s.size / r) r _ _ _ hsz HP.out.1 (by omega) ?_ Q1.out Q2.out ?_ ?_).mono ?_
      · intro i hi; exact posn_le _ _ _ _ HP.out.1 HP.out.2 hi
      · have := Q3.out; dsimp only; omega
      · have := Q3.out; dsimp only; omega
      rintro e w3 ⟨rfl, hb3⟩
      have HB3 := Lib.hid hb3; clear hb3
      go_wp2_with fail
      go_ret2
      obtain ⟨nq, hnq⟩ := HW1.out
      refine ⟨by rw [HC.out, HB.out]; rfl, ?_⟩
      subst hnq
      exact (below_ofN nq).trans (Q4.out.trans (HB3.out.mono (by rw [Q3.out]; omega)))
  · have H := Lib.hid (show ublS rows s.data.toList = [] by rw [ublS, if_pos hc])
    have hc' : (ckBlock rows s.data.toList != 0) = true := by simp [hc]
    clear hc
    go_enter Try.func14, Try.ntmps14
    go_wp2_with (go_at_call 21; refine (checkBlock_any _ _ _ hs).mono ?_; rintro e w' ⟨rfl, nq, rfl⟩)
    go_ret2
    exact ⟨by rw [H.out]; rfl, below_ofN _⟩
end Go.Proofs.Ytdogepiddjoemaa
