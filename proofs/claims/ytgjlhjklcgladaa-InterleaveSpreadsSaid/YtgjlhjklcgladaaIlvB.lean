/-
  The contracts of the closures of package interleave, and of put and take over them.
-/
import Derived.Test.YtgjlhjklcgladaaIlvA
import Derived.Test.YtgjlhjklcgladaaMem
import Derived.Deep.RegionWith
namespace Go.Proofs.Ytgjlhjklcgladaa
open Go.RowKit

def posn (c r i : Nat) : Nat := i % c * r + i / c

theorem posn_le (c r i n : Nat) (hc : 1 ≤ c) (hn : n = c * r) (hi : i < n) : posn c r i < n := by
  subst hn
  unfold posn
  have h1 : i % c < c := Nat.mod_lt _ hc
  have h2 : i / c < r := by rw [Nat.div_lt_iff_lt_mul hc]; rwa [Nat.mul_comm]
  have h3 : (i % c + 1) * r ≤ c * r := Nat.mul_le_mul_right _ h1
  rw [Nat.add_mul] at h3
  omega

set_option maxHeartbeats 400000 in
theorem blockTo_any (c r i : Nat) (ac ar : Addr) (w : World) (hc1 : 1 ≤ c) (hr : r ≤ 65536) (hi : i ≤ 65536)
    (h1 : w.cell? ac = some (.int .i64 c)) (h2 : w.cell? ar = some (.int .i64 r)) :
    Calls Try.prog 43 #[.int .i64 i, .pointer (some ac), .pointer (some ar)] w fun e w' => e = .returned (.int .i64 (posn c r i)) ∧ ∃ n, w' = w.drewN n := by
  have hm : (i : Int) % c * r ≤ 65536 * 65536 := by
    have : i % c * r ≤ 65536 * 65536 := Nat.mul_le_mul (Nat.le_trans (Nat.mod_le _ _) hi) hr
    have h : ((i % c * r : Nat) : Int) ≤ ((65536 * 65536 : Nat) : Int) := Int.ofNat_le.2 this
    exact h
  have hm0 : 0 ≤ (i : Int) % c * r := by
    have h : ((0 : Nat) : Int) ≤ ((i % c * r : Nat) : Int) := Int.ofNat_le.2 (Nat.zero_le _)
    exact h
  have hd : (i : Int) / c ≤ 65536 := by
    have := Nat.div_le_self i c
    omega
  have hd0 : 0 ≤ (i : Int) / c := by
    have : 0 ≤ i / c := Nat.zero_le _
    omega
  go_enter Try.func43, Try.ntmps43
  go_wp2
  go_quiet (fail)
  go_wp2
  go_ret
  exact ⟨rfl, _, rfl⟩

set_option maxHeartbeats 400000 in
theorem block_any (r n : Nat) (w : World) (hr1 : 1 ≤ r) (hn : n ≤ 65536) :
    Calls Try.prog 30 #[.int .i64 r, .int .i64 n] w fun e w' =>
      e = .returned (.func (.func 43) #[] #[.pointer (some ⟨w.heap.size + 1, 0, none⟩), .pointer (some ⟨w.heap.size, 0, none⟩)]) ∧
      w'.cell? ⟨w.heap.size + 1, 0, none⟩ = some (.int .i64 ((n / r : Nat) : Int)) ∧ w'.cell? ⟨w.heap.size, 0, none⟩ = some (.int .i64 r) ∧ w'.heap.size = w.heap.size + 2 ∧ Below w.heap.size w w' := by
  have hd : (n : Int) / r ≤ 65536 := by
    have := Nat.div_le_self n r
    omega
  have hd0 : 0 ≤ (n : Int) / r := by
    have : 0 ≤ n / r := Nat.zero_le _
    omega
  go_enter Try.func30, Try.ntmps30
  go_wp2
  go_ret
  refine ⟨rfl, ?_, ?_, ?_, ?_⟩
  · have h := (row_new (w.alloc (.cells #[.int .i64 r] 3)) 3 [.int .i64 ((n : Int) / r)]).cell 0
    rw [World.size_alloc] at h
    exact h
  · have h := ((row_new w 3 [.int .i64 r]).alloc (.cells #[.int .i64 ((n : Int) / r)] 3)).cell 0
    exact h
  · simp
  · exact ((Below.refl _ _).alloc (Nat.le_refl _) _).alloc (by simp) _

/-- The letters of l put to places of a word of n letters. -/
def putK (l : List UInt8) (to : Nat → Nat) : Nat → List UInt8 → List UInt8
  | 0, o => o
  | k + 1, o => (putK l to k o).set (to k) (l.getD k 0)
def putL (l : List UInt8) (n : Nat) (to : Nat → Nat) : List UInt8 := putK l to l.length (List.replicate n 48)
theorem putK_len (l : List UInt8) (to : Nat → Nat) (k : Nat) (o : List UInt8) : (putK l to k o).length = o.length := by
  induction k with
  | zero => rfl
  | succ k ih => simp [putK, ih]

theorem zeros_set (n k : Nat) (hk : k < n) : (List.replicate k (48 : UInt8) ++ List.replicate (n - k) 0).set k 48 = List.replicate (k + 1) 48 ++ List.replicate (n - (k + 1)) 0 := by
  rw [List.set_append]
  simp only [List.length_replicate, Nat.lt_irrefl, if_false, Nat.sub_self]
  obtain ⟨m, hm⟩ : ∃ m, n - k = m + 1 := ⟨n - k - 1, by omega⟩
  rw [hm, show n - (k + 1) = m by omega, List.replicate_succ, List.set_cons_zero, List.replicate_succ', List.append_assoc]
  rfl

set_option maxHeartbeats 800000 in
theorem put_blk (s : ByteArray) (n c r : Nat) (ac ar : Addr) (w : World) (hs : s.size ≤ n) (hn : n ≤ 65536) (hc1 : 1 ≤ c) (hr : r ≤ 65536) (hto : ∀ i, i < s.size → posn c r i < n)
    (h1 : w.cell? ac = some (.int .i64 c)) (h2 : w.cell? ar = some (.int .i64 r)) (hlc : ac.block < w.heap.size) (hlr : ar.block < w.heap.size) :
    Calls Try.prog 29 #[.string s, .int .i64 n, .func (.func 43) #[] #[.pointer (some ac), .pointer (some ar)]] w fun e w' =>
      e = .returned (.string ⟨(putL s.data.toList n (posn c r)).toArray⟩) ∧ Below w.heap.size w w' := by
  have Hto := Lib.hid hto; clear hto
  have H1 := Lib.hid h1; clear h1
  have H2 := Lib.hid h2; clear h2
  go_enter Try.func29, Try.ntmps29
  go_wp2_with (at_make; refine wpList_mkrow _ rfl _ _ rfl 5 (.int .u8 0) 1 Try.underlying46 (by kernel_rfl) rfl _ n rfl rfl (by omega) (by omega) ?_; intro w1 hrow1 hb1 hsz1)
  go_loopw [14] (fun i wr => ∃ k : Nat, k ≤ n ∧ i = .int .i64 k ∧ Row wr w.heap.size 5 (bts (List.replicate k 48 ++ List.replicate (n - k) 0)) ∧ Below w.heap.size w wr) (fun i _ => n - (intOf i).toNat)
  case atStart =>
    refine ⟨0, by omega, rfl, ?_, hb1⟩
    have h := bts_rep n 0
    simp only [UInt8.toNat_zero, Int.natCast_zero] at h
    rw [List.replicate_zero, List.nil_append, Nat.sub_zero, ← h]; exact hrow1
  case round =>
    obtain ⟨k, hk, rfl, hrow, hb⟩ := hrel
    by_cases hlt : k < n
    · have hcell : ∃ v, wr.cell? ⟨w.heap.size, k, none⟩ = some v := by
        rw [hrow.cell]; rw [List.getElem?_eq_getElem (by simp [bts_len]; omega)]; exact ⟨_, rfl⟩
      obtain ⟨v0, hv0⟩ := hcell
      have hfz := hrow.frozen k
      go_wp2_with fail
      go_roundw
      case rel =>
        refine ⟨k + 1, by omega, by go_num, ?_, hb.setCell (Nat.le_refl _) _⟩
        have h := hrow.set k (.int .u8 ((48 : UInt8).toNat : Int))
        rw [bts_set, zeros_set n k hlt] at h
        exact h
      case measure => simp [intOf]; omega
    · obtain rfl : k = n := by omega
      rw [Nat.sub_self, List.replicate_zero, List.append_nil] at hrow
      go_wp2_with fail
      have HR := Lib.hid hrow; clear hrow
      have HB := Lib.hid hb; clear hb
      obtain ⟨n', hn'⟩ : ∃ n' : Nat, n' = k := ⟨k, rfl⟩
      subst hn'
      obtain ⟨W, hW⟩ : ∃ W : World, W = wr := ⟨wr, rfl⟩
      have hlen : (putK s.data.toList (posn c r) s.size (List.replicate n' 48)).length = n' := by rw [putK_len, List.length_replicate]
      clear hlen
      go_loopw [23] (fun i wr2 => ∃ j : Nat, j ≤ s.size ∧ i = .int .i64 j ∧ Row wr2 w.heap.size 5 (bts (putK s.data.toList (posn c r) j (List.replicate n' 48))) ∧ Below w.heap.size w wr2) (fun i _ => s.size - (intOf i).toNat)
      case atStart => exact ⟨0, by omega, rfl, HR.out, HB.out⟩
      case round =>
        obtain ⟨j, hj, rfl, hrow, hb⟩ := hrel
        have hlen := putK_len s.data.toList (posn c r) j (List.replicate n' 48)
        rw [List.length_replicate] at hlen
        have HL := Lib.hid hlen; clear hlen
        by_cases hlt : j < s.size
        · have hp := Hto.out j hlt
          have hcell : ∃ v, wr.cell? ⟨w.heap.size, posn c r j, none⟩ = some v := by
            rw [hrow.cell]; rw [List.getElem?_eq_getElem (by rw [bts_len, HL.out]; exact hp)]; exact ⟨_, rfl⟩
          obtain ⟨v0, hv0⟩ := hcell
          have hfz := hrow.frozen (posn c r j)
          have hc1' : wr.cell? ac = some (.int .i64 c) := by rw [hb.cell hlc]; exact H1.out
          have hc2' : wr.cell? ar = some (.int .i64 r) := by rw [hb.cell hlr]; exact H2.out
          have K1 := Lib.hid hc1'; clear hc1'
          have K2 := Lib.hid hc2'; clear hc2'
          go_wp2_with fail
          go_region_with (go_at_call 43; refine (blockTo_any c r j ac ar _ hc1 hr (by omega) (by exact K1.out) (by exact K2.out)).mono ?_; rintro e w' ⟨rfl, nq, rfl⟩)
          all_goals
            go_wp2_with fail
            go_roundw
            case rel =>
              refine ⟨j + 1, by omega, by go_num, ?_, ?_⟩
              · have h := hrow.set (posn c r j) (.int .u8 (((s.data.toList.getD j 0).toNat : Nat) : Int))
                rw [bts_set] at h
                have e : s.data.toList.getD j 0 = s[j] := by
                  rw [List.getD_eq_getElem?_getD, List.getElem?_eq_getElem hlt]; rfl
                rw [e] at h
                rw [putK, e]
                exact h
              · exact below_drewN (hb.setCell (Nat.le_refl _) _) _
            case measure => simp [intOf]; omega
        · obtain rfl : j = s.size := by omega
          have hcv := run_string_row (P := Try.prog) (w := wr) (src := 46) (dst := 9) (c := n') Try.underlying46 Try.underlying5 Try.underlying9 hrow HL.out
          go_wp2_with fail
          go_ret
          exact ⟨rfl, hb⟩

end Go.Proofs.Ytgjlhjklcgladaa
