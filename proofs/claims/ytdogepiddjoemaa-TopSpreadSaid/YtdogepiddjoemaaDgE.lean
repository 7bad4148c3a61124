/-
  The contract of text.
-/
import Derived.Test.YtdogepiddjoemaaDgD
import Derived.Test.YtdogepiddjoemaaByt
namespace Go.Proofs.Ytdogepiddjoemaa
open Go.RowKit

def tx (r n : Nat) : List UInt8 := (List.range n).map fun i => if r.testBit (n - 1 - i) then 49 else 48
theorem tx_len (r n : Nat) : (tx r n).length = n := by simp [tx]
theorem tx_bin (r n : Nat) : (tx r n).all isB = true := by
  rw [List.all_eq_true]
  intro x hx
  simp only [tx, List.mem_map] at hx
  obtain ⟨i, _, rfl⟩ := hx
  split <;> decide
def tk (r n j : Nat) : List UInt8 := (tx r n).take j ++ List.replicate (n - j) 0
theorem tk_len (r n j : Nat) (h : j ≤ n) : (tk r n j).length = n := by simp [tk, tx_len]; omega
theorem tk_next (r n j : Nat) (h : j < n) : (tk r n j).set j (if r.testBit (n - 1 - j) then 49 else 48) = tk r n (j + 1) := by
  have e : (tx r n)[j]'(by rw [tx_len]; exact h) = if r.testBit (n - 1 - j) then 49 else 48 := by simp [tx]
  have hl : ((tx r n).take j).length = j := by rw [List.length_take, tx_len]; omega
  rw [tk, tk, List.take_add_one, List.getElem?_eq_getElem (by rw [tx_len]; exact h), e]
  rw [List.set_append, if_neg (by omega), hl, Nat.sub_self, show n - j = (n - (j + 1)) + 1 by omega, List.replicate_succ, List.set_cons_zero]
  simp

set_option maxHeartbeats 1000000 in
set_option maxRecDepth 100000 in
theorem text_any (r n : Nat) (w : World) (hr : r < 18446744073709551616) (hn : n ≤ 64) :
    Calls Try.prog 25 #[.int .u64 (r : Int), .int .i64 (n : Int)] w fun e w' => e = .returned (.string ⟨(tx r n).toArray⟩) ∧ Below w.heap.size w w' := by
  go_enter Try.func25, Try.ntmps25
  go_wp2_with (refine wpList_mkrow _ rfl _ _ rfl 5 (.int .u8 0) 1 Try.underlying31 rfl rfl (n : Int) n rfl rfl (by omega) (by omega) ?_)
  intro w1 hrow hb hz
  have HB := Lib.hid hb
  have HZ := Lib.hid (show w.heap.size < w1.heap.size by omega)
  have HR : Hid (Row w1 w.heap.size 5 (bts (tk r n 0))) := Lib.hid (by
    have e : bts (tk r n 0) = List.replicate n (.int .u8 0) := by simp [tk, bts]
    rw [e]; exact hrow)
  clear hrow hb hz
  go_wp2_with fail
  go_loopw [11] (fun i wr => ∃ j : Nat, j ≤ n ∧ i = .int .i64 j ∧ Row wr w.heap.size 5 (bts (tk r n j)) ∧ Below w.heap.size w wr) (fun i _ => n - (intOf i).toNat)
  case atStart => exact ⟨0, by omega, rfl, HR.out, HB.out⟩
  case round =>
    obtain ⟨j, hj, rfl, hrow, hb⟩ := hrel
    have HROW := Lib.hid hrow; clear hrow
    have HB2 := Lib.hid hb; clear hb HR HB
    by_cases hlt : j < n
    · obtain ⟨K, hK⟩ : ∃ K, n - 1 - j = K := ⟨_, rfl⟩
      have hnj : (n : Int) - 1 - (j : Int) = (K : Int) := by omega
      have htb := top_bit K r hr
      have HN := Lib.hid (tk_next r n j hlt)
      rw [hK] at HN
      have hK64 : K ≤ 64 := by omega
      clear hK
      have hlen : (bts (tk r n j)).length = n := by rw [bts_len, tk_len _ _ _ hj]
      have HLN := Lib.hid hlen; clear hlen
      have hcell := HROW.out.cell j
      have hfz := HROW.out.frozen j
      rw [List.getElem?_eq_getElem (by rw [HLN.out]; exact hlt)] at hcell
      by_cases htt : r.testBit K = true
      · rw [if_pos htt] at htb HN
        have HS := Lib.hid (show Row (wr.setCell ⟨w.heap.size, j, none⟩ (.int .u8 49)) w.heap.size 5 (bts (tk r n (j + 1))) by
          have h := HROW.out.set j (.int .u8 49)
          rw [show (Value.int .u8 49) = .int .u8 ((49 : UInt8).toNat : Int) from rfl, bts_set, HN.out] at h
          exact h)
        clear htt
        go_wp2_with fail
        go_roundw
        case rel => exact ⟨j + 1, by omega, by go_num, HS.out, HB2.out.setCell (p := ⟨w.heap.size, j, none⟩) (Nat.le_refl _) _⟩
        case measure => simp [intOf]; omega
      · rw [if_neg htt] at htb HN
        have HS := Lib.hid (show Row (wr.setCell ⟨w.heap.size, j, none⟩ (.int .u8 48)) w.heap.size 5 (bts (tk r n (j + 1))) by
          have h := HROW.out.set j (.int .u8 48)
          rw [show (Value.int .u8 48) = .int .u8 ((48 : UInt8).toNat : Int) from rfl, bts_set, HN.out] at h
          exact h)
        clear htt
        go_wp2_with fail
        go_roundw
        case rel => exact ⟨j + 1, by omega, by go_num, HS.out, HB2.out.setCell (p := ⟨w.heap.size, j, none⟩) (Nat.le_refl _) _⟩
        case measure => simp [intOf]; omega
    · obtain rfl : j = n := by omega
      have hd : decide ((j : Int) < (j : Int)) = false := by simp
      have e : tk r j j = tx r j := by rw [tk, List.take_of_length_le (by rw [tx_len]; omega)]; simp
      rw [e] at HROW
      clear e
      have hcv := run_string_row (P := Try.prog) (src := 31) (dst := 9) (c := j) Try.underlying31 Try.underlying5 Try.underlying9 HROW.out (tx_len r j)
      go_wp2_with fail
      go_ret
      exact ⟨rfl, HB2.out⟩
end Go.Proofs.Ytdogepiddjoemaa
