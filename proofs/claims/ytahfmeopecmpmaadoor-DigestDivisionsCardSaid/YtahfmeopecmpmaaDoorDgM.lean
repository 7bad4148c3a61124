/-
  The contracts of Pad, Xor, cut, sum and burst.
-/
import Derived.Test.YtahfmeopecmpmaaDoorDgL
import Derived.Test.YtahfmeopecmpmaaDoorDgW
namespace Go.Proofs.YtahfmeopecmpmaaDoor
open Go.RowKit

def szOf : Value → Nat
  | .string t => t.size
  | _ => 0
set_option maxHeartbeats 400000 in
theorem Pad_any (s : ByteArray) (n : Nat) (w : World) (hn : n ≤ 60000) :
    Calls Tryd.prog 33 #[.string s, .int .i64 (n : Int)] w fun e w' => e = .returned (.string ⟨(pad s.data.toList n).toArray⟩) ∧ w = w' := by
  go_enter Tryd.func33, Tryd.ntmps33
  go_wp2_with fail
  go_loopw [0] (fun v wr => ∃ (t : ByteArray) (j : Nat), v = .string t ∧ t.data.toList = List.replicate j 48 ++ s.data.toList ∧ (j = 0 ∨ t.size ≤ n) ∧ w = wr) (fun v _ => n - szOf v)
  case atStart => exact ⟨s, 0, rfl, rfl, .inl rfl, rfl⟩
  case round =>
    obtain ⟨t, j, rfl, ht, hj, rfl⟩ := hrel
    have e1 : t.data.toList.length = t.size := rfl
    have e2 : s.data.toList.length = s.size := rfl
    have hts : t.size = j + s.size := by rw [← e1, ht, List.length_append, List.length_replicate, e2]
    have HT := Lib.hid ht; clear ht
    have HJ := Lib.hid hj; clear hj
    have HTS := Lib.hid hts; clear hts
    clear e1 e2
    by_cases hlt : t.size < n
    · have hd : decide ((t.size : Int) < (n : Int)) = true := by simp; omega
      have hov : ¬ 9223372036854775807 < 1 + t.size := by omega
      have hone : (⟨#[48]⟩ : ByteArray).size = 1 := rfl
      have HU := Lib.hid (show ((⟨#[48]⟩ : ByteArray) ++ t).data.toList = 48 :: t.data.toList by rw [Go.Joins.data_append]; rfl)
      have HUS := Lib.hid (show ((⟨#[48]⟩ : ByteArray) ++ t).size = t.size + 1 by rw [ByteArray.size_append, hone]; omega)
      go_wp2_with fail
      go_roundw
      case rel => exact ⟨(⟨#[48]⟩ : ByteArray) ++ t, j + 1, rfl, by rw [HU.out, HT.out, List.replicate_succ]; rfl, .inr (by rw [HUS.out]; omega), trivial⟩
      case measure => simp only [szOf, HUS.out]; omega
    · have hd : decide ((t.size : Int) < (n : Int)) = false := by simp; omega
      have HV := Lib.hid (show t = ⟨(pad s.data.toList n).toArray⟩ by
        have h1 := HT.out
        have h2 := HJ.out
        have h3 := HTS.out
        have e2 : s.data.toList.length = s.size := rfl
        apply ByteArray.ext; apply Array.ext'
        rw [h1, pad]
        congr 2
        omega)
      go_wp2_with fail
      go_ret
      exact ⟨by rw [← HV.out]; rfl, rfl⟩

theorem xr_take {a b : List UInt8} {k : Nat} (ha : k < a.length) (hb : k < b.length) : (xr a b).take (k + 1) = (xr a b).take k ++ [if a[k] = b[k] then 48 else 49] := by
  have hk : k < (xr a b).length := by rw [xr_len]; omega
  rw [List.take_succ_eq_append_getElem hk]
  simp only [xr, List.getElem_zipWith]

set_option maxHeartbeats 1000000 in
set_option maxRecDepth 100000 in
theorem Xor_any (m s : ByteArray) (w : World) (hl : m.size = s.size) (hs6 : s.size ≤ 65536) :
    Calls Tryd.prog 23 #[.string m, .string s] w fun e w' => e = .returned (.string ⟨(xr m.data.toList s.data.toList).toArray⟩) ∧ Below w.heap.size w w' := by
  have HL := Lib.hid hl; clear hl
  go_enter Tryd.func23, Tryd.ntmps23
  go_wp2_with fail
  have HO := Lib.hid (own_lit w w.heap.size 5 [] (Nat.le_refl _) (by simp))
  go_loopw [5, 6] (fun v i wr => ∃ k : Nat, k ≤ s.size ∧ i = .int .i64 k ∧ Own wr w.heap.size 5 v (bts ((xr m.data.toList s.data.toList).take k)) ∧ Below w.heap.size w wr) (fun _ i _ => s.size - (intOf i).toNat)
  case atStart => exact ⟨0, by omega, rfl, HO.out, (Below.refl _ _).alloc (Nat.le_refl _) _⟩
  case round =>
    obtain ⟨k, hk, rfl, hown, hb⟩ := hrel
    have HW := Lib.hid hown; clear hown
    have HB := Lib.hid hb; clear hb
    by_cases hlt : k < s.size
    · have hkm : k < m.size := by have := HL.out; omega
      have HT := Lib.hid (show (xr m.data.toList s.data.toList).take (k + 1) = (xr m.data.toList s.data.toList).take k ++ [if m[k] = s[k] then 48 else 49] from
        xr_take (a := m.data.toList) (b := s.data.toList) (by simpa using hkm) (by simpa using hlt))
      have hlen : (bts ((xr m.data.toList s.data.toList).take k)).length ≤ k := by rw [bts_len]; exact List.length_take_le _ _
      have HSZ := Lib.hid HB.out.size
      have hd1 : decide ((k : Int) < (m.size : Int)) = true := by simp; omega
      have hd3 : decide (k < m.size) = true := by simp; omega
      have hd2 : decide ((k : Int) < (s.size : Int)) = true := by simp; omega
      by_cases hmr : m[k] = s[k]
      · have hb : (((m[k].toNat : Nat) : Int) == ((s[k].toNat : Nat) : Int)) = true := by rw [hmr]; simp
        have HT2 := Lib.hid (show (xr m.data.toList s.data.toList).take (k + 1) = (xr m.data.toList s.data.toList).take k ++ [48] by rw [HT.out, if_pos hmr])
        clear hmr
        go_wp2_with fail
        go_quiet (fail)
        go_wp2_with (at_builtin; refine wpList_app1 _ rfl _ _ _ rfl w.heap.size 5 (.int .u8 0) 1 Tryd.underlying57 (by kernel_rfl) rfl _ _ rfl ((HW.out.alloc _).drewN _) wr.heap.size 1 (.int .u8 48) rfl ((row_new wr 5 [.int .u8 48]).cell 0) rfl ?c1 ?c2 ?c3 ?_)
        case c1 => omega
        case c2 => omega
        case c3 => have := HSZ.out; simp; omega
        intro v' w2 hown2 hgr _
        have HO2 := Lib.hid hown2; clear hown2
        have HB2 := Lib.hid (below_grown (below_drewN (HB.out.alloc HSZ.out _) _) ((HW.out.alloc _).drewN _) hgr (by have := HSZ.out; simp; omega)); clear hgr
        go_wp2_with fail
        go_roundw
        case rel => exact ⟨k + 1, by omega, by go_num, by rw [HT2.out, ← bts_append]; exact HO2.out, HB2.out⟩
        case measure => simp [intOf]; omega
      · have hb : (((m[k].toNat : Nat) : Int) == ((s[k].toNat : Nat) : Int)) = false := by
          rw [beq_eq_false_iff_ne]; intro he; apply hmr; rw [← UInt8.toNat_inj]; omega
        have HT2 := Lib.hid (show (xr m.data.toList s.data.toList).take (k + 1) = (xr m.data.toList s.data.toList).take k ++ [49] by rw [HT.out, if_neg hmr])
        clear hmr
        go_wp2_with fail
        go_quiet (fail)
        go_wp2_with (at_builtin; refine wpList_app1 _ rfl _ _ _ rfl w.heap.size 5 (.int .u8 0) 1 Tryd.underlying57 (by kernel_rfl) rfl _ _ rfl ((HW.out.alloc _).drewN _) wr.heap.size 1 (.int .u8 49) rfl ((row_new wr 5 [.int .u8 49]).cell 0) rfl ?c1 ?c2 ?c3 ?_)
        case c1 => omega
        case c2 => omega
        case c3 => have := HSZ.out; simp; omega
        intro v' w2 hown2 hgr _
        have HO2 := Lib.hid hown2; clear hown2
        have HB2 := Lib.hid (below_grown (below_drewN (HB.out.alloc HSZ.out _) _) ((HW.out.alloc _).drewN _) hgr (by have := HSZ.out; simp; omega)); clear hgr
        go_wp2_with fail
        go_roundw
        case rel => exact ⟨k + 1, by omega, by go_num, by rw [HT2.out, ← bts_append]; exact HO2.out, HB2.out⟩
        case measure => simp [intOf]; omega
    · obtain rfl : k = s.size := by omega
      have hd : decide ((s.size : Int) < (m.size : Int)) = false := by rw [HL.out]; simp
      have hd' : decide (s.size < m.size) = false := by rw [HL.out]; simp
      have hcv := run_string_own (P := Tryd.prog) (src := 57) (dst := 9) Tryd.underlying57 Tryd.underlying5 Tryd.underlying9 HW.out
      rw [List.take_of_length_le (by rw [xr_len]; exact Nat.min_le_right _ _)] at hcv
      go_wp2_with fail
      go_ret
      exact ⟨rfl, HB.out⟩

theorem cut_any (s : ByteArray) (w : World) : Calls Tryd.prog 35 #[.string s] w fun e w' => e = .returned (.string ⟨(trm s.data.toList).toArray⟩) ∧ w = w' := by
  go_enter Tryd.func35, Tryd.ntmps35
  go_wp2_with fail
  refine (Tryd.strings_TrimLeft_one s 48 (by decide) _).mono ?_
  rintro e w1 ⟨rfl, rfl⟩
  go_wp2_with fail
  go_ret
  exact ⟨rfl, rfl⟩
def sumW (a b : List UInt8) : List UInt8 := trm (xr (pad a (max a.length b.length)) (pad b (max a.length b.length)))
set_option maxHeartbeats 400000 in
theorem sum_any (a b : ByteArray) (w : World) (ha : a.size ≤ 60000) (hb : b.size ≤ 60000) :
    Calls Tryd.prog 36 #[.string a, .string b] w fun e w' => e = .returned (.string ⟨(sumW a.data.toList b.data.toList).toArray⟩) ∧ Below w.heap.size w w' := by
  obtain ⟨n, hn⟩ : ∃ n, max a.size b.size = n := ⟨_, rfl⟩
  have hmx : max (a.size : Int) (b.size : Int) = (n : Int) := by omega
  have hn1 : a.size ≤ n := by omega
  have hn2 : b.size ≤ n := by omega
  have hn3 : n ≤ 60000 := by omega
  have HV := Lib.hid (show sumW a.data.toList b.data.toList = trm (xr (pad a.data.toList n) (pad b.data.toList n)) by rw [sumW, show max a.data.toList.length b.data.toList.length = n from hn])
  obtain ⟨A, hA⟩ : ∃ A : ByteArray, (⟨(pad a.data.toList n).toArray⟩ : ByteArray) = A := ⟨_, rfl⟩
  obtain ⟨B, hB⟩ : ∃ B : ByteArray, (⟨(pad b.data.toList n).toArray⟩ : ByteArray) = B := ⟨_, rfl⟩
  have hAs : A.size = n := by rw [← hA]; exact (show (pad a.data.toList n).toArray.size = n by rw [List.size_toArray]; exact pad_len hn1)
  have hBs : B.size = n := by rw [← hB]; exact (show (pad b.data.toList n).toArray.size = n by rw [List.size_toArray]; exact pad_len hn2)
  have HV2 := Lib.hid (show sumW a.data.toList b.data.toList = trm (xr A.data.toList B.data.toList) by rw [HV.out, ← hA, ← hB])
  have HA := Lib.hid hA
  have HB := Lib.hid hB
  have HX := Lib.hid (fun w => Xor_any A B w (by omega) (by omega))
  clear hn hA hB hAs hBs
  go_enter Tryd.func36, Tryd.ntmps36
  go_wp2_with fail
  refine (Pad_any a n _ hn3).mono ?_
  rintro e w1 ⟨rfl, rfl⟩
  rw [HA.out]
  go_wp2_with fail
  refine (Pad_any b n _ hn3).mono ?_
  rintro e w1 ⟨rfl, rfl⟩
  rw [HB.out]
  go_wp2_with fail
  refine (HX.out _).mono ?_
  rintro e w1 ⟨rfl, h1⟩
  have H1 := Lib.hid h1; clear h1
  go_wp2_with fail
  refine (cut_any _ _).mono ?_
  rintro e w2 ⟨rfl, rfl⟩
  go_wp2_with fail
  go_ret
  exact ⟨by rw [HV2.out]; rfl, H1.out⟩

set_option maxHeartbeats 2000000 in
set_option maxRecDepth 100000 in
theorem burst_any (n A b : Nat) (s : ByteArray) (w : World) (hA : A + b ≤ n) (hn : n ≤ 60000) (hs : s.size ≤ 60000) :
    Calls Tryd.prog 34 #[.int .i64 (n : Int), .int .i64 (A : Int), .int .i64 (b : Int), .string s] w fun e w' => e = .returned (.string ⟨(bu n A b s.data.toList).toArray⟩) ∧ Below w.heap.size w w' := by
  have HM := Lib.hid (bm_len b s.data.toList)
  have HBL := Lib.hid (fun j (hj : j ≤ b) => bw_len (n := n) (A := A) (m := bm b s.data.toList) (j := j) (by rw [HM.out]; exact hj) (by rw [HM.out]; exact hA))
  have HBS := Lib.hid (fun j (hj : j < b) => bw_set (n := n) (A := A) (m := bm b s.data.toList) (j := j) (by rw [HM.out]; exact hj) (by rw [HM.out]; exact hA))
  have HBE := Lib.hid (fun j (hj : j < b) => bw_same (n := n) (A := A) (m := bm b s.data.toList) (j := j) (by rw [HM.out]; exact hj) (by rw [HM.out]; exact hA))
  have HBG := Lib.hid (fun j (hj : j < b) => bm_get b s.data.toList j hj)
  have HB0 := Lib.hid (bw_zero n A (bm b s.data.toList) (by omega))
  have HBU := Lib.hid (show bu n A b s.data.toList = bw n A (bm b s.data.toList) b from rfl)
  go_enter Tryd.func34, Tryd.ntmps34
  go_wp2_with fail
  refine (Tryd.strings_Repeat ⟨#[48]⟩ n _ (by omega) (by simp [ByteArray.size]; omega)).mono ?_
  rintro e w2 ⟨rfl, h2⟩
  rw [show Lib.repeatL (⟨#[48]⟩ : ByteArray).data.toList n = List.replicate n 48 from repeatL_one 48 n]
  have H2 := Lib.hid h2; clear h2
  obtain ⟨Z, hZ⟩ : ∃ Z : ByteArray, (⟨(List.replicate n (48 : UInt8)).toArray⟩ : ByteArray) = Z := ⟨_, rfl⟩
  rw [hZ]
  have HZ := Lib.hid (show Z.data.toList = bw n A (bm b s.data.toList) 0 by rw [← hZ, HB0.out])
  have hZs : Z.size = n := by rw [← hZ]; simp [ByteArray.size]
  clear hZ
  go_wp2_with (refine wpList_bytes _ rfl _ 9 57 5 rfl Tryd.underlying9 Tryd.underlying57 Tryd.underlying5 Z rfl ?_)
  intro w3 c hrow hb hz hc
  rw [HZ.out] at hrow
  have HR := Lib.hid hrow
  have H3 := Lib.hid (H2.out.trans (hb.mono H2.out.size))
  have HZ3 := Lib.hid hz
  have HW2 := Lib.hid H2.out.size
  clear hrow hb hz
  clear HZ hc
  obtain ⟨B, hB⟩ : ∃ B, w2.heap.size = B := ⟨_, rfl⟩
  rw [hB] at HR HZ3 HW2 ⊢
  clear hB
  go_wp2_with fail
  go_loopw [15] (fun i wr => ∃ k : Nat, k ≤ b ∧ i = .int .i64 k ∧ RowP wr B 5 (bts (bw n A (bm b s.data.toList) k)) ∧ Below w.heap.size w wr) (fun i _ => b - (intOf i).toNat)
  case atStart => exact ⟨0, by omega, rfl, HR.out, H3.out⟩
  case round =>
    obtain ⟨k, hk, rfl, hrow, hb⟩ := hrel
    by_cases hlt : k < b
    · have hkd : decide ((k : Int) < (b : Int)) = true := by simp; omega
      have hlk : (bts (bw n A (bm b s.data.toList) k)).length = n := by rw [bts_len, HBL.out k hk]
      have hAk : A + k < n := by omega
      have hfz : wr.frozen? ⟨B, A + k, none⟩ = false := hrow.frozen (A + k) (by omega)
      have hcl : ∃ u, wr.cell? ⟨B, A + k, none⟩ = some u := by
        rw [hrow.cell (A + k) (by omega), List.getElem?_eq_getElem (by omega)]; exact ⟨_, rfl⟩
      obtain ⟨u, hcu⟩ := hcl
      have HS := Lib.hid (hrow.set (A + k) (.int .u8 49) (by omega))
      have HROW := Lib.hid hrow
      have HBB := Lib.hid hb
      have HLK := Lib.hid hlk
      clear hrow hb hlk HR H3
      by_cases hcond : k = 0 ∨ k = b - 1 ∨ s.data.toList.getD k 0 = 49
      · have HX := Lib.hid (show RowP (wr.setCell ⟨B, A + k, none⟩ (.int .u8 49)) B 5 (bts (bw n A (bm b s.data.toList) (k + 1))) by
          have h1 := HBS.out k hlt
          rw [HBG.out k hlt, if_pos hcond] at h1
          have h2 := HS.out
          rw [show (Value.int .u8 49) = .int .u8 ((49 : UInt8).toNat : Int) from rfl, bts_set, h1] at h2
          exact h2)
        have HB5 := Lib.hid (HBB.out.setCell (p := ⟨B, A + k, none⟩) HW2.out (.int .u8 49))
        by_cases h0 : k = 0
        · have ht0 : ((k : Int) == 0) = true := by simp; omega
          clear hcond h0
          go_wp2_with fail
          go_roundw
          case rel => exact ⟨k + 1, by omega, by go_num, HX.out, HB5.out⟩
          case measure => simp [intOf]; omega
        · have ht0 : ((k : Int) == 0) = false := by simp; omega
          by_cases h1 : k = b - 1
          · have ht1 : ((k : Int) == (b : Int) - 1) = true := by simp; omega
            clear hcond h0 h1
            go_wp2_with fail
            go_roundw
            case rel => exact ⟨k + 1, by omega, by go_num, HX.out, HB5.out⟩
            case measure => simp [intOf]; omega
          · have ht1 : ((k : Int) == (b : Int) - 1) = false := by simp; omega
            have h49 : s.data.toList.getD k 0 = 49 := by
              rcases hcond with h | h | h
              · exact absurd h h0
              · exact absurd h h1
              · exact h
            have hks : k < s.size := by
              rcases Nat.lt_or_ge k s.size with h | h
              · exact h
              · rw [List.getD_eq_getElem?_getD, List.getElem?_eq_none (by simpa using h)] at h49; exact absurd h49 (by decide)
            rw [getD_at s k hks] at h49
            have ht2 : decide ((k : Int) < (s.size : Int)) = true := by simp; omega
            have ht3 : ((s[k].toNat : Int) == 49) = true := by rw [h49]; rfl
            clear hcond h0 h1 h49
            go_wp2_with fail
            go_roundw
            case rel => exact ⟨k + 1, by omega, by go_num, HX.out, HB5.out⟩
            case measure => simp [intOf]; omega
      · have HX := Lib.hid (show bw n A (bm b s.data.toList) (k + 1) = bw n A (bm b s.data.toList) k from HBE.out k hlt (by rw [HBG.out k hlt, if_neg hcond]))
        have ht0 : ((k : Int) == 0) = false := by simp; omega
        have ht1 : ((k : Int) == (b : Int) - 1) = false := by simp; omega
        by_cases hks : k < s.size
        · have h49 : ¬ s[k] = 49 := by rw [← getD_at s k hks]; exact fun h => hcond (.inr (.inr h))
          have ht2 : decide ((k : Int) < (s.size : Int)) = true := by simp; omega
          have ht3 : ((s[k].toNat : Int) == 49) = false := by
            rw [beq_eq_false_iff_ne]; intro he; apply h49; rw [← UInt8.toNat_inj]
            have e : (49 : UInt8).toNat = 49 := rfl
            omega
          clear hcond h49
          go_wp2_with fail
          go_roundw
          case rel => exact ⟨k + 1, by omega, by go_num, by rw [HX.out]; exact HROW.out, HBB.out⟩
          case measure => simp [intOf]; omega
        · have ht2 : decide ((k : Int) < (s.size : Int)) = false := by simp; omega
          clear hcond
          go_wp2_with fail
          go_roundw
          case rel => exact ⟨k + 1, by omega, by go_num, by rw [HX.out]; exact HROW.out, HBB.out⟩
          case measure => simp [intOf]; omega
    · obtain rfl : k = b := by omega
      have hd : decide ((k : Int) < (k : Int)) = false := by simp
      have hcv := run_string_rowP (P := Tryd.prog) (src := 57) (dst := 9) (c := c) (n := n) Tryd.underlying57 Tryd.underlying5 Tryd.underlying9 hrow (HBL.out k hk)
      have HBB := Lib.hid hb
      clear hrow hb HR H3
      go_wp2_with fail
      go_ret
      exact ⟨by rw [HBU.out]; rfl, HBB.out⟩
end Go.Proofs.YtahfmeopecmpmaaDoor
