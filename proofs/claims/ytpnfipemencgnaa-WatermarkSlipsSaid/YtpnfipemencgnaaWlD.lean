/-
  WatermarkSlips returns true for every input: the walk.
-/
import Derived.Test.YtpnfipemencgnaaWlC
import Derived.Test.YtpnfipemencgnaaWmQ
import Derived.Lib.SmallJoins
import Derived.Lib.Split
namespace Go.Proofs.Ytpnfipemencgnaa
open Go.RowKit

theorem strs1 (w : World) (a : ByteArray) : Strs (w.alloc (.cells #[.string a] 9)) w.heap.size 0 [a] := by
  intro j hj
  have := (row_new w 9 [.string a]).cell j
  rw [Nat.zero_add]
  refine this.trans ?_
  match j, hj with
  | 0, _ => rfl

theorem bin_mk (n : Int) (s : ByteArray) (h1 : (s.size : Int) ≤ n) (h2 : s.size ≤ 65536) (h3 : s.data.toList.all isB = true) : bin n s = true := by
  rw [bin, Bool.and_eq_true, decide_eq_true_eq, beq_iff_eq]
  exact ⟨h1, (chk2_iff _).2 ⟨h2, h3⟩⟩

theorem cost_ok {u v : ByteArray} (hu : chk 2 u.data.toList = 0) (hv : chk 2 v.data.toList = 0) (lu : u.size ≤ 256) (lv : v.size ≤ 256) (w : World) :
    Calls Try.prog 14 #[.string u, .string v] w fun e w' => e = .returned (.tuple #[.int .i64 (wc u.data.toList v.data.toList : Nat), .int .i64 0]) ∧ Below w.heap.size w w' := by
  have hk : chkA u.data.toList v.data.toList = 0 := chkA_mk hu hv lu lv
  refine (cost_any u v w).mono fun e w' ⟨he, hb⟩ => ⟨?_, hb⟩
  rw [he, hk, costV, if_pos hk]
theorem ext_take (m : ByteArray) (i : Nat) : (m.extract 0 i).data.toList = m.data.toList.take i := Lib.extract_from_zero m i
theorem ext_drop (m : ByteArray) (i : Nat) : (m.extract i m.size).data.toList = m.data.toList.drop i := by
  rw [Lib.extract_data, List.take_of_length_le (by rw [List.length_drop]; exact Nat.le_refl _)]
theorem size_list (s : ByteArray) : s.size = s.data.toList.length := rfl
theorem all_take_drop {p : UInt8 → Bool} {l : List UInt8} (h : l.all p = true) (i j : Nat) : (l.take i).all p = true ∧ (l.drop j).all p = true := by
  rw [List.all_eq_true] at h
  exact ⟨List.all_eq_true.2 fun x hx => h x (List.mem_of_mem_take hx), List.all_eq_true.2 fun x hx => h x (List.mem_of_mem_drop hx)⟩
/-- The numbers of the places. -/
def psN (z : List Int) (n : Nat) : List Nat := (List.range n).map fun j => (z.getD j 0).toNat
theorem psN_succ (z : List Int) (n : Nat) : psN z (n + 1) = psN z n ++ [(z.getD n 0).toNat] := by simp [psN, List.range_succ]
theorem psN_len (z : List Int) (n : Nat) : (psN z n).length = n := by simp [psN]
theorem xor1_slot (a : UInt8) : bits .xor .u8 (a.toNat : Int) 1 = ((a ^^^ 1).toNat : Int) := by
  have ha := a.toNat_lt
  have := u8_xor_nat a.toNat 1 (by omega) (by omega)
  rw [show ((1 : Nat) : Int) = 1 from rfl] at this
  rw [this, UInt8.toNat_xor]; rfl

set_option maxHeartbeats 2000000 in
set_option maxRecDepth 100000 in
theorem law_watermarkSlips (m : ByteArray) (a1 a2 : Int) (a3 : Option Addr) (len3 cap3 : Nat) (z3 : List Int) (w : World) (_hm : m.size ≤ maxLen) (w1 : (Lit.int .u8 a1).wf = true) (w2 : (Lit.int .u8 a2).wf = true) (w3 : IsRowI .u8 w a3 len3 cap3 z3) :
    Calls Try.prog 5 #[.string m, .int .u8 a1, .int .u8 a2, .slice a3 len3 cap3] w fun e w' => e = .returned (.bool true) ∧ Below w.heap.size w w' := by
  clear _hm
  obtain ⟨b1, b2⟩ := bounds_u8 w1
  obtain ⟨b3, b4⟩ := bounds_u8 w2
  obtain ⟨hz, hmx, hcell, hwf⟩ := w3.parts
  clear w1 w2 w3
  unfold maxLen at hmx
  have HCELL := Lib.hid hcell; clear hcell
  have HWF := Lib.hid hwf; clear hwf
  have HN := Lib.hid (binary_any 24 w.heap.size 0 1 [m] _ (strs1 w m) (by simp) (by simp))
  by_cases hall : [m].all (bin 24) = true
  · have bm : bin 24 m = true := by simpa using hall
    have lm := (bin_ok bm).1
    by_cases hm0 : m.size = 0
    · have g1 : ((m.size : Int) == 0) = true := by simpa using hm0
      have HALL := Lib.hid hall; clear hall bm hm0
      go_enter Try.func5, Try.ntmps5
      go_wp2_with fail
      refine HN.out.mono ?_
      rintro e w1 ⟨rfl, h1⟩
      rw [HALL.out]
      have HB1 := Lib.hid (((Below.refl w.heap.size w).alloc (Nat.le_refl _) (.cells #[.string m] 9)).trans (h1.mono (by simp)))
      clear h1
      go_wp2_with fail
      refine (awake_any _).mono ?_
      rintro e w2 ⟨rfl, h2⟩
      have H2 := Lib.hid h2; clear h2
      go_wp2_with fail
      go_ret
      exact ⟨rfl, ext_trans HB1.out H2.out⟩
    · by_cases h8 : len3 ≤ 8
      · have g1 : ((m.size : Int) == 0) = false := by simpa using hm0
        have g2 : decide ((8 : Int) < (len3 : Int)) = false := by simp; omega
        have hmb := ((chk2_iff _).1 (bin_ok bm).2).2
        have hml : m.data.toList.length = m.size := rfl
        obtain ⟨i, hi, him⟩ : ∃ i : Nat, a1 % (m.size : Int) = i ∧ i < m.size := by
          have h1 := Int.emod_nonneg a1 (show (m.size : Int) ≠ 0 by omega)
          have h2 := Int.emod_lt_of_pos a1 (show (0 : Int) < m.size by omega)
          exact ⟨(a1 % (m.size : Int)).toNat, by omega, by omega⟩
        have HALL := Lib.hid hall; clear hall
        obtain ⟨ht, hd⟩ := all_take_drop hmb i (i + 1)
        obtain ⟨_, hd0⟩ := all_take_drop hmb i i
        obtain ⟨lt, hlt0⟩ : ∃ lt : UInt8, (⟨#[48, 49, 50, 51, 52, 53, 54, 55, 56, 57, 97, 98, 99, 100, 101, 102]⟩ : ByteArray).extract (a2 % 2).toNat (a2 % 2 + 1).toNat = ⟨#[lt]⟩ ∧ isB lt = true := by
          rcases (show a2 % 2 = 0 ∨ a2 % 2 = 1 by omega) with h | h
          · rw [h]; exact ⟨48, by decide +kernel, rfl⟩
          · rw [h]; exact ⟨49, by decide +kernel, rfl⟩
        have hX1 : (m.extract 0 i ++ m.extract (i + 1) m.size).data.toList = m.data.toList.take i ++ m.data.toList.drop (i + 1) := by
          rw [Go.Joins.data_append, ext_take, ext_drop]
        have hX2 : (m.extract 0 i ++ (⟨#[48, 49, 50, 51, 52, 53, 54, 55, 56, 57, 97, 98, 99, 100, 101, 102]⟩ : ByteArray).extract (a2 % 2).toNat (a2 % 2 + 1).toNat ++ m.extract i m.size).data.toList = m.data.toList.take i ++ lt :: m.data.toList.drop i := by
          rw [Go.Joins.data_append, Go.Joins.data_append, ext_take, ext_drop, hlt0.1, List.append_assoc]; rfl
        have P1 := Lib.hid (fun w => cost_ok (u := m) (v := m.extract 0 i ++ m.extract (i + 1) m.size) (bin_ok bm).2 ((chk2_iff _).2 ⟨by rw [hX1]; simp; omega, by rw [hX1, List.all_append, ht, hd]; rfl⟩) (by omega) (by rw [size_list, hX1]; simp; omega) w)
        have S1 := Lib.hid (show wc m.data.toList (m.extract 0 i ++ m.extract (i + 1) m.size).data.toList = 2 by rw [hX1]; exact wc_lost _ i (by omega))
        have P2 := Lib.hid (fun w => cost_ok (u := m) (v := m.extract 0 i ++ (⟨#[48, 49, 50, 51, 52, 53, 54, 55, 56, 57, 97, 98, 99, 100, 101, 102]⟩ : ByteArray).extract (a2 % 2).toNat (a2 % 2 + 1).toNat ++ m.extract i m.size) (bin_ok bm).2 ((chk2_iff _).2 ⟨by rw [hX2]; simp; omega, by rw [hX2, List.all_append, ht, List.all_cons, hlt0.2, hd0]; rfl⟩) (by omega) (by rw [size_list, hX2]; simp; omega) w)
        have S2 := Lib.hid (show wc m.data.toList (m.extract 0 i ++ (⟨#[48, 49, 50, 51, 52, 53, 54, 55, 56, 57, 97, 98, 99, 100, 101, 102]⟩ : ByteArray).extract (a2 % 2).toNat (a2 % 2 + 1).toNat ++ m.extract i m.size).data.toList = 2 by rw [hX2]; exact wc_put _ i _ (by omega))
        clear hX1 hX2 hlt0 ht hd hd0
        go_enter Try.func5, Try.ntmps5
        go_wp2_with fail
        refine HN.out.mono ?_
        rintro e w1 ⟨rfl, h1⟩
        rw [HALL.out]
        have HB1 := Lib.hid (((Below.refl w.heap.size w).alloc (Nat.le_refl _) (.cells #[.string m] 9)).trans (h1.mono (by simp)))
        clear h1
        go_wp2_with fail
        go_quiet (fail)
        go_wp2_with fail
        go_quiet (fail)
        go_wp2_with fail
        refine (P1.out _).mono ?_
        rintro e w2 ⟨rfl, h2⟩
        rw [S1.out]
        have HB2 := Lib.hid (ext_trans HB1.out ((below_ofN _).trans h2)); clear h2
        go_wp2_with fail
        refine (P2.out _).mono ?_
        rintro e w3 ⟨rfl, h3⟩
        rw [S2.out]
        have HB3 := Lib.hid (ext_trans HB2.out h3); clear h3
        go_wp2_with (refine wpList_bytes _ rfl _ 9 36 5 rfl Try.underlying9 Try.underlying36 Try.underlying5 m rfl ?_)
        intro w4 c hrow hb hz4 hc4
        have HR0 := Lib.hid hrow; clear hrow
        have HB4 := Lib.hid (ext_trans HB3.out hb); clear hb
        have hs3 := HB3.out.size
        go_wp2_with fail
        go_loopw [81] (fun i wr => ∃ k : Nat, k ≤ len3 ∧ i = .int .i64 k ∧ RowP wr w3.heap.size 5 (bts (flips m.data.toList (psN z3 k))) ∧ Below w.heap.size w wr) (fun i _ => len3 - (intOf i).toNat)
        case atStart => exact ⟨0, by omega, rfl, HR0.out, HB4.out⟩
        case round =>
          obtain ⟨k, hk, rfl, hrow, hb⟩ := hrel
          have HB := Lib.hid hb; clear hb
          by_cases hlt : k < len3
          · obtain ⟨g, o, rfl, hcz⟩ := HCELL.out k hlt
            have hcz' : wr.cell? ⟨g, o + k, none⟩ = some (.int .u8 (z3.getD k 0)) := cell_below hcz HB.out (cell_lt hcz)
            obtain ⟨z1, z2⟩ := bounds_u8 (HWF.out k hlt)
            obtain ⟨x, hxe⟩ : ∃ x, x = z3.getD k 0 := ⟨_, rfl⟩
            have HPS := Lib.hid (show psN z3 (k + 1) = psN z3 k ++ [x.toNat] by rw [psN_succ, hxe])
            rw [← hxe] at hcz' z1 z2
            clear hcz hxe
            obtain ⟨p, hp, hpm⟩ : ∃ p : Nat, x % (m.size : Int) = p ∧ p < m.size := by
              have h1 := Int.emod_nonneg x (show (m.size : Int) ≠ 0 by omega)
              have h2 := Int.emod_lt_of_pos x (show (0 : Int) < m.size by omega)
              exact ⟨(x % (m.size : Int)).toNat, by omega, by omega⟩
            have hpn : x.toNat % m.data.toList.length = p := by
              have : ((x.toNat % m.size : Nat) : Int) = p := by rw [← hp, Int.natCast_emod]; congr 1; omega
              show x.toNat % m.size = p
              omega
            obtain ⟨fl, hfe⟩ : ∃ fl, fl = flips m.data.toList (psN z3 k) := ⟨_, rfl⟩
            have hfl : p < fl.length := by rw [hfe, flips_len]; exact hpm
            have HFL := Lib.hid (show flips m.data.toList (psN z3 (k + 1)) = fl.set p (fl[p] ^^^ 1) by
              rw [HPS.out, flips_snoc, ← hfe, flipB, hpn, List.getD_eq_getElem?_getD, List.getElem?_eq_getElem hfl]; rfl)
            rw [← hfe] at hrow
            have hlk : (bts fl).length = fl.length := bts_len fl
            have cb := hrow.cell p (by omega)
            rw [bts_get, List.getElem?_eq_getElem hfl] at cb
            have cb' : wr.cell? ⟨w3.heap.size, p, none⟩ = some (.int .u8 (fl[p].toNat : Int)) := cb
            have fb := hrow.frozen p (by omega)
            have HSET := Lib.hid (hrow.set p (.int .u8 ((fl[p] ^^^ 1).toNat : Int)) (by omega))
            have hslot := xor1_slot fl[p]
            clear hrow hlk cb hfe hpn
            go_wp2_with fail
            go_roundw
            case rel =>
              refine ⟨k + 1, by omega, by go_num, ?_, HB.out.setCell (p := ⟨w3.heap.size, p, none⟩) hs3 _⟩
              rw [HFL.out, ← bts_set]; exact HSET.out
            case measure => simp [intOf]; omega
          · obtain rfl : k = len3 := by omega
            have hd : decide ((k : Int) < (k : Int)) = false := by simp
            obtain ⟨X3, hX3⟩ : ∃ X3 : ByteArray, X3 = ⟨(flips m.data.toList (psN z3 k)).toArray⟩ := ⟨_, rfl⟩
            have hX3d : X3.data.toList = flips m.data.toList (psN z3 k) := by rw [hX3]
            have hX3s : X3.size = m.size := by rw [size_list, hX3d, flips_len]; rfl
            have hcv := run_string_rowP (P := Try.prog) (w := wr) (src := 36) (dst := 9) (c := c) (n := m.size) Try.underlying36 Try.underlying5 Try.underlying9 hrow (by rw [flips_len]; rfl)
            rw [← hX3] at hcv
            have b3 : bin 24 X3 = true := bin_mk 24 X3 (by omega) (by omega) (by rw [hX3d]; exact all_flips _ _ (by omega) hmb)
            have P3 := Lib.hid (fun w => cost_bin bm b3 w)
            obtain ⟨X4, hX4⟩ : ∃ X4 : ByteArray, X4 = ⟨(exS m.data.toList X3.data.toList (alL m.data.toList X3.data.toList) m.size).toArray⟩ := ⟨_, rfl⟩
            have hxsz : X4.size = m.size := by rw [hX4, size_list]; exact exS_len _ _ _ _
            have p4 := fun w => extract_bin bm b3 w
            rw [← hX4] at p4
            have P4 := Lib.hid p4
            clear p4 hX4
            have hwf := wc_flips m.data.toList (psN z3 k)
            rw [← hX3d, psN_len] at hwf
            have HROW := Lib.hid hrow; clear hrow hX3d hX3s b3
            have HX3 := Lib.hid hX3; clear hX3
            go_wp2_with fail
            refine (P3.out _).mono ?_
            rintro e w5 ⟨rfl, h5⟩
            have HROW5 := HROW.out.below h5 HROW.out.lt
            have hcv2 := run_string_rowP (P := Try.prog) (w := w5) (src := 36) (dst := 9) (c := c) (n := m.size) Try.underlying36 Try.underlying5 Try.underlying9 HROW5 (by rw [flips_len]; rfl)
            rw [← HX3.out] at hcv2
            have HB5 := Lib.hid (ext_trans HB.out h5); clear h5 HROW5
            go_wp2_with fail
            refine (P4.out _).mono ?_
            rintro e w6 ⟨rfl, h6⟩
            have HB6 := Lib.hid (ext_trans HB5.out h6); clear h6
            go_wp2_with fail
            refine (awake_any _).mono ?_
            rintro e w7 ⟨rfl, h7⟩
            have H7 := Lib.hid h7; clear h7
            go_wp2_with fail
            go_ret
            exact ⟨rfl, ext_trans HB6.out H7.out⟩
      · have g1 : ((m.size : Int) == 0) = false := by simpa using hm0
        have g2 : decide ((8 : Int) < (len3 : Int)) = true := by simp; omega
        have HALL := Lib.hid hall; clear hall bm hm0 h8
        go_enter Try.func5, Try.ntmps5
        go_wp2_with fail
        refine HN.out.mono ?_
        rintro e w1 ⟨rfl, h1⟩
        rw [HALL.out]
        have HB1 := Lib.hid (((Below.refl w.heap.size w).alloc (Nat.le_refl _) (.cells #[.string m] 9)).trans (h1.mono (by simp)))
        clear h1
        go_wp2_with fail
        refine (awake_any _).mono ?_
        rintro e w2 ⟨rfl, h2⟩
        have H2 := Lib.hid h2; clear h2
        go_wp2_with fail
        go_ret
        exact ⟨rfl, ext_trans HB1.out H2.out⟩
  · have hall' : [m].all (bin 24) = false := by simpa using hall
    clear hall
    go_enter Try.func5, Try.ntmps5
    go_wp2_with fail
    refine HN.out.mono ?_
    rintro e w1 ⟨rfl, h1⟩
    rw [hall']
    have HB1 := Lib.hid (((Below.refl w.heap.size w).alloc (Nat.le_refl _) (.cells #[.string m] 9)).trans (h1.mono (by simp)))
    clear h1
    go_wp2_with fail
    refine (awake_any _).mono ?_
    rintro e w2 ⟨rfl, h2⟩
    have H2 := Lib.hid h2; clear h2
    go_wp2_with fail
    go_ret
    exact ⟨rfl, ext_trans HB1.out H2.out⟩
end Go.Proofs.Ytpnfipemencgnaa
