/-
  The contracts of the reference Add, Mark and Sparse.
-/
import Derived.Test.YtpnfipemencgnaaWmH
import Derived.Test.YtpnfipemencgnaaWmR
import Derived.Test.YtpnfipemencgnaaWmG
namespace Go.Proofs.Ytpnfipemencgnaa
open Go.RowKit

theorem addS_take (m l : List UInt8) (k : Nat) (h : k < l.length) : (addS m l).take (k + 1) = (addS m l).take k ++ [addB (l.getD k 0) (m.getD k 0)] := by
  have hk : k < (addS m l).length := by rw [addS_len]; exact h
  have := addS_get m l k h
  rw [List.getElem?_eq_getElem hk] at this
  rw [List.take_succ_eq_append_getElem hk, Option.some.inj this]
theorem addB_eq (a b : UInt8) (h1 : isB a = true) (h2 : isB b = true) : addB a b = if b = a then 48 else 49 := by
  simp only [isB, Bool.or_eq_true, beq_iff_eq] at h1 h2
  rcases h1 with rfl | rfl <;> rcases h2 with rfl | rfl <;> decide

set_option maxHeartbeats 1000000 in
set_option maxRecDepth 100000 in
theorem refAdd_ok (m s : ByteArray) (w : World) (hm : chk 2 m.data.toList = 0) (hs : chk 2 s.data.toList = 0) (hl : m.size = s.size) :
    Calls Try.prog 30 #[.string m, .string s] w fun e w' => e = .returned (.tuple #[.string ⟨(addS m.data.toList s.data.toList).toArray⟩, .int .i64 0]) ∧ Below w.heap.size w w' := by
  have hne : ((m.size : Int) != (s.size : Int)) = false := by simp [hl]
  have am := ((chk2_iff _).1 hm).2
  have bs := ((chk2_iff _).1 hs).2
  have hs6 : s.size ≤ 65536 := ((chk2_iff _).1 hs).1
  have AM := Lib.hid am
  have BS := Lib.hid bs
  have HL := Lib.hid hl; clear am bs hl
  have HM := Lib.hid hm; clear hm
  have HS := Lib.hid hs; clear hs
  go_enter Try.func30, Try.ntmps30
  go_wp2_with fail
  refine (refCheck_any _ _ _).mono ?_
  rintro e w' ⟨rfl, rfl⟩
  rw [HM.out]
  go_wp2_with fail
  refine (refCheck_any _ _ _).mono ?_
  rintro e w' ⟨rfl, rfl⟩
  rw [HS.out]
  go_wp2_with fail
  have HO := Lib.hid (own_lit w w.heap.size 5 [] (Nat.le_refl _) (by simp))
  go_loopw [8, 9] (fun v i wr => ∃ k : Nat, k ≤ s.size ∧ i = .int .i64 k ∧ Own wr w.heap.size 5 v (bts ((addS m.data.toList s.data.toList).take k)) ∧ Below w.heap.size w wr) (fun _ i _ => s.size - (intOf i).toNat)
  case atStart => exact ⟨0, by omega, rfl, HO.out, (Below.refl _ _).alloc (Nat.le_refl _) _⟩
  case round =>
    obtain ⟨k, hk, rfl, hown, hb⟩ := hrel
    have HW := Lib.hid hown; clear hown
    have HB := Lib.hid hb; clear hb
    by_cases hlt : k < s.size
    · have hkm : k < m.size := by have := HL.out; omega
      have e1 : s.data.toList.getD k 0 = s[k] := by rw [List.getD_eq_getElem?_getD, List.getElem?_eq_getElem (by simpa using hlt)]; rfl
      have e2 : m.data.toList.getD k 0 = m[k] := by rw [List.getD_eq_getElem?_getD, List.getElem?_eq_getElem (by simpa using hkm)]; rfl
      have i1 : isB s[k] = true := by have := BS.out; rw [List.all_eq_true] at this; exact this _ (by show s.data.toList[k]'(by simpa using hlt) ∈ _; exact List.getElem_mem _)
      have i2 : isB m[k] = true := by have := AM.out; rw [List.all_eq_true] at this; exact this _ (by show m.data.toList[k]'(by simpa using hkm) ∈ _; exact List.getElem_mem _)
      have HT := Lib.hid (show (addS m.data.toList s.data.toList).take (k + 1) = (addS m.data.toList s.data.toList).take k ++ [if m[k] = s[k] then 48 else 49] by
        rw [addS_take _ _ k (by simpa using hlt), e1, e2, addB_eq _ _ i1 i2])
      have hlen : (bts ((addS m.data.toList s.data.toList).take k)).length ≤ k := by rw [bts_len]; exact List.length_take_le _ _
      clear e1 e2 i1 i2
      have HSZ := Lib.hid HB.out.size
      by_cases hmr : m[k] = s[k]
      · have hb : (((m[k].toNat : Nat) : Int) == ((s[k].toNat : Nat) : Int)) = true := by rw [hmr]; simp
        have HT2 := Lib.hid (show (addS m.data.toList s.data.toList).take (k + 1) = (addS m.data.toList s.data.toList).take k ++ [48] by rw [HT.out, if_pos hmr])
        clear hmr
        go_wp2_with fail
        go_quiet (fail)
        go_wp2_with (at_builtin; refine wpList_app1 _ rfl _ _ _ rfl w.heap.size 5 (.int .u8 0) 1 Try.underlying36 (by kernel_rfl) rfl _ _ rfl ((HW.out.alloc _).drewN _) wr.heap.size 1 (.int .u8 48) rfl ((row_new wr 5 [.int .u8 48]).cell 0) rfl ?c1 ?c2 ?c3 ?_)
        case c1 => omega
        case c2 => omega
        case c3 => have := HSZ.out; simp; omega
        intro v' w2 hown2 hgr _
        have HO2 := Lib.hid hown2; clear hown2
        have HB2 := Lib.hid (below_grown (below_drewN (HB.out.alloc HSZ.out _) _) ((HW.out.alloc _).drewN _) hgr (by have := HSZ.out; simp; omega)); clear hgr
        go_wp2_with fail
        go_roundw
        case rel => exact ⟨k + 1, by omega, by go_num, by rw [HT2.out, ← bts_append]; exact HO2.out, HB2.out⟩
        case measure => simp [intOf]; omega
      · have hb : (((m[k].toNat : Nat) : Int) == ((s[k].toNat : Nat) : Int)) = false := by
          rw [beq_eq_false_iff_ne]; intro he; apply hmr; rw [← UInt8.toNat_inj]; omega
        have HT2 := Lib.hid (show (addS m.data.toList s.data.toList).take (k + 1) = (addS m.data.toList s.data.toList).take k ++ [49] by rw [HT.out, if_neg hmr])
        clear hmr
        go_wp2_with fail
        go_quiet (fail)
        go_wp2_with (at_builtin; refine wpList_app1 _ rfl _ _ _ rfl w.heap.size 5 (.int .u8 0) 1 Try.underlying36 (by kernel_rfl) rfl _ _ rfl ((HW.out.alloc _).drewN _) wr.heap.size 1 (.int .u8 49) rfl ((row_new wr 5 [.int .u8 49]).cell 0) rfl ?c1 ?c2 ?c3 ?_)
        case c1 => omega
        case c2 => omega
        case c3 => have := HSZ.out; simp; omega
        intro v' w2 hown2 hgr _
        have HO2 := Lib.hid hown2; clear hown2
        have HB2 := Lib.hid (below_grown (below_drewN (HB.out.alloc HSZ.out _) _) ((HW.out.alloc _).drewN _) hgr (by have := HSZ.out; simp; omega)); clear hgr
        go_wp2_with fail
        go_roundw
        case rel => exact ⟨k + 1, by omega, by go_num, by rw [HT2.out, ← bts_append]; exact HO2.out, HB2.out⟩
        case measure => simp [intOf]; omega
    · obtain rfl : k = s.size := by omega
      have hd : decide ((s.size : Int) < (s.size : Int)) = false := by simp
      have hcv := run_string_own (P := Try.prog) (src := 36) (dst := 9) Try.underlying36 Try.underlying5 Try.underlying9 HW.out
      rw [List.take_of_length_le (by rw [addS_len]; exact Nat.le_refl _)] at hcv
      go_wp2_with fail
      go_ret2
      exact ⟨rfl, HB.out⟩

set_option maxHeartbeats 400000 in
theorem refAdd_any (m s : ByteArray) (w : World) :
    Calls Try.prog 30 #[.string m, .string s] w fun e w' => e = .returned (.tuple #[.string ⟨(adV m.data.toList s.data.toList).toArray⟩, .int .i64 (adE m.data.toList s.data.toList)]) ∧ Below w.heap.size w w' := by
  by_cases hm : chk 2 m.data.toList = 0
  · by_cases hs : chk 2 s.data.toList = 0
    · by_cases hl : m.size = s.size
      · have he : adE m.data.toList s.data.toList = 0 := by rw [adE, chk2, if_pos hm, if_pos hs, if_pos (by simpa using hl)]
        refine (refAdd_ok m s w hm hs hl).mono fun e w' ⟨h1, h2⟩ => ⟨?_, h2⟩
        rw [h1, adV, if_pos he, he]
      · have he : adE m.data.toList s.data.toList = 11 := by rw [adE, chk2, if_pos hm, if_pos hs, if_neg (by simpa using hl)]
        have HV := Lib.hid (show adV m.data.toList s.data.toList = [] by rw [adV, if_neg (by simp [he])])
        have HE := Lib.hid he
        have hne : ((m.size : Int) != (s.size : Int)) = true := by simp; omega
        have HM := Lib.hid hm
        have HS := Lib.hid hs
        clear hl he hm hs
        go_enter Try.func30, Try.ntmps30
        go_wp2_with fail
        refine (refCheck_any _ _ _).mono ?_
        rintro e w' ⟨rfl, rfl⟩
        rw [HM.out]
        go_wp2_with fail
        refine (refCheck_any _ _ _).mono ?_
        rintro e w' ⟨rfl, rfl⟩
        rw [HS.out]
        go_wp2_with fail
        go_ret2
        exact ⟨by rw [HV.out, HE.out]; rfl, Below.refl _ _⟩
    · have he : adE m.data.toList s.data.toList = chk 2 s.data.toList := by rw [adE, chk2, if_pos hm, if_neg hs]
      have HV := Lib.hid (show adV m.data.toList s.data.toList = [] by rw [adV, if_neg (by rw [he]; exact hs)])
      have HE := Lib.hid he
      have hb : (chk 2 s.data.toList != 0) = true := by simpa using hs
      have HM := Lib.hid hm
      clear he hm hs
      go_enter Try.func30, Try.ntmps30
      go_wp2_with fail
      refine (refCheck_any _ _ _).mono ?_
      rintro e w' ⟨rfl, rfl⟩
      rw [HM.out]
      go_wp2_with fail
      refine (refCheck_any _ _ _).mono ?_
      rintro e w' ⟨rfl, rfl⟩
      go_wp2_with fail
      go_ret2
      exact ⟨by rw [HV.out, HE.out]; rfl, Below.refl _ _⟩
  · have he : adE m.data.toList s.data.toList = chk 2 m.data.toList := by rw [adE, chk2, if_neg hm, if_neg hm]
    have HV := Lib.hid (show adV m.data.toList s.data.toList = [] by rw [adV, if_neg (by rw [he]; exact hm)])
    have HE := Lib.hid he
    have hb : (chk 2 m.data.toList != 0) = true := by simpa using hm
    clear he hm
    go_enter Try.func30, Try.ntmps30
    go_wp2_with fail
    refine (refCheck_any _ _ _).mono ?_
    rintro e w' ⟨rfl, rfl⟩
    go_wp2_with fail
    go_ret2
    exact ⟨by rw [HV.out, HE.out]; rfl, Below.refl _ _⟩

theorem letter_bit (seed k : Nat) (h : lcgN seed (k + 1) / 65536 % 2 < 16) : (⟨#[48, 49, 50, 51, 52, 53, 54, 55, 56, 57, 97, 98, 99, 100, 101, 102]⟩ : ByteArray)[lcgN seed (k + 1) / 65536 % 2]'h = mkB seed k := by
  rw [mkB]
  have : lcgN seed (k + 1) / 65536 % 2 < 2 := Nat.mod_lt _ (by omega)
  generalize lcgN seed (k + 1) / 65536 % 2 = x at *
  match x, this with
  | 0, _ => rfl
  | 1, _ => rfl

set_option maxHeartbeats 1000000 in
set_option maxRecDepth 100000 in
theorem refMark_ok (n seed : Nat) (w : World) (hn : n ≤ 65536) (hs : seed < 2147483648) :
    Calls Try.prog 34 #[.int .i64 n, .int .i64 seed] w fun e w' => e = .returned (.tuple #[.string ⟨(mkS seed n).toArray⟩, .int .i64 0]) ∧ Below w.heap.size w w' := by
  have g1 : decide ((n : Int) < 0) = false := by simp
  have g2 : decide ((65536 : Int) < (n : Int)) = false := by simp; omega
  have g3 : decide ((seed : Int) < 0) = false := by simp
  have g4 : decide ((2147483648 : Int) ≤ (seed : Int)) = false := by simp; omega
  have HO := Lib.hid (own_lit w w.heap.size 5 [] (Nat.le_refl _) (by simp))
  go_enter Try.func34, Try.ntmps34
  go_wp2_with fail
  go_loopw [6, 7, 8] (fun v x i wr => ∃ k : Nat, k ≤ n ∧ i = .int .i64 k ∧ x = .int .i64 (lcgN seed k : Nat) ∧ Own wr w.heap.size 5 v (bts (mkS seed k)) ∧ Below w.heap.size w wr) (fun _ _ i _ => n - (intOf i).toNat)
  case atStart => exact ⟨0, by omega, rfl, rfl, HO.out, (Below.refl _ _).alloc (Nat.le_refl _) _⟩
  case round =>
    obtain ⟨k, hk, rfl, rfl, hown, hb⟩ := hrel
    have HW := Lib.hid hown; clear hown
    have HB := Lib.hid hb; clear hb
    by_cases hlt : k < n
    · have hst := lcgN_lt seed hs k
      have hlen := mkS_len seed k
      have HLN := Lib.hid hlen; clear hlen
      have HSZ := Lib.hid HB.out.size
      have hb2 : lcgN seed (k + 1) / 65536 % 2 < 2 := Nat.mod_lt _ (by omega)
      have hx := lcg_slot seed k
      have hB := letter_bit seed k (by omega)
      go_wp2_with (at_builtin; refine wpList_app1 _ rfl _ _ _ rfl w.heap.size 5 (.int .u8 0) 1 Try.underlying36 (by kernel_rfl) rfl _ _ rfl (HW.out.alloc _) wr.heap.size 1 (.int .u8 ((mkB seed k).toNat : Int)) rfl ((row_new wr 5 [.int .u8 ((mkB seed k).toNat : Int)]).cell 0) rfl ?c1 ?c2 ?c3 ?_)
      case c1 => rw [bts_len, HLN.out]; omega
      case c2 => rw [bts_len, HLN.out]; omega
      case c3 => have := HSZ.out; simp; omega
      intro v' w2 hown2 hgr _
      have HO2 := Lib.hid hown2; clear hown2
      have HB2 := Lib.hid (below_grown (HB.out.alloc HSZ.out _) (HW.out.alloc _) hgr (by have := HSZ.out; simp; omega)); clear hgr
      go_wp2_with fail
      go_roundw
      case rel => exact ⟨k + 1, by omega, by go_num, rfl, by rw [mkS_succ, ← bts_append]; exact HO2.out, HB2.out⟩
      case measure => simp [intOf]; omega
    · obtain rfl : k = n := by omega
      have hd : decide ((k : Int) < (k : Int)) = false := by simp
      have hcv := run_string_own (P := Try.prog) (src := 36) (dst := 9) Try.underlying36 Try.underlying5 Try.underlying9 HW.out
      go_wp2_with fail
      go_ret2
      exact ⟨rfl, HB.out⟩

set_option maxHeartbeats 1000000 in
theorem refMark_err (n seed : Int) (w : World) (h : n < 0 ∨ 65536 < n ∨ seed < 0 ∨ 2147483648 ≤ seed) :
    Calls Try.prog 34 #[.int .i64 n, .int .i64 seed] w fun e w' => e = .returned (.tuple #[.string ⟨#[]⟩, .int .i64 2]) ∧ w = w' := by
  by_cases h1 : n < 0
  · have g1 : decide (n < 0) = true := by simpa using h1
    clear h h1
    go_enter Try.func34, Try.ntmps34
    go_wp2_with fail
    go_ret2
    exact ⟨rfl, rfl⟩
  · have g1 : decide (n < 0) = false := by simpa using h1
    by_cases h2 : 65536 < n
    · have g2 : decide (65536 < n) = true := by simpa using h2
      clear h h1 h2
      go_enter Try.func34, Try.ntmps34
      go_wp2_with fail
      go_ret2
      exact ⟨rfl, rfl⟩
    · have g2 : decide (65536 < n) = false := by simpa using h2
      by_cases h3 : seed < 0
      · have g3 : decide (seed < 0) = true := by simpa using h3
        clear h h1 h2 h3
        go_enter Try.func34, Try.ntmps34
        go_wp2_with fail
        go_ret2
        exact ⟨rfl, rfl⟩
      · have g3 : decide (seed < 0) = false := by simpa using h3
        have g4 : decide (2147483648 ≤ seed) = true := by simp; omega
        clear h h1 h2 h3
        go_enter Try.func34, Try.ntmps34
        go_wp2_with fail
        go_ret2
        exact ⟨rfl, rfl⟩

theorem refMark_any (n seed : Int) (w : World) :
    Calls Try.prog 34 #[.int .i64 n, .int .i64 seed] w fun e w' => e = .returned (.tuple #[.string ⟨(mkV n seed).toArray⟩, .int .i64 (mkE n seed)]) ∧ Below w.heap.size w w' := by
  by_cases h : n < 0 ∨ 65536 < n ∨ seed < 0 ∨ 2147483648 ≤ seed
  · refine (refMark_err n seed w h).mono fun e w' ⟨h1, h2⟩ => ⟨?_, ?_⟩
    · have : mkE n seed = 2 := if_pos h
      rw [h1, mkV, this]; rfl
    · rw [← h2]; exact Below.refl _ _
  · obtain ⟨a, rfl⟩ := Int.eq_ofNat_of_zero_le (show 0 ≤ n by omega)
    obtain ⟨b, rfl⟩ := Int.eq_ofNat_of_zero_le (show 0 ≤ seed by omega)
    refine (refMark_ok a b w (by omega) (by omega)).mono fun e w' ⟨h1, h2⟩ => ⟨?_, h2⟩
    have : mkE a b = 0 := if_neg h
    rw [h1, mkV, this]; rfl

set_option maxHeartbeats 2000000 in
set_option maxRecDepth 100000 in
theorem refSparse_ok (n : Nat) (v : Value) (l : List Int) (w : World) (hn : n ≤ 65536) (hv : Holds w v l) (hl : l.length ≤ 4611686018427387904) (hbd : ∀ x ∈ l, -9223372036854775808 ≤ x ∧ x ≤ 9223372036854775807) :
    Calls Try.prog 32 #[.int .i64 n, v] w fun e w' => e = .returned (.tuple #[.string ⟨(spR n l).2.toArray⟩, .int .i64 (spR n l).1]) ∧ Below w.heap.size w w' := by
  obtain ⟨a, c, rfl, hcell⟩ := hv.parts
  have HC := Lib.hid hcell; clear hcell hv
  have HBD := Lib.hid hbd; clear hbd
  have g1 : decide ((n : Int) < 0) = false := by simp
  have g2 : decide ((65536 : Int) < (n : Int)) = false := by simp; omega
  have HR := Lib.hid (show spR n l = spGo n l none (List.replicate n 48) by rw [spR, if_neg (by omega)]; rfl)
  have HO := Lib.hid (own_lit w w.heap.size 5 [] (Nat.le_refl _) (by simp))
  go_enter Try.func32, Try.ntmps32
  go_wp2_with fail
  go_loopw [6, 7] (fun u i wr => ∃ k : Nat, k ≤ n ∧ i = .int .i64 k ∧ Own wr w.heap.size 5 u (bts (List.replicate k 48)) ∧ Below w.heap.size w wr) (fun _ i _ => n - (intOf i).toNat)
  case atStart => exact ⟨0, by omega, rfl, HO.out, (Below.refl _ _).alloc (Nat.le_refl _) _⟩
  case round =>
    obtain ⟨k, hk, rfl, hown, hb⟩ := hrel
    have HW := Lib.hid hown; clear hown
    have HB := Lib.hid hb; clear hb
    by_cases hlt : k < n
    · have HSZ := Lib.hid HB.out.size
      go_wp2_with (at_builtin; refine wpList_app1 _ rfl _ _ _ rfl w.heap.size 5 (.int .u8 0) 1 Try.underlying36 (by kernel_rfl) rfl _ _ rfl (HW.out.alloc _) wr.heap.size 1 (.int .u8 48) rfl ((row_new wr 5 [.int .u8 48]).cell 0) rfl ?c1 ?c2 ?c3 ?_)
      case c1 => rw [bts_len, List.length_replicate]; omega
      case c2 => rw [bts_len, List.length_replicate]; omega
      case c3 => have := HSZ.out; simp; omega
      intro v' w2 hown2 hgr _
      have HO2 := Lib.hid hown2; clear hown2
      have HB2 := Lib.hid (below_grown (HB.out.alloc HSZ.out _) (HW.out.alloc _) hgr (by have := HSZ.out; simp; omega)); clear hgr
      go_wp2_with fail
      go_roundw
      case rel => exact ⟨k + 1, by omega, by go_num, by rw [List.replicate_succ', ← bts_append]; exact HO2.out, HB2.out⟩
      case measure => simp [intOf]; omega
    · obtain rfl : k = n := by omega
      have hd : decide ((k : Int) < (k : Int)) = false := by simp
      have HP := Lib.hid HW.out.rowP
      obtain ⟨gg, cap2, hu, hgg⟩ : ∃ (a' : Option Addr) (cap2 : Nat), u6 = .slice a' k cap2 ∧ (0 < k → ∃ g, a' = some ⟨g, 0, none⟩ ∧ w.heap.size ≤ g ∧ RowP wr g 5 (bts (List.replicate k 48))) := by
        rcases HP.out with ⟨h1, h2⟩ | ⟨g, cap, h1, h2, h3⟩
        · have h4 := congrArg List.length h2
          rw [bts_len, List.length_replicate] at h4
          have h5 : k = 0 := h4
          subst h5
          exact ⟨none, 0, h1, fun h => by omega⟩
        · rw [bts_len, List.length_replicate] at h1
          exact ⟨_, cap, h1, fun _ => ⟨g, rfl, h2, h3⟩⟩
      subst hu
      have HGG := Lib.hid hgg; clear hgg
      have HWN := Lib.hid HW.out
      obtain ⟨wo, hwo⟩ : ∃ wo : World, wo = wr := ⟨_, rfl⟩
      rw [← hwo] at HGG HB HW ⊢
      clear hwo HP HWN
      go_wp2_with fail
      go_loopw [8] (fun i wr => ∃ (j : Nat) (b : List UInt8), j ≤ l.length ∧ i = .int .i64 j ∧ b.length = k ∧ spGo k (l.drop j) (prevOf l j) b = spGo k l none (List.replicate k 48) ∧ (0 < k → ∃ g, gg = some ⟨g, 0, none⟩ ∧ w.heap.size ≤ g ∧ RowP wr g 5 (bts b)) ∧ Below w.heap.size w wr) (fun i _ => l.length - (intOf i).toNat)
      case atStart => exact ⟨0, List.replicate k 48, by omega, rfl, List.length_replicate, rfl, HGG.out, HB.out⟩
      case round =>
        obtain ⟨j, b, hj, rfl, hbl, hgo, hrow, hb⟩ := hrel
        have HB := Lib.hid hb; clear hb
        have HROW := Lib.hid hrow; clear hrow
        have HGO := Lib.hid hgo; clear hgo
        have HBL := Lib.hid hbl; clear hbl
        by_cases hlt : j < l.length
        · obtain ⟨g, o, rfl, hc⟩ := HC.out j hlt
          have hcz : wr.cell? ⟨g, o + j, none⟩ = some (.int .i64 l[j]) := cell_below hc HB.out (cell_lt hc)
          have HCZ := Lib.hid (fun i (hi : i < l.length) => (show wr.cell? ⟨g, o + i, none⟩ = some (.int .i64 l[i]) by
            obtain ⟨g', o', he, h⟩ := HC.out i hi
            cases he
            exact cell_below h HB.out (cell_lt h)))
          have HD := Lib.hid (drop_at l j hlt)
          obtain ⟨bd1, bd2⟩ := HBD.out l[j] (List.getElem_mem hlt)
          clear hc
          by_cases h0 : l[j] < 0
          · have HE := Lib.hid (show spR k l = (2, []) by rw [HR.out, ← HGO.out, HD.out, spGo, if_pos (.inl h0)])
            have t1 : decide (l[j] < 0) = true := by simpa using h0
            clear h0
            go_wp2_with fail
            go_ret2
            exact ⟨by rw [HE.out]; rfl, HB.out⟩
          · have t1 : decide (l[j] < 0) = false := by simpa using h0
            by_cases h1 : (k : Int) ≤ l[j]
            · have HE := Lib.hid (show spR k l = (2, []) by rw [HR.out, ← HGO.out, HD.out, spGo, if_pos (.inr h1)])
              have t2 : decide ((k : Int) ≤ l[j]) = true := by simpa using h1
              clear h1 h0
              go_wp2_with fail
              go_ret2
              exact ⟨by rw [HE.out]; rfl, HB.out⟩
            · have t2 : decide ((k : Int) ≤ l[j]) = false := by simpa using h1
              obtain ⟨x, hxe⟩ := Int.eq_ofNat_of_zero_le (show 0 ≤ l[j] by omega)
              have hxn : x < k := by omega
              obtain ⟨gr, rfl, hgr, hrw⟩ := HROW.out (by omega)
              have HRW := Lib.hid hrw; clear hrw
              have HG2 := Lib.hid (show spGo k (l.drop j) (prevOf l j) b = if (∃ y, prevOf l j = some y ∧ l[j] ≤ y) then (10, []) else spGo k (l.drop (j + 1)) (some l[j]) (b.set x 49) by
                rw [HD.out, spGo, if_neg (by omega)]; simp only [hxe, Int.toNat_natCast])
              have hlen : (bts b).length = k := by rw [bts_len]; exact HBL.out
              obtain ⟨old, hold⟩ : ∃ old, wr.cell? ⟨gr, x, none⟩ = some old := by
                rw [HRW.out.cell x (by omega), List.getElem?_eq_getElem (by omega)]; exact ⟨_, rfl⟩
              have hfz := HRW.out.frozen x (by omega)
              have HSET := Lib.hid (HRW.out.set x (.int .u8 ((49 : UInt8).toNat : Int)) (by omega))
              have hnext : (¬ ∃ y, prevOf l j = some y ∧ l[j] ≤ y) → spGo k (l.drop (j + 1)) (prevOf l (j + 1)) (b.set x 49) = spGo k l none (List.replicate k 48) := fun hno => by
                rw [prevOf_succ l j hlt, ← HGO.out, HG2.out, if_neg hno]
              have HNEXT := Lib.hid hnext; clear hnext hlen
              have HXE := Lib.hid hxe
              rw [hxe] at hcz t1 t2
              clear h0 h1 bd1 bd2 hxe
              by_cases hk0 : j = 0
              · subst hk0
                rw [Nat.add_zero] at hcz
                have HNO := Lib.hid (HNEXT.out (by rintro ⟨y, hy, _⟩; simp [prevOf] at hy))
                have t3 : decide ((0 : Int) < 0) = false := by decide
                go_wp2_with fail
                go_quiet (fail)
                go_wp2_with fail
                go_roundw
                case rel => exact ⟨1, b.set x 49, by omega, by go_num, by rw [List.length_set]; exact HBL.out, HNO.out, fun _ => ⟨gr, rfl, hgr, by rw [← bts_set]; exact HSET.out⟩, (below_drewN HB.out _).setCell (p := ⟨gr, x, none⟩) hgr _⟩
                case measure => simp [intOf]; omega
              · have hk1 : j - 1 < l.length := by omega
                have hcp := HCZ.out (j - 1) hk1
                have t3 : decide ((0 : Int) < (j : Int)) = true := by simp; omega
                have t3n : 0 < j := by omega
                have t3d : decide (0 < j) = true := by simpa using t3n
                have HP := Lib.hid (show prevOf l j = some l[j - 1] by
                  obtain ⟨i, rfl⟩ : ∃ i, j = i + 1 := ⟨j - 1, by omega⟩
                  exact prevOf_succ l i (by omega))
                by_cases hord : l[j] ≤ l[j - 1]
                · have HE := Lib.hid (show spR k l = (10, []) by rw [HR.out, ← HGO.out, HG2.out, if_pos ⟨_, HP.out, hord⟩])
                  rw [HXE.out] at hord
                  have t4 : decide ((x : Int) ≤ l[j - 1]) = true := by simpa using hord
                  clear hord
                  go_wp2_with fail
                  have q1 : IntKind.i64.wrap ((j : Int) - 1) = (j : Int) - 1 := IntWalk.i64_in _ (by omega)
                  have q2 : 0 ≤ (j : Int) - 1 := by omega
                  have q3 : ((j : Int) - 1).toNat = j - 1 := by omega
                  go_quiet (fail)
                  clear q1 q2 q3
                  go_wp2_with fail
                  go_ret2
                  exact ⟨by rw [HE.out]; rfl, below_drewN HB.out _⟩
                · have HNO := Lib.hid (HNEXT.out (by rintro ⟨y, hy, hy2⟩; rw [HP.out] at hy; cases hy; exact hord hy2))
                  rw [HXE.out] at hord
                  have t4 : decide ((x : Int) ≤ l[j - 1]) = false := by simpa using hord
                  clear hord
                  go_wp2_with fail
                  have q1 : IntKind.i64.wrap ((j : Int) - 1) = (j : Int) - 1 := IntWalk.i64_in _ (by omega)
                  have q2 : 0 ≤ (j : Int) - 1 := by omega
                  have q3 : ((j : Int) - 1).toNat = j - 1 := by omega
                  go_quiet (fail)
                  clear q1 q2 q3
                  go_wp2_with fail
                  go_roundw
                  case rel => exact ⟨j + 1, b.set x 49, by omega, by go_num, by rw [List.length_set]; exact HBL.out, HNO.out, fun _ => ⟨gr, rfl, hgr, by rw [← bts_set]; exact HSET.out⟩, (below_drewN HB.out _).setCell (p := ⟨gr, x, none⟩) hgr _⟩
                  case measure => simp [intOf]; omega
        · obtain rfl : j = l.length := by omega
          have hd2 : decide ((l.length : Int) < (l.length : Int)) = false := by simp
          have HE := Lib.hid (show spR k l = (0, b) by rw [HR.out, ← HGO.out, List.drop_length, spGo])
          have hcv : (convert 36 9 (.slice gg k cap2)).run Try.prog wr = .ok (.string ⟨b.toArray⟩) wr := by
            by_cases h0 : k = 0
            · have hb0 : b = [] := List.eq_nil_of_length_eq_zero (by rw [HBL.out, h0])
              rw [h0, hb0]
              exact run_string_zero Try.underlying36 Try.underlying5 Try.underlying9
            · obtain ⟨gr, hgr, _, hrw⟩ := HROW.out (by omega)
              rw [hgr]
              exact run_string_rowP Try.underlying36 Try.underlying5 Try.underlying9 hrw HBL.out
          go_wp2_with fail
          go_ret2
          exact ⟨by rw [HE.out]; rfl, HB.out⟩

set_option maxHeartbeats 400000 in
theorem refSparse_any (n : Int) (v : Value) (l : List Int) (w : World) (hv : Holds w v l) (hl : l.length ≤ 4611686018427387904) (hbd : ∀ x ∈ l, -9223372036854775808 ≤ x ∧ x ≤ 9223372036854775807) :
    Calls Try.prog 32 #[.int .i64 n, v] w fun e w' => e = .returned (.tuple #[.string ⟨(spR n l).2.toArray⟩, .int .i64 (spR n l).1]) ∧ Below w.heap.size w w' := by
  by_cases h1 : n < 0
  · have g1 : decide (n < 0) = true := by simpa using h1
    have HE := Lib.hid (show spR n l = (2, []) by rw [spR, if_pos (.inl h1)])
    clear h1 hv hbd
    go_enter Try.func32, Try.ntmps32
    go_wp2_with fail
    go_ret2
    exact ⟨by rw [HE.out]; rfl, Below.refl _ _⟩
  · by_cases h2 : 65536 < n
    · have g1 : decide (n < 0) = false := by simpa using h1
      have g2 : decide (65536 < n) = true := by simpa using h2
      have HE := Lib.hid (show spR n l = (2, []) by rw [spR, if_pos (.inr h2)])
      clear h1 h2 hv hbd
      go_enter Try.func32, Try.ntmps32
      go_wp2_with fail
      go_ret2
      exact ⟨by rw [HE.out]; rfl, Below.refl _ _⟩
    · obtain ⟨k, rfl⟩ := Int.eq_ofNat_of_zero_le (show 0 ≤ n by omega)
      exact refSparse_ok k v l w (by omega) hv hl hbd
end Go.Proofs.Ytpnfipemencgnaa
