/-
  The reference: Extract and Drift.
-/
import Derived.Test.YtpnfipemencgnaaWmW
import Derived.Test.YtpnfipemencgnaaWmM
import Derived.Test.YtpnfipemencgnaaByt
namespace Go.Proofs.Ytpnfipemencgnaa
open Go.RowKit

theorem alE_mem (m r : List UInt8) : ∀ x ∈ alE m r, -1 ≤ x ∧ x < r.length := by
  by_cases h : chkA m r = 0
  · rw [alE_ok h]; exact alL_mem m r
  · rw [alE_no h]; simp
theorem drV_eq (m r : List UInt8) : drV m r = drS (alE m r) (alE m r).length := by
  by_cases h : chkA m r = 0
  · rw [drV, if_pos h, alE_ok h, alL_len]
  · rw [drV, if_neg h, alE_no h]; rfl
theorem alE_short (m r : List UInt8) : (alE m r).length ≤ 256 := by
  by_cases h : chkA m r = 0
  · rw [alE_ok h, alL_len]; exact (chkA_len h).1
  · rw [alE_no h]; simp

set_option maxHeartbeats 1000000 in
set_option maxRecDepth 100000 in
theorem refDrift_any (m r : ByteArray) (w : World) (hrs : r.size ≤ 9223372036854775807) :
    Calls Try.prog 24 #[.string m, .string r] w fun e w' => ∃ v, e = .returned (.tuple #[v, .int .i64 (chkA m.data.toList r.data.toList)]) ∧ Own w' w.heap.size 3 v (ints (drV m.data.toList r.data.toList)) ∧ Below w.heap.size w w' := by
  have HMEM := Lib.hid (alE_mem m.data.toList r.data.toList)
  have hsh := alE_short m.data.toList r.data.toList
  have HV := Lib.hid (drV_eq m.data.toList r.data.toList)
  obtain ⟨l, hle⟩ : ∃ l, l = alE m.data.toList r.data.toList := ⟨_, rfl⟩
  rw [← hle] at HMEM HV hsh
  have HLE := Lib.hid hle; clear hle
  go_enter Try.func24, Try.ntmps24
  go_wp2_with fail
  refine (refAlign_any _ _ _).mono ?_
  rintro e w2 ⟨v, rfl, hown, hb⟩
  have HB := Lib.hid hb
  have hsz : w.heap.size ≤ w2.heap.size := hb.size
  have HOWN := Lib.hid hown; clear hown
  have HH := Lib.hid (show Holds w2 v l from by rw [HLE.out]; exact HOWN.out.holds)
  obtain ⟨a, c, rfl, hcell⟩ := HH.out.parts
  have HC := Lib.hid hcell; clear hcell hb
  have HO := Lib.hid (own_lit w2 w2.heap.size 3 [] (Nat.le_refl _) (by simp))
  go_wp2_with fail
  go_loopw [9, 10] (fun u i wr => ∃ j : Nat, j ≤ l.length ∧ i = .int .i64 j ∧ Own wr w2.heap.size 3 u (ints (drS l j)) ∧ Below w2.heap.size w2 wr) (fun _ i _ => l.length - (intOf i).toNat)
  case atStart => exact ⟨0, by omega, rfl, HO.out, (Below.refl _ _).alloc (Nat.le_refl _) _⟩
  case round =>
    obtain ⟨j, hj, rfl, hou, hbb⟩ := hrel
    have HOU := Lib.hid hou; clear hou
    have HBB := Lib.hid hbb; clear hbb
    by_cases hlt : j < l.length
    · obtain ⟨g, o, rfl, hc⟩ := HC.out j hlt
      have hc' := cell_below hc HBB.out (cell_lt hc)
      have hmem := HMEM.out l[j] (List.getElem_mem hlt)
      have hrs2 : (r.data.toList.length : Int) = r.size := rfl
      rw [hrs2] at hmem
      obtain ⟨hm1, hm2⟩ := hmem
      have hdl := drS_len l j
      clear hc hrs2
      by_cases hneg : l[j] < 0
      · have HXS := Lib.hid (show drS l (j + 1) = drS l j by rw [drS, getD_int l j hlt, if_neg (by omega), List.append_nil])
        go_wp2_with fail
        go_roundw
        case rel => exact ⟨j + 1, by omega, by go_num, by rw [HXS.out]; exact HOU.out, HBB.out⟩
        case measure => simp [intOf]; omega
      · have hnn : 0 ≤ l[j] := by omega
        have HXS := Lib.hid (show drS l (j + 1) = drS l j ++ [l[j] - (j : Int)] by rw [drS, getD_int l j hlt, if_pos hnn])
        have hsw := HBB.out.size
        go_wp2_with (at_builtin; refine wpList_app1 _ rfl _ _ _ rfl w2.heap.size 3 (.int .i64 0) 8 Try.underlying28 (by kernel_rfl) rfl _ _ rfl (HOU.out.alloc _) wr.heap.size 1 (.int .i64 (l[j] - (j : Int))) rfl ((row_new wr 3 [.int .i64 (l[j] - (j : Int))]).cell 0) rfl ?c1 ?c2 ?c3 ?_)
        case c1 => rw [ints_len]; omega
        case c2 => rw [ints_len]; omega
        case c3 => exact Nat.le_trans hsw (by simp)
        intro v' w3 hown' hgrow hv'
        have HO3 := Lib.hid hown'; clear hown' hv'
        have HG := Lib.hid hgrow; clear hgrow
        go_wp2_with fail
        go_roundw
        case rel =>
          refine ⟨j + 1, by omega, by go_num, ?_, below_grown (HBB.out.alloc hsw _) (HOU.out.alloc _) HG.out (Nat.le_trans hsw (by simp))⟩
          rw [HXS.out, ← ints_app]; exact HO3.out
        case measure => simp [intOf]; omega
    · obtain rfl : j = l.length := by omega
      have hd : decide ((l.length : Int) < (l.length : Int)) = false := by simp
      go_wp2_with fail
      go_ret2
      exact ⟨_, rfl, by rw [HV.out]; exact Own.mono HOU.out hsz, HB.out.trans (HBB.out.mono hsz)⟩

set_option maxHeartbeats 1000000 in
set_option maxRecDepth 100000 in
theorem refExtract_any (m r : ByteArray) (w : World) :
    Calls Try.prog 23 #[.string m, .string r] w fun e w' => e = .returned (.tuple #[.string ⟨(exV m.data.toList r.data.toList).toArray⟩, .int .i64 (chkA m.data.toList r.data.toList)]) ∧ Below w.heap.size w w' := by
  by_cases h : chkA m.data.toList r.data.toList = 0
  · have hl := chkA_len h
    have HV := Lib.hid (show exV m.data.toList r.data.toList = exS m.data.toList r.data.toList (alL m.data.toList r.data.toList) m.size by rw [exV, if_pos h]; rfl)
    have hm : m.size ≤ 256 := hl.1
    have hr : r.size ≤ 256 := hl.2
    clear hl
    have HAE := Lib.hid (alE_ok h)
    have HLN := Lib.hid (show (alL m.data.toList r.data.toList).length = m.size from alL_len _ _)
    have HMEM := Lib.hid (alL_mem m.data.toList r.data.toList)
    obtain ⟨l, hle⟩ : ∃ l, l = alL m.data.toList r.data.toList := ⟨_, rfl⟩
    rw [← hle] at HV HLN HMEM HAE
    have HLE := Lib.hid hle; clear hle
    have HCH := Lib.hid h; clear h
    go_enter Try.func23, Try.ntmps23
    go_wp2_with fail
    refine (refAlign_any _ _ _).mono ?_
    rintro e w2 ⟨v, rfl, hown, hb⟩
    rw [HCH.out]
    have HB := Lib.hid hb
    have hsz : w.heap.size ≤ w2.heap.size := hb.size
    have HOWN := Lib.hid hown; clear hown
    have HH := Lib.hid (show Holds w2 v l from by have := HOWN.out.holds; rwa [HAE.out] at this)
    obtain ⟨a, c, rfl, hcell⟩ := HH.out.parts
    have HC := Lib.hid hcell; clear hcell hb
    have HO := Lib.hid (own_lit w2 w2.heap.size 5 [] (Nat.le_refl _) (by simp))
    go_wp2_with fail
    go_loopw [9, 10] (fun u i wr => ∃ j : Nat, j ≤ l.length ∧ i = .int .i64 j ∧ Own wr w2.heap.size 5 u (bts (exS m.data.toList r.data.toList l j)) ∧ Below w2.heap.size w2 wr) (fun _ i _ => l.length - (intOf i).toNat)
    case atStart => exact ⟨0, by omega, rfl, HO.out, (Below.refl _ _).alloc (Nat.le_refl _) _⟩
    case round =>
      obtain ⟨j, hj, rfl, hou, hbb⟩ := hrel
      have HOU := Lib.hid hou; clear hou
      have HBB := Lib.hid hbb; clear hbb
      by_cases hlt : j < l.length
      · obtain ⟨g, o, rfl, hc⟩ := HC.out j hlt
        have hc' := cell_below hc HBB.out (cell_lt hc)
        have hjm : j < m.size := by have := HLN.out; omega
        have hmem := HMEM.out l[j] (List.getElem_mem hlt)
        have hln := exS_len m.data.toList r.data.toList l j
        have HLX := Lib.hid hln; clear hln
        have HXS := Lib.hid (show exS m.data.toList r.data.toList l (j + 1) = exS m.data.toList r.data.toList l j ++ [exB m.data.toList r.data.toList j l[j]] by rw [exS, getD_int l j hlt])
        have HSW := Lib.hid HBB.out.size
        clear hc
        by_cases hneg : l[j] < 0
        · have hx : l[j] = -1 := by omega
          have HE := Lib.hid (show exB m.data.toList r.data.toList j l[j] = 63 by rw [exB, if_pos hneg])
          rw [hx] at hc'
          clear hneg hx hmem
          go_wp2_with (at_builtin; refine wpList_app1 _ rfl _ _ _ rfl w2.heap.size 5 (.int .u8 0) 1 Try.underlying36 (by kernel_rfl) rfl _ _ rfl (HOU.out.alloc _) wr.heap.size 1 (.int .u8 63) rfl ((row_new wr 5 [.int .u8 63]).cell 0) rfl ?c1 ?c2 ?c3 ?_)
          case c1 => rw [bts_len, HLX.out]; omega
          case c2 => rw [bts_len, HLX.out]; omega
          case c3 => exact Nat.le_trans HSW.out (by simp)
          intro v' w3 hown' hgrow _
          have HO3 := Lib.hid hown'; clear hown'
          have HB3 := Lib.hid (below_grown (HBB.out.alloc HSW.out _) (HOU.out.alloc _) hgrow (Nat.le_trans HSW.out (by simp))); clear hgrow
          go_wp2_with fail
          go_roundw
          case rel => exact ⟨j + 1, by omega, by go_num, by rw [HXS.out, HE.out, ← bts_append]; exact HO3.out, HB3.out⟩
          case measure => simp [intOf]; omega
        · obtain ⟨x, hxe⟩ := Int.eq_ofNat_of_zero_le (show 0 ≤ l[j] by omega)
          have hxr : x < r.size := by have e : r.data.toList.length = r.size := rfl; omega
          have e1 : m.data.toList.getD j 0 = m[j] := getD_of _ _ (by simpa using hjm)
          have e2 : r.data.toList.getD x 0 = r[x] := getD_of _ _ (by simpa using hxr)
          have HE0 := Lib.hid (show exB m.data.toList r.data.toList j l[j] = if m[j] = r[x] then 48 else 49 by rw [exB, if_neg hneg, hxe, Int.toNat_natCast, e1, e2])
          rw [hxe] at hc'
          clear hneg hmem e1 e2
          by_cases hmr : m[j] = r[x]
          · have hb : (((m[j].toNat : Nat) : Int) == ((r[x].toNat : Nat) : Int)) = true := by rw [hmr]; simp
            have HE := Lib.hid (show exB m.data.toList r.data.toList j l[j] = 48 by rw [HE0.out, if_pos hmr])
            clear hmr hxe
            go_wp2_with fail
            go_quiet (fail)
            go_wp2_with (at_builtin; refine wpList_app1 _ rfl _ _ _ rfl w2.heap.size 5 (.int .u8 0) 1 Try.underlying36 (by kernel_rfl) rfl _ _ rfl ((HOU.out.alloc _).drewN _) wr.heap.size 1 (.int .u8 48) rfl ((row_new wr 5 [.int .u8 48]).cell 0) rfl ?c1 ?c2 ?c3 ?_)
            case c1 => rw [bts_len, HLX.out]; omega
            case c2 => rw [bts_len, HLX.out]; omega
            case c3 => exact Nat.le_trans HSW.out (by simp)
            intro v' w3 hown' hgrow _
            have HO3 := Lib.hid hown'; clear hown'
            have HB3 := Lib.hid (below_grown (below_drewN (HBB.out.alloc HSW.out _) _) ((HOU.out.alloc _).drewN _) hgrow (Nat.le_trans HSW.out (by simp))); clear hgrow
            go_wp2_with fail
            go_roundw
            case rel => exact ⟨j + 1, by omega, by go_num, by rw [HXS.out, HE.out, ← bts_append]; exact HO3.out, HB3.out⟩
            case measure => simp [intOf]; omega
          · have hb : (((m[j].toNat : Nat) : Int) == ((r[x].toNat : Nat) : Int)) = false := by
              rw [beq_eq_false_iff_ne]; intro he; apply hmr; rw [← UInt8.toNat_inj]; omega
            have HE := Lib.hid (show exB m.data.toList r.data.toList j l[j] = 49 by rw [HE0.out, if_neg hmr])
            clear hmr hxe
            go_wp2_with fail
            go_quiet (fail)
            go_wp2_with (at_builtin; refine wpList_app1 _ rfl _ _ _ rfl w2.heap.size 5 (.int .u8 0) 1 Try.underlying36 (by kernel_rfl) rfl _ _ rfl ((HOU.out.alloc _).drewN _) wr.heap.size 1 (.int .u8 49) rfl ((row_new wr 5 [.int .u8 49]).cell 0) rfl ?c1 ?c2 ?c3 ?_)
            case c1 => rw [bts_len, HLX.out]; omega
            case c2 => rw [bts_len, HLX.out]; omega
            case c3 => exact Nat.le_trans HSW.out (by simp)
            intro v' w3 hown' hgrow _
            have HO3 := Lib.hid hown'; clear hown'
            have HB3 := Lib.hid (below_grown (below_drewN (HBB.out.alloc HSW.out _) _) ((HOU.out.alloc _).drewN _) hgrow (Nat.le_trans HSW.out (by simp))); clear hgrow
            go_wp2_with fail
            go_roundw
            case rel => exact ⟨j + 1, by omega, by go_num, by rw [HXS.out, HE.out, ← bts_append]; exact HO3.out, HB3.out⟩
            case measure => simp [intOf]; omega
      · obtain rfl : j = l.length := by omega
        have hd : decide ((l.length : Int) < (l.length : Int)) = false := by simp
        have hcv := run_string_own (P := Try.prog) (src := 36) (dst := 9) Try.underlying36 Try.underlying5 Try.underlying9 HOU.out
        go_wp2_with fail
        go_ret2
        exact ⟨by rw [HV.out, HCH.out, ← HLN.out]; rfl, HB.out.trans (HBB.out.mono hsz)⟩
  · have hb : (chkA m.data.toList r.data.toList != 0) = true := by simpa using h
    have HV := Lib.hid (show exV m.data.toList r.data.toList = [] by rw [exV, if_neg h])
    clear h
    go_enter Try.func23, Try.ntmps23
    go_wp2_with fail
    refine (refAlign_any _ _ _).mono ?_
    rintro e w2 ⟨v, rfl, hown, hb2⟩
    have HB := Lib.hid hb2; clear hb2 hown
    go_wp2_with fail
    go_ret2
    exact ⟨by rw [HV.out]; rfl, HB.out⟩
end Go.Proofs.Ytpnfipemencgnaa
