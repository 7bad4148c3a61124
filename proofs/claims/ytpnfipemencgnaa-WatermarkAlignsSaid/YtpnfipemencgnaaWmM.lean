/-
  The contracts of Extract and Drift.
-/
import Derived.Test.YtpnfipemencgnaaWmK
namespace Go.Proofs.Ytpnfipemencgnaa
open Go.RowKit

def exB (m r : List UInt8) (i : Nat) (x : Int) : UInt8 := if x < 0 then 63 else if m.getD i 0 = r.getD x.toNat 0 then 48 else 49
/-- The first k letters that are extracted. -/
def exS (m r : List UInt8) (l : List Int) : Nat → List UInt8
  | 0 => []
  | k + 1 => exS m r l k ++ [exB m r k (l.getD k 0)]
theorem exS_len (m r : List UInt8) (l : List Int) : ∀ k, (exS m r l k).length = k
  | 0 => rfl
  | k + 1 => by rw [exS, List.length_append, exS_len m r l k]; rfl
theorem exS_get (m r : List UInt8) (l : List Int) : ∀ k i, i < k → (exS m r l k)[i]? = some (exB m r i (l.getD i 0))
  | 0, i, h => by omega
  | k + 1, i, h => by
    rw [exS]
    by_cases hk : i < k
    · rw [List.getElem?_append_left (by rw [exS_len]; exact hk)]; exact exS_get m r l k i hk
    · obtain rfl : i = k := by omega
      rw [List.getElem?_append_right (by rw [exS_len]; omega), exS_len, Nat.sub_self]; rfl
def exV (m r : List UInt8) : List UInt8 := if chkA m r = 0 then exS m r (alL m r) m.length else []
/-- The drifts of the first k letters. -/
def drS (l : List Int) : Nat → List Int
  | 0 => []
  | k + 1 => drS l k ++ (if 0 ≤ l.getD k 0 then [l.getD k 0 - k] else [])
theorem drS_len (l : List Int) : ∀ k, (drS l k).length ≤ k
  | 0 => Nat.le_refl _
  | k + 1 => by
    have := drS_len l k
    rw [drS, List.length_append]; split <;> simp <;> omega
def drV (m r : List UInt8) : List Int := if chkA m r = 0 then drS (alL m r) m.length else []

theorem getD_int (l : List Int) (j : Nat) (h : j < l.length) : l.getD j 0 = l[j] := by
  rw [List.getD_eq_getElem?_getD, List.getElem?_eq_getElem h]; rfl

set_option maxHeartbeats 1000000 in
set_option maxRecDepth 100000 in
theorem extract_any (m r : ByteArray) (w : World) :
    Calls Try.prog 19 #[.string m, .string r] w fun e w' => e = .returned (.tuple #[.string ⟨(exV m.data.toList r.data.toList).toArray⟩, .int .i64 (chkA m.data.toList r.data.toList)]) ∧ Below w.heap.size w w' := by
  by_cases h : chkA m.data.toList r.data.toList = 0
  · have hl := chkA_len h
    have HV := Lib.hid (show exV m.data.toList r.data.toList = exS m.data.toList r.data.toList (alL m.data.toList r.data.toList) m.size by rw [exV, if_pos h]; rfl)
    have hm : m.size ≤ 256 := hl.1
    have hr : r.size ≤ 256 := hl.2
    clear hl
    have HLN := Lib.hid (show (alL m.data.toList r.data.toList).length = m.size from alL_len _ _)
    have HMEM := Lib.hid (alL_mem m.data.toList r.data.toList)
    obtain ⟨l, hle⟩ : ∃ l, l = alL m.data.toList r.data.toList := ⟨_, rfl⟩
    rw [← hle] at HV HLN HMEM
    have HLE := Lib.hid hle; clear hle
    go_enter Try.func19, Try.ntmps19
    go_wp2_with fail
    refine (checkAlign_any _ _ _).mono ?_
    rintro e w1 ⟨rfl, n, rfl⟩
    rw [h]
    have HCH := Lib.hid h; clear h
    go_wp2_with fail
    refine (align_any m r _ hm hr).mono ?_
    rintro e w2 ⟨v, rfl, hown, hb⟩
    have hrow := (row_new (w.drewN n) 69 [.pointer none, .slice none 0 0])
    have HBLD := Lib.hid ((bld_new w.heap.size (w.drewN n) (Nat.le_refl _)).raise (m' := w2.heap.size) (hb.mono (by simp)) (by have := hb.size; simp at this; simp; omega) (Nat.le_refl _) (by exact hrow))
    have HB := Lib.hid (show Below w.heap.size w w2 from ((below_ofN n).alloc (Nat.le_refl _) _).trans (hb.mono (by simp)))
    have hlt0 : w.heap.size < w2.heap.size := by have := hb.size; simp at this; omega
    have HOWN := Lib.hid hown; clear hown hrow
    have HH := Lib.hid (show Holds w2 v l from by rw [HLE.out]; exact HOWN.out.holds)
    obtain ⟨a, c, rfl, hcell⟩ := HH.out.parts
    have HC := Lib.hid hcell; clear hcell hb
    go_wp2_with fail
    go_loopw [26] (fun i wr => ∃ j : Nat, j ≤ l.length ∧ i = .int .i64 j ∧ Bld w.heap.size w2.heap.size w.heap.size (exS m.data.toList r.data.toList l j) wr ∧ KeepB w2.heap.size w.heap.size w2 wr ∧ Below w.heap.size w wr) (fun i _ => l.length - (intOf i).toNat)
    case atStart => exact ⟨0, by omega, rfl, HBLD.out, KeepB.refl _ _ _, HB.out⟩
    case round =>
      obtain ⟨j, hj, rfl, hbl, hkb, hbb⟩ := hrel
      have HBL := Lib.hid hbl; clear hbl
      have HKB := Lib.hid hkb; clear hkb
      have HBB := Lib.hid hbb; clear hbb
      by_cases hlt : j < l.length
      · obtain ⟨g, o, rfl, hc⟩ := HC.out j hlt
        have hg1 : g < w2.heap.size := cell_lt hc
        have hg2 : g ≠ w.heap.size := by
          rcases HOWN.out.cases with ⟨h1, _⟩ | ⟨g', cap', h1, h2, _⟩
          · cases h1
          · have he : some g = some g' := congrArg Value.ownBlock h1
            simp at h2 he; omega
        have hc' : wr.cell? ⟨g, o + j, none⟩ = some (.int .i64 l[j]) := cell_keep HKB.out hg1 hg2 hc
        have hjm : j < m.size := by have := HLN.out; omega
        have hmem := HMEM.out l[j] (List.getElem_mem hlt)
        have HXS := Lib.hid (show exS m.data.toList r.data.toList l (j + 1) = exS m.data.toList r.data.toList l j ++ [exB m.data.toList r.data.toList j l[j]] by rw [exS, getD_int l j hlt])
        clear hc hg1 hg2
        by_cases hneg : l[j] < 0
        · have hx : l[j] = -1 := by omega
          have HE := Lib.hid (show exB m.data.toList r.data.toList j l[j] = 63 by rw [exB, if_pos hneg])
          rw [hx] at hc'
          clear hneg hx hmem
          go_wp2_with fail
          refine (writeByte_any w.heap.size w2.heap.size w.heap.size (exS m.data.toList r.data.toList l j) 63 _ HBL.out (by rw [exS_len]; omega)).mono ?_
          rintro e w3 ⟨rfl, k1, k2, k3⟩
          have K1 := Lib.hid k1; clear k1
          have K2 := Lib.hid k2; clear k2
          have K3 := Lib.hid k3; clear k3
          go_wp2_with fail
          go_roundw
          case rel => exact ⟨j + 1, by omega, by go_num, by rw [HXS.out, HE.out]; exact K1.out, HKB.out.trans K2.out, HBB.out.trans K3.out⟩
          case measure => simp [intOf]; omega
        · obtain ⟨x, hxe⟩ := Int.eq_ofNat_of_zero_le (show 0 ≤ l[j] by omega)
          have hxr : x < r.size := by have e : r.data.toList.length = r.size := rfl; omega
          have e1 : m.data.toList.getD j 0 = m[j] := getD_of _ _ (by simpa using hjm)
          have e2 : r.data.toList.getD x 0 = r[x] := getD_of _ _ (by simpa using hxr)
          have HE := Lib.hid (show exB m.data.toList r.data.toList j l[j] = if m[j] = r[x] then 48 else 49 by rw [exB, if_neg hneg, hxe, Int.toNat_natCast, e1, e2])
          rw [hxe] at hc'
          clear hneg hmem e1 e2
          by_cases hmr : m[j] = r[x]
          · have hd : dif m[j] r[x] = 0 := by rw [dif, if_pos hmr]
            have HE2 := Lib.hid (show exB m.data.toList r.data.toList j l[j] = 48 by rw [HE.out, if_pos hmr])
            clear hmr hxe
            go_wp2_with fail
            refine (differ_any m r j x _ hjm hxr).mono ?_
            rintro e w3 ⟨rfl, q, rfl⟩
            rw [hd]
            clear hd
            go_wp2_with fail
            refine (writeByte_any w.heap.size w2.heap.size w.heap.size (exS m.data.toList r.data.toList l j) 48 _ (by exact HBL.out) (by rw [exS_len]; omega)).mono ?_
            rintro e w3 ⟨rfl, k1, k2, k3⟩
            have K1 := Lib.hid k1; clear k1
            have K2 := Lib.hid k2; clear k2
            have K3 := Lib.hid k3; clear k3
            go_wp2_with fail
            go_roundw
            case rel => exact ⟨j + 1, by omega, by go_num, by rw [HXS.out, HE2.out]; exact K1.out, HKB.out.trans (fun k h1 h2 => K2.out k h1 h2), (below_drewN HBB.out q).trans K3.out⟩
            case measure => simp [intOf]; omega
          · have hd : dif m[j] r[x] = 1 := by rw [dif, if_neg hmr]
            have HE2 := Lib.hid (show exB m.data.toList r.data.toList j l[j] = 49 by rw [HE.out, if_neg hmr])
            clear hmr hxe
            go_wp2_with fail
            refine (differ_any m r j x _ hjm hxr).mono ?_
            rintro e w3 ⟨rfl, q, rfl⟩
            rw [hd]
            clear hd
            go_wp2_with fail
            refine (writeByte_any w.heap.size w2.heap.size w.heap.size (exS m.data.toList r.data.toList l j) 49 _ (by exact HBL.out) (by rw [exS_len]; omega)).mono ?_
            rintro e w3 ⟨rfl, k1, k2, k3⟩
            have K1 := Lib.hid k1; clear k1
            have K2 := Lib.hid k2; clear k2
            have K3 := Lib.hid k3; clear k3
            go_wp2_with fail
            go_roundw
            case rel => exact ⟨j + 1, by omega, by go_num, by rw [HXS.out, HE2.out]; exact K1.out, HKB.out.trans (fun k h1 h2 => K2.out k h1 h2), (below_drewN HBB.out q).trans K3.out⟩
            case measure => simp [intOf]; omega
      · obtain rfl : j = l.length := by omega
        have hd : decide ((l.length : Int) < (l.length : Int)) = false := by simp
        go_wp2_with fail
        refine (builder_string _ _ _ _ _ HBL.out).mono ?_
        rintro e w3 ⟨rfl, k1⟩
        have K1 := Lib.hid k1; clear k1
        go_wp2_with fail
        go_ret2
        exact ⟨by rw [HV.out, HCH.out, ← HLN.out]; rfl, HBB.out.trans K1.out⟩
  · have hb : (chkA m.data.toList r.data.toList != 0) = true := by simpa using h
    have HV := Lib.hid (show exV m.data.toList r.data.toList = [] by rw [exV, if_neg h])
    clear h
    go_enter Try.func19, Try.ntmps19
    go_wp2_with (go_at_call 42; refine (checkAlign_any _ _ _).mono ?_; rintro e w1 ⟨rfl, n, rfl⟩)
    go_ret2
    exact ⟨by rw [HV.out]; rfl, below_ofN n⟩

set_option maxHeartbeats 1000000 in
set_option maxRecDepth 100000 in
theorem drift_any (m r : ByteArray) (w : World) :
    Calls Try.prog 20 #[.string m, .string r] w fun e w' => ∃ v, e = .returned (.tuple #[v, .int .i64 (chkA m.data.toList r.data.toList)]) ∧ Own w' w.heap.size 3 v (ints (drV m.data.toList r.data.toList)) ∧ Below w.heap.size w w' := by
  by_cases h : chkA m.data.toList r.data.toList = 0
  · have hl := chkA_len h
    have HV := Lib.hid (show drV m.data.toList r.data.toList = drS (alL m.data.toList r.data.toList) m.size by rw [drV, if_pos h]; rfl)
    have hm : m.size ≤ 256 := hl.1
    have hr : r.size ≤ 256 := hl.2
    clear hl
    have HLN := Lib.hid (show (alL m.data.toList r.data.toList).length = m.size from alL_len _ _)
    have HMEM := Lib.hid (alL_mem m.data.toList r.data.toList)
    obtain ⟨l, hle⟩ : ∃ l, l = alL m.data.toList r.data.toList := ⟨_, rfl⟩
    rw [← hle] at HV HLN HMEM
    have HLE := Lib.hid hle; clear hle
    go_enter Try.func20, Try.ntmps20
    go_wp2_with fail
    refine (checkAlign_any _ _ _).mono ?_
    rintro e w1 ⟨rfl, n, rfl⟩
    rw [h]
    have HCH := Lib.hid h; clear h
    go_wp2_with fail
    refine (align_any m r _ hm hr).mono ?_
    rintro e w2 ⟨v, rfl, hown, hb⟩
    have HB := Lib.hid (show Below w.heap.size w w2 from (below_ofN n).trans hb)
    have hsz : w.heap.size ≤ w2.heap.size := hb.size
    have HOWN := Lib.hid hown; clear hown
    have HH := Lib.hid (show Holds w2 v l from by rw [HLE.out]; exact HOWN.out.holds)
    obtain ⟨a, c, rfl, hcell⟩ := HH.out.parts
    have HC := Lib.hid hcell; clear hcell hb
    have hlm : l.length ≤ 256 := by have := HLN.out; omega
    go_wp2_with fail
    go_loopw [7, 26] (fun u i wr => ∃ j : Nat, j ≤ l.length ∧ i = .int .i64 j ∧ Own wr w2.heap.size 3 u (ints (drS l j)) ∧ Below w2.heap.size w2 wr) (fun _ i _ => l.length - (intOf i).toNat)
    case atStart => exact ⟨0, by omega, rfl, own_nil _ _ _, Below.refl _ _⟩
    case round =>
      obtain ⟨j, hj, rfl, hou, hbb⟩ := hrel
      have HOU := Lib.hid hou; clear hou
      have HBB := Lib.hid hbb; clear hbb
      by_cases hlt : j < l.length
      · obtain ⟨g, o, rfl, hc⟩ := HC.out j hlt
        have hc' := cell_below hc HBB.out (cell_lt hc)
        have hmem := HMEM.out l[j] (List.getElem_mem hlt)
        have hrs : (r.data.toList.length : Int) = r.size := rfl
        rw [hrs] at hmem
        obtain ⟨hm1, hm2⟩ := hmem
        have hdl := drS_len l j
        clear hc hrs
        by_cases hneg : l[j] < 0
        · have HXS := Lib.hid (show drS l (j + 1) = drS l j by rw [drS, getD_int l j hlt, if_neg (by omega), List.append_nil])
          go_wp2_with fail
          go_roundw
          case rel => exact ⟨j + 1, by omega, by go_num, by rw [HXS.out]; exact HOU.out, HBB.out⟩
          case measure => simp [intOf]; omega
        · have hnn : 0 ≤ l[j] := by omega
          have HXS := Lib.hid (show drS l (j + 1) = drS l j ++ [l[j] - (j : Int)] by rw [drS, getD_int l j hlt, if_pos hnn])
          have hsw := HBB.out.size
          go_wp2_with (at_builtin; refine wpList_app1 _ rfl _ _ _ rfl w2.heap.size 3 (.int .i64 0) 8 Try.underlying28 (by kernel_rfl) rfl _ _ rfl (HOU.out.alloc _) wr.heap.size 1 (.int .i64 (l[j] - (j : Int))) rfl ((row_new wr 3 [.int .i64 (l[j] - (j : Int))]).cell 0) rfl ?c1 ?c2 ?c3 ?_)
          case c1 => rw [ints_len]; omega
          case c2 => rw [ints_len]; omega
          case c3 => exact Nat.le_trans hsw (by simp)
          intro v' w3 hown' hgrow hv'
          have HO3 := Lib.hid hown'; clear hown' hv'
          have HG := Lib.hid hgrow; clear hgrow
          go_wp2_with fail
          go_roundw
          case rel =>
            refine ⟨j + 1, by omega, by go_num, ?_, below_grown (HBB.out.alloc hsw _) (HOU.out.alloc _) HG.out (Nat.le_trans hsw (by simp))⟩
            rw [HXS.out, ← ints_app]; exact HO3.out
          case measure => simp [intOf]; omega
      · obtain rfl : j = l.length := by omega
        have hd : decide ((l.length : Int) < (l.length : Int)) = false := by simp
        go_wp2_with fail
        go_ret2
        exact ⟨_, by rw [HCH.out]; rfl, by rw [HV.out, ← HLN.out]; exact Own.mono HOU.out hsz, HB.out.trans (HBB.out.mono hsz)⟩
  · have hb : (chkA m.data.toList r.data.toList != 0) = true := by simpa using h
    have HV := Lib.hid (show drV m.data.toList r.data.toList = [] by rw [drV, if_neg h])
    clear h
    go_enter Try.func20, Try.ntmps20
    go_wp2_with (go_at_call 42; refine (checkAlign_any _ _ _).mono ?_; rintro e w1 ⟨rfl, n, rfl⟩)
    go_ret2
    exact ⟨_, rfl, by rw [HV.out]; exact own_nil _ _ _, below_ofN n⟩
end Go.Proofs.Ytpnfipemencgnaa
