/-
  WatermarkPlain returns true for every input: the walk.
-/
import Derived.Test.YtpnfipemencgnaaWlC
import Derived.Test.YtpnfipemencgnaaWmT
import Derived.Test.YtpnfipemencgnaaPl
namespace Go.Proofs.Ytpnfipemencgnaa
open Go.RowKit

theorem wcI_diag (m : List UInt8) (i : Nat) : wcI m m i i = 0 := (wcI_eq m m i i).trans (wc_self _)
theorem hit_diag (m : List UInt8) (i : Nat) : hit m m i i i = true := by
  rw [hit, wcI_diag, wcI_diag, (dif_zero _ _).2 rfl]; simp
theorem hit_off (m : List UInt8) (i j : Nat) (h : i < j) : hit m m i i j = false := by
  rw [hit, wcI_diag, beq_eq_false_iff_ne]; omega
theorem alI_diag (m : List UInt8) : ∀ f i, i + f = m.length → alI m m f i i = (List.range' i f).map fun j : Nat => (j : Int)
  | 0, i, _ => rfl
  | f + 1, i, h => by
    have hp : pkI m m i i (m.length - i) i = some i := by
      rw [pkI_step _ _ _ _ _ _ (by omega), hit_diag]; rfl
    rw [alI, hp]
    simp only [List.range'_succ, List.map_cons]
    rw [alI_diag m f (i + 1) (by omega)]
theorem alL_diag (m : List UInt8) : alL m m = (List.range' 0 m.length).map fun j : Nat => (j : Int) := alI_diag m m.length 0 (by omega)
theorem alL_diag_get (m : List UInt8) (j : Nat) (h : j < m.length) : (alL m m).getD j 0 = j := by
  rw [alL_diag, List.getD_eq_getElem?_getD]; simp [h]
theorem drS_diag (m : List UInt8) : ∀ k, k ≤ m.length → drS (alL m m) k = List.replicate k 0
  | 0, _ => rfl
  | k + 1, h => by
    rw [drS, drS_diag m k (by omega), alL_diag_get m k (by omega), if_pos (by omega), Int.sub_self, List.replicate_succ']
theorem exS_diag (m : List UInt8) : ∀ k, k ≤ m.length → exS m m (alL m m) k = List.replicate k 48
  | 0, _ => rfl
  | k + 1, h => by
    rw [exS, exS_diag m k (by omega), alL_diag_get m k (by omega), exB, if_neg (by omega), Int.toNat_natCast, if_pos rfl, List.replicate_succ']
theorem sm_off (m : List UInt8) (g : Nat → Nat) (i : Nat) : ∀ n j, i < j → sm (hit m m i i) g n j = 0
  | 0, _, _ => rfl
  | n + 1, j, h => by rw [sm, hit_off m i j h, sm_off m g i n (j + 1) (by omega)]; rfl
theorem wy_diag (m : List UInt8) : ∀ d i, i + d = m.length → wy m m i i = 1
  | 0, i, h => by
    obtain rfl : i = m.length := by omega
    exact wy_last m m _
  | d + 1, i, h => by
    rw [wy_step m m i i (by omega), wcI_diag, if_neg (by omega), sm_step _ _ _ _ (by omega), hit_diag, if_pos rfl, wy_diag m d (i + 1) (by omega), sm_off m _ i _ _ (by omega)]
    rfl

theorem unique_bin {u v : ByteArray} (hu : bin 24 u = true) (hv : bin 24 v = true) (w : World) :
    Calls Try.prog 25 #[.string u, .string v] w fun e w' => e = .returned (.tuple #[.bool (((wy u.data.toList v.data.toList 0 0 : Nat) : Int) == 1), .int .i64 0]) ∧ Below w.heap.size w w' := by
  have h1 := bin_ok hu
  have h2 := bin_ok hv
  have hk : chkA u.data.toList v.data.toList = 0 := chkA_mk h1.2 h2.2 (by have : u.data.toList.length = u.size := rfl; omega) (by have : v.data.toList.length = v.size := rfl; omega)
  refine (unique_any u v w).mono fun e w' ⟨he, hb⟩ => ⟨?_, hb⟩
  rw [he, uqV, if_pos hk, hk]
theorem strs1' (w : World) (a : ByteArray) : Strs (w.alloc (.cells #[.string a] 9)) w.heap.size 0 [a] := by
  intro j hj
  have := (row_new w 9 [.string a]).cell j
  rw [Nat.zero_add]
  refine this.trans ?_
  match j, hj with
  | 0, _ => rfl

set_option maxHeartbeats 2000000 in
set_option maxRecDepth 100000 in
theorem law_watermarkPlain (m : ByteArray) (_hm : m.size ≤ maxLen) (w : World) :
    Calls Try.prog 10 #[.string m] w fun e w' => e = .returned (.bool true) ∧ Below w.heap.size w w' := by
  clear _hm
  have HN := Lib.hid (binary_any 24 w.heap.size 0 1 [m] _ (strs1' w m) (by simp) (by simp))
  by_cases hall : [m].all (bin 24) = true
  · have bm : bin 24 m = true := by simpa using hall
    have lm := (bin_ok bm).1
    have hml : m.data.toList.length = m.size := rfl
    obtain ⟨l, hle⟩ : ∃ l, l = alL m.data.toList m.data.toList := ⟨_, rfl⟩
    obtain ⟨d, hde⟩ : ∃ d, d = drS l m.size := ⟨_, rfl⟩
    have c1 := fun w => align_bin bm bm w
    have c2 := fun w => unique_bin bm bm w
    have c3 := fun w => drift_bin bm bm w
    have c4 := fun w => extract_bin bm bm w
    have hll : l.length = m.size := by rw [hle, alL_len]; rfl
    have hdd : d = List.replicate m.size 0 := by rw [hde, hle]; exact drS_diag _ _ (by omega)
    have hdl : d.length = m.size := by rw [hdd, List.length_replicate]
    obtain ⟨x, hxe⟩ : ∃ x : ByteArray, x = ⟨(List.replicate m.size 48).toArray⟩ := ⟨_, rfl⟩
    rw [wc_self, ← hle] at c1
    rw [wy_diag m.data.toList m.data.toList.length 0 (by omega)] at c2
    rw [← hle, ← hde] at c3
    rw [← hle, show exS m.data.toList m.data.toList l m.size = List.replicate m.size 48 by rw [hle]; exact exS_diag _ _ (by omega), ← hxe] at c4
    have c5 := fun w => Try.strings_Repeat ⟨#[48]⟩ m.size w (by omega) (by show 1 * m.size ≤ _; omega)
    rw [show (⟨#[48]⟩ : ByteArray).data.toList = [48] from rfl, repeatL_one, ← hxe] at c5
    have HL := Lib.hid (show ∀ j (h : j < l.length), l[j] = (j : Int) from fun j h => by
      rw [← getD_int l j h, hle]; exact alL_diag_get _ _ (by omega))
    have HD := Lib.hid (show ∀ j (h : j < d.length), d[j] = (0 : Int) from fun j h => by
      simp only [hdd, List.getElem_replicate])
    have C1 := Lib.hid c1; have C2 := Lib.hid c2; have C3 := Lib.hid c3; have C4 := Lib.hid c4; have C5 := Lib.hid c5
    have HALL := Lib.hid hall
    clear c1 c2 c3 c4 c5 hle hde hdd hxe hall bm
    go_enter Try.func10, Try.ntmps10
    go_wp2_with fail
    refine HN.out.mono ?_
    rintro e w1 ⟨rfl, h1⟩
    rw [HALL.out]
    have HB1 := Lib.hid (((Below.refl w.heap.size w).alloc (Nat.le_refl _) (.cells #[.string m] 9)).trans (h1.mono (by simp)))
    clear h1
    go_wp2_with fail
    refine (C1.out _).mono ?_
    rintro e w2 ⟨v, rfl, hv, h2⟩
    have HB2 := Lib.hid (ext_trans HB1.out h2)
    have HV := Lib.hid hv; clear hv h2
    go_wp2_with fail
    refine (C2.out _).mono ?_
    rintro e w3 ⟨rfl, h3⟩
    have HB3 := Lib.hid (ext_trans HB2.out h3)
    have HV := Lib.hid (HV.out.below h3); clear h3
    go_wp2_with fail
    refine (C3.out _).mono ?_
    rintro e w4 ⟨u, rfl, hu, h4⟩
    have HB4 := Lib.hid (ext_trans HB3.out h4)
    have HV := Lib.hid (HV.out.below h4)
    have HU := Lib.hid hu; clear h4 hu
    go_wp2_with fail
    refine (C4.out _).mono ?_
    rintro e w5 ⟨rfl, h5⟩
    have HB5 := Lib.hid (ext_trans HB4.out h5)
    have HV := Lib.hid (HV.out.below h5)
    have HU := Lib.hid (HU.out.below h5); clear h5
    obtain ⟨a, c, rfl, hcell⟩ := HV.out.parts
    obtain ⟨a', c', rfl, hcell'⟩ := HU.out.parts
    have HC := Lib.hid hcell; clear hcell
    have HC' := Lib.hid hcell'; clear hcell'
    go_wp2_with fail
    go_loop [82] (fun i => ∃ j : Nat, j ≤ l.length ∧ i = .int .i64 j) (fun i => l.length - (intOf i).toNat)
    case atStart => exact ⟨0, by omega, rfl⟩
    case round =>
      obtain ⟨j, hj, rfl⟩ := hrel
      by_cases hlt : j < l.length
      · obtain ⟨g, o, rfl, hc⟩ := HC.out j hlt
        have hlt2 : j < d.length := by omega
        obtain ⟨g', o', rfl, hc'⟩ := HC'.out j hlt2
        rw [HL.out j hlt] at hc
        rw [HD.out j hlt2] at hc'
        go_wp2_with fail
        go_round
        case rel => exact ⟨j + 1, by omega, by go_num⟩
        case measure => simp [intOf]; omega
      · obtain rfl : j = l.length := by omega
        have hd : decide ((l.length : Int) < (l.length : Int)) = false := by simp
        go_wp2_with fail
        refine (C5.out _).mono ?_
        rintro e w6 ⟨rfl, h6⟩
        have HB6 := Lib.hid (ext_trans HB5.out h6); clear h6
        go_wp2_with fail
        refine (awake_any _).mono ?_
        rintro e w7 ⟨rfl, h7⟩
        have H7 := Lib.hid h7; clear h7
        go_wp2_with fail
        go_ret
        exact ⟨rfl, ext_trans HB6.out H7.out⟩
  · have hall' : [m].all (bin 24) = false := by simpa using hall
    clear hall
    go_enter Try.func10, Try.ntmps10
    go_wp2_with fail
    refine HN.out.mono ?_
    rintro e w1 ⟨rfl, h1⟩
    rw [hall']
    clear hall'
    have HB1 := Lib.hid (((Below.refl w.heap.size w).alloc (Nat.le_refl _) (.cells #[.string m] 9)).trans (h1.mono (by simp)))
    clear h1
    go_wp2_with fail
    refine (awake_any _).mono ?_
    rintro e w2 ⟨rfl, h2⟩
    have H2 := Lib.hid h2; clear h2
    go_wp2_with fail
    go_ret
    exact ⟨rfl, ext_trans HB1.out H2.out⟩
end Go.Proofs.Ytpnfipemencgnaa
