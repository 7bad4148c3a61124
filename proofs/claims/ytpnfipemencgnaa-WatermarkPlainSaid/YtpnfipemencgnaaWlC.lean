/-
  WatermarkReads returns true for every input: the walk.
-/
import Derived.Test.YtpnfipemencgnaaWlB
import Derived.Test.YtpnfipemencgnaaWmM
namespace Go.Proofs.Ytpnfipemencgnaa
open Go.RowKit

theorem drS_get (l : List Int) : ∀ (N k : Nat), k < N → 0 ≤ l.getD k 0 → (drS l N)[(drS l k).length]? = some (l.getD k 0 - k)
  | 0, k, h, _ => by omega
  | N + 1, k, h, hk => by
    rw [drS]
    by_cases hkN : k < N
    · have ih := drS_get l N k hkN hk
      have : (drS l k).length < (drS l N).length := (List.getElem?_eq_some_iff.1 ih).1
      rw [List.getElem?_append_left this]; exact ih
    · obtain rfl : k = N := by omega
      rw [List.getElem?_append_right (Nat.le_refl _), Nat.sub_self, if_pos hk]; rfl

/-- Extract at binary words that are short enough. -/
theorem extract_bin {u v : ByteArray} (hu : bin 24 u = true) (hv : bin 24 v = true) (w : World) :
    Calls Try.prog 19 #[.string u, .string v] w fun e w' => e = .returned (.tuple #[.string ⟨(exS u.data.toList v.data.toList (alL u.data.toList v.data.toList) u.size).toArray⟩, .int .i64 0]) ∧ Below w.heap.size w w' := by
  have h1 := bin_ok hu
  have h2 := bin_ok hv
  have hk : chkA u.data.toList v.data.toList = 0 := chkA_mk h1.2 h2.2 (by have : u.data.toList.length = u.size := rfl; omega) (by have : v.data.toList.length = v.size := rfl; omega)
  refine (extract_any u v w).mono fun e w' ⟨he, hb⟩ => ⟨?_, hb⟩
  rw [he, hk, exV, if_pos hk]; rfl
theorem drift_bin {u v : ByteArray} (hu : bin 24 u = true) (hv : bin 24 v = true) (w : World) :
    Calls Try.prog 20 #[.string u, .string v] w fun e w' => ∃ x, e = .returned (.tuple #[x, .int .i64 0]) ∧ Holds w' x (drS (alL u.data.toList v.data.toList) u.size) ∧ Below w.heap.size w w' := by
  have h1 := bin_ok hu
  have h2 := bin_ok hv
  have hk : chkA u.data.toList v.data.toList = 0 := chkA_mk h1.2 h2.2 (by have : u.data.toList.length = u.size := rfl; omega) (by have : v.data.toList.length = v.size := rfl; omega)
  refine (drift_any u v w).mono fun e w' ⟨x, he, ho, hb⟩ => ⟨x, ?_, ?_, hb⟩
  · rw [he, hk]
  · rw [drV, if_pos hk] at ho; exact ho.holds

set_option maxHeartbeats 2000000 in
set_option maxRecDepth 100000 in
theorem law_watermarkReads (m r : ByteArray) (_hm : m.size ≤ maxLen) (_hr : r.size ≤ maxLen) (w : World) :
    Calls Try.prog 6 #[.string m, .string r] w fun e w' => e = .returned (.bool true) ∧ Below w.heap.size w w' := by
  clear _hm _hr
  have HN := Lib.hid (binary_any 24 w.heap.size 0 2 [m, r] _ (strs2 w m r) (by simp) (by simp))
  by_cases hall : [m, r].all (bin 24) = true
  · have h3 := hall
    simp only [List.all_cons, List.all_nil, Bool.and_true, Bool.and_eq_true] at h3
    obtain ⟨bm, br⟩ := h3
    have lm := (bin_ok bm).1
    have lr := (bin_ok br).1
    have C1 := Lib.hid (fun w => align_bin bm br w)
    have C2 := Lib.hid (fun w => extract_bin bm br w)
    have C3 := Lib.hid (fun w => drift_bin bm br w)
    have C4 := Lib.hid (fun v w hv => costL_any m r v (alL m.data.toList r.data.toList) w hv (by omega) (by omega) (by rw [alL_len]; have : m.data.toList.length = m.size := rfl; omega))
    have HALL := Lib.hid hall; clear hall bm br
    have HL1 := Lib.hid (costG_al m.data.toList r.data.toList)
    have HLN := Lib.hid (show (alL m.data.toList r.data.toList).length = m.size from alL_len _ _)
    have HMEM := Lib.hid (alL_mem m.data.toList r.data.toList)
    obtain ⟨l, hle⟩ : ∃ l, l = alL m.data.toList r.data.toList := ⟨_, rfl⟩
    rw [← hle] at C1 C2 C3 C4 HL1 HLN HMEM
    clear hle
    have HDL := Lib.hid (drS_len l)
    obtain ⟨d, hde⟩ : ∃ d, d = drS l m.size := ⟨_, rfl⟩
    rw [← hde] at C3
    have HDE := Lib.hid hde
    have hdl : d.length ≤ 24 := by have := HDL.out m.size; rw [← hde] at this; omega
    obtain ⟨x, hxe⟩ : ∃ x : ByteArray, x = ⟨(exS m.data.toList r.data.toList l m.size).toArray⟩ := ⟨_, rfl⟩
    rw [← hxe] at C2
    have HXE := Lib.hid hxe
    have hxl : x.size = m.size := by
      rw [hxe]; show (exS m.data.toList r.data.toList l m.size).toArray.size = _
      rw [List.size_toArray, exS_len]
    have HXL := Lib.hid hxl
    clear hde hxe
    go_enter Try.func6, Try.ntmps6
    go_wp2_with fail
    refine HN.out.mono ?_
    rintro e w1 ⟨rfl, h1⟩
    rw [HALL.out]
    have HB1 := Lib.hid (((Below.refl w.heap.size w).alloc (Nat.le_refl _) (.cells #[.string m, .string r] 9)).trans (h1.mono (by simp)))
    clear h1
    go_wp2_with fail
    refine (C1.out _).mono ?_
    rintro e w2 ⟨v, rfl, hv, h2⟩
    have HB2 := Lib.hid (ext_trans HB1.out h2)
    have HV := Lib.hid hv; clear hv h2
    go_wp2_with fail
    refine (C2.out _).mono ?_
    rintro e w3 ⟨rfl, h3⟩
    have HB3 := Lib.hid (ext_trans HB2.out h3)
    have HV := Lib.hid (HV.out.below h3); clear h3
    go_wp2_with fail
    refine (C3.out _).mono ?_
    rintro e w4 ⟨u, rfl, hu, h4⟩
    have HB4 := Lib.hid (ext_trans HB3.out h4)
    have HV := Lib.hid (HV.out.below h4)
    have HU := Lib.hid hu; clear h4 hu
    go_wp2_with fail
    refine (C4.out _ _ HV.out).mono ?_
    rintro e w5 ⟨rfl, q, rfl⟩
    rw [HL1.out]
    obtain ⟨a, c, rfl, hcell⟩ := HV.out.parts
    obtain ⟨a', c', rfl, hcell'⟩ := HU.out.parts
    have HC := Lib.hid hcell; clear hcell
    have HC' := Lib.hid hcell'; clear hcell'
    go_wp2_with fail
    go_loopw [14, 73] (fun n i wr => ∃ j q : Nat, j ≤ l.length ∧ i = .int .i64 j ∧ n = .int .i64 ((drS l j).length : Nat) ∧ wr = w4.drewN q) (fun _ i _ => l.length - (intOf i).toNat)
    case atStart => exact ⟨0, q, by omega, rfl, rfl, rfl⟩
    case round =>
      obtain ⟨j, q, hj, rfl, rfl, rfl⟩ := hrel
      by_cases hlt : j < l.length
      · obtain ⟨g, o, rfl, hc⟩ := HC.out j hlt
        have hc1 : (w4.drewN q).cell? ⟨g, o + j, none⟩ = some (.int .i64 l[j]) := hc
        have hjm : j < m.size := by have := HLN.out; omega
        have hjx : j < x.size := by have := HXL.out; omega
        have hmem := HMEM.out l[j] (List.getElem_mem hlt)
        have hdl2 := HDL.out j
        have hxj : x[j] = exB m.data.toList r.data.toList j l[j] := by
          have h1 := exS_get m.data.toList r.data.toList l m.size j hjm
          rw [getD_int l j hlt] at h1
          have h2 : x.data.toList[j]? = some x[j] := by rw [List.getElem?_eq_getElem (by simpa using hjx)]; rfl
          have h3 : x.data.toList = exS m.data.toList r.data.toList l m.size := by rw [HXE.out]
          rw [h3, h1] at h2
          exact (Option.some.inj h2).symm
        clear hc
        by_cases hneg : l[j] < 0
        · have hx : l[j] = -1 := by omega
          have hx1 : (((x[j].toNat : Nat) : Int) != 63) = false := by rw [hxj, exB, if_pos hneg]; rfl
          have HDS := Lib.hid (show (drS l (j + 1)).length = (drS l j).length by rw [drS, getD_int l j hlt, if_neg (by omega), List.append_nil])
          rw [hx] at hc1
          clear hneg hx hmem hxj
          go_wp2_with fail
          go_roundw
          case rel => exact ⟨j + 1, q, by omega, by go_num, by rw [HDS.out], rfl⟩
          case measure => simp [intOf]; omega
        · obtain ⟨y, hye⟩ := Int.eq_ofNat_of_zero_le (show 0 ≤ l[j] by omega)
          have hyr : y < r.size := by have e : r.data.toList.length = r.size := rfl; omega
          have e1 : m.data.toList.getD j 0 = m[j] := getD_of _ _ (by simpa using hjm)
          have e2 : r.data.toList.getD y 0 = r[y] := getD_of _ _ (by simpa using hyr)
          have HE := Lib.hid (show exB m.data.toList r.data.toList j l[j] = if m[j] = r[y] then 48 else 49 by rw [exB, if_neg hneg, hye, Int.toNat_natCast, e1, e2])
          have HDS := Lib.hid (show (drS l (j + 1)).length = (drS l j).length + 1 by rw [drS, getD_int l j hlt, if_pos (by omega), List.length_append]; rfl)
          have hget := drS_get l m.size j hjm (by rw [getD_int l j hlt]; omega)
          rw [← HDE.out, getD_int l j hlt, hye] at hget
          have hnd : (drS l j).length < d.length := (List.getElem?_eq_some_iff.1 hget).1
          rw [List.getElem?_eq_getElem hnd] at hget
          obtain ⟨g', o', rfl, hc'⟩ := HC'.out _ hnd
          have hc2 : w4.cell? ⟨g', o' + (drS l j).length, none⟩ = some (.int .i64 ((y : Int) - (j : Int))) := by rw [← Option.some.inj hget]; exact hc'
          rw [hye] at hc1
          clear hneg hmem e1 e2 hget hc'
          by_cases hmr : m[j] = r[y]
          · have hb : (((m[j].toNat : Nat) : Int) != ((r[y].toNat : Nat) : Int)) = false := by rw [hmr]; simp
            have hx1 : (((x[j].toNat : Nat) : Int) != 48) = false := by rw [hxj, HE.out, if_pos hmr]; rfl
            clear hmr hye hxj
            go_wp2_with fail
            go_quiet (fail)
            go_wp2_with fail
            go_roundw
            case rel => exact ⟨j + 1, _, by omega, by go_num, by rw [HDS.out]; go_num, rfl⟩
            case measure => simp [intOf]; omega
          · have hb : (((m[j].toNat : Nat) : Int) != ((r[y].toNat : Nat) : Int)) = true := by rw [bne_iff_ne]; intro he; apply hmr; rw [← UInt8.toNat_inj]; omega
            have hx1 : (((x[j].toNat : Nat) : Int) != 49) = false := by rw [hxj, HE.out, if_neg hmr]; rfl
            clear hmr hye hxj
            go_wp2_with fail
            go_quiet (fail)
            go_wp2_with fail
            go_roundw
            case rel => exact ⟨j + 1, _, by omega, by go_num, by rw [HDS.out]; go_num, rfl⟩
            case measure => simp [intOf]; omega
      · obtain rfl : j = l.length := by omega
        have hd : decide ((l.length : Int) < (l.length : Int)) = false := by simp
        have HQ := Lib.hid (show (drS l l.length).length = d.length by rw [HDE.out, HLN.out])
        rw [HQ.out]
        go_wp2_with fail
        refine (awake_any _).mono ?_
        rintro e w6 ⟨rfl, h6⟩
        have H6 := Lib.hid h6; clear h6
        go_wp2_with fail
        go_ret
        exact ⟨rfl, (below_drewN HB4.out q).trans (H6.out.mono (by have := HB4.out.size; simp; omega))⟩
  · have hall' : [m, r].all (bin 24) = false := by simpa using hall
    clear hall
    go_enter Try.func6, Try.ntmps6
    go_wp2_with fail
    refine HN.out.mono ?_
    rintro e w1 ⟨rfl, h1⟩
    rw [hall']
    clear hall'
    have HB1 := Lib.hid (((Below.refl w.heap.size w).alloc (Nat.le_refl _) (.cells #[.string m, .string r] 9)).trans (h1.mono (by simp)))
    clear h1
    go_wp2_with fail
    refine (awake_any _).mono ?_
    rintro e w2 ⟨rfl, h2⟩
    have H2 := Lib.hid h2; clear h2
    go_wp2_with fail
    go_ret
    exact ⟨rfl, ext_trans HB1.out H2.out⟩
end Go.Proofs.Ytpnfipemencgnaa
