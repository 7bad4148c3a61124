/-
  The contracts of Unpad and Unboth.
-/
import Derived.Test.YtdalcopbaaabiaaDoorStD
namespace Go.Proofs.YtdalcopbaaabiaaDoor
open Go.RowKit

/-- The word that is the given one when it is padded; so many zeros must still follow. -/
def upd (d : Nat) : Nat → List UInt8 → Option (List UInt8)
  | 0, [] => some []
  | _ + 1, [] => none
  | s + 1, a :: l => if a = 48 then upd d s l else none
  | 0, a :: l => (upd d (if a = 48 then 0 else d) l).map (a :: ·)
theorem upd_skip (d : Nat) : ∀ (s : Nat) (l : List UInt8), upd d s l = if (List.replicate s 48).isPrefixOf l = true then upd d 0 (l.drop s) else none
  | 0, l => by simp
  | s + 1, [] => by rw [upd]; simp [List.replicate_succ]
  | s + 1, a :: l => by
    rw [upd, List.replicate_succ]
    by_cases h : a = 48
    · rw [if_pos h, upd_skip d s l, h]
      simp [List.isPrefixOf]
    · have : ((48 : UInt8) == a) = false := by simpa using fun e => h e.symm
      rw [if_neg h]
      simp [List.isPrefixOf, this]
theorem hasZeros_any (s : ByteArray) (D : Nat) (w : World) : Calls Tryd.prog 19 #[.string s, .string ⟨Array.replicate D 48⟩] w fun e w' => e = .returned (.bool ((List.replicate D 48).isPrefixOf s.data.toList)) ∧ w = w' :=
  (Tryd.strings_HasPrefix s ⟨Array.replicate D 48⟩ w).mono fun e w' ⟨he, hw⟩ => ⟨by rw [he, Lib.hasPrefix]; simp, hw.symm⟩
theorem ext_drop (m : ByteArray) (i : Nat) : (m.extract i m.size).data.toList = m.data.toList.drop i := by
  rw [Lib.extract_data, List.take_of_length_le (by rw [List.length_drop]; exact Nat.le_refl _)]
theorem isPrefix_room {s : Nat} {l : List UInt8} (h : (List.replicate s 48).isPrefixOf l = true) : s ≤ l.length := by
  have := (List.isPrefixOf_iff_prefix.1 h).length_le
  simpa using this

def upE (d : Int) (l : List UInt8) : Int := if d < 0 ∨ 64 < d then 2 else if chk 2 l ≠ 0 then chk 2 l else if (upd d.toNat 0 l).isSome = true then 0 else 13
def upO (d : Int) (l : List UInt8) : List UInt8 := if upE d l = 0 then (upd d.toNat 0 l).getD [] else []

set_option maxHeartbeats 1000000 in
set_option maxRecDepth 100000 in
theorem Unpad_any (d : Int) (s : ByteArray) (w : World) :
    Calls Tryd.prog 24 #[.int .i64 d, .string s] w fun e w' => e = .returned (.tuple #[.string ⟨(upO d s.data.toList).toArray⟩, .int .i64 (upE d s.data.toList)]) ∧ Below w.heap.size w w' := by
  by_cases hk : d < 0 ∨ 64 < d
  · have HV := Lib.hid (show upE d s.data.toList = 2 by rw [upE, if_pos hk])
    have HO := Lib.hid (show upO d s.data.toList = [] by rw [upO, HV.out]; rfl)
    rcases hk with hk | hk
    all_goals
      go_enter Tryd.func24, Tryd.ntmps24
      go_wp2_with fail
      go_ret2
      exact ⟨by rw [HV.out, HO.out]; rfl, Below.refl _ _⟩
  · have h1 : 0 ≤ d := by omega
    have h2 : d ≤ 64 := by omega
    by_cases hc : chk 2 s.data.toList = 0
    · have hs : s.size ≤ 65536 := ((chk2_iff _).1 hc).1
      have HB := Lib.hid ((chk2_iff _).1 hc).2
      obtain ⟨D, rfl⟩ : ∃ D : Nat, d = D := ⟨d.toNat, by omega⟩
      have HV := Lib.hid (show upE D s.data.toList = if (upd D 0 s.data.toList).isSome = true then 0 else 13 by rw [upE, if_neg hk, if_neg (by simp [hc])]; rfl)
      have HC := Lib.hid hc; clear hc hk
      go_enter Tryd.func24, Tryd.ntmps24
      go_wp2_with fail
      refine (check_any _ _ _).mono ?_
      rintro e w1 ⟨rfl, n, hn⟩
      rw [HC.out]
      have HB1 := Lib.hid (show Below w.heap.size w w1 by rw [hn]; exact below_ofN n)
      clear hn
      have HBN := Lib.hid (bld_new w.heap.size w1 HB1.out.size)
      go_wp2_with fail
      refine (Tryd.strings_Repeat ⟨#[48]⟩ D _ (by omega) (by simp [ByteArray.size]; omega)).mono ?_
      rintro e w3 ⟨rfl, hb⟩
      rw [show (Lib.repeatL (⟨#[48]⟩ : ByteArray).data.toList D) = List.replicate D 48 from repeatL_one 48 D]
      have HBL := Lib.hid (HBN.out.below hb)
      have HB3 := Lib.hid ((HB1.out.alloc HB1.out.size (.cells #[.pointer none, .slice none 0 0] 66)).trans (hb.mono (by have := HB1.out.size; simp; omega)))
      clear hb HBN
      obtain ⟨b, hbb⟩ : ∃ b, w1.heap.size = b := ⟨_, rfl⟩
      rw [hbb] at HBL ⊢
      clear hbb
      go_wp2_with fail
      go_loopw [9] (fun i wr => ∃ k : Nat, k ≤ s.size ∧ i = .int .i64 k ∧ ∃ out, out.length ≤ k ∧ (upd D 0 (s.data.toList.drop k)).map (out ++ ·) = upd D 0 s.data.toList ∧ Bld w.heap.size (b + 1) b out wr ∧ Below w.heap.size w wr) (fun i _ => s.size - (intOf i).toNat)
      case atStart => exact ⟨0, by omega, rfl, [], by simp, by simp, HBL.out, HB3.out⟩
      case round =>
        obtain ⟨k, hk, rfl, out, hol, hst, hbld, hbb⟩ := hrel
        have HST := Lib.hid hst; clear hst
        have HBLD := Lib.hid hbld; clear hbld
        have HBB := Lib.hid hbb; clear hbb HBL HB3
        by_cases hlt : k < s.size
        · have HD := Lib.hid (show s.data.toList.drop k = s[k] :: s.data.toList.drop (k + 1) from drop_cons (by simpa using hlt))
          have HST2 := Lib.hid (show (upd D (if s[k] = 48 then 0 else D) (s.data.toList.drop (k + 1))).map ((out ++ [s[k]]) ++ ·) = upd D 0 s.data.toList by
            rw [← HST.out, HD.out, upd, map_app])
          by_cases hz : s[k] = 48
          · have hz' : ((s[k].toNat : Int) == 48) = true := by rw [hz]; rfl
            have HST3 := Lib.hid (show (upd D 0 (s.data.toList.drop (k + 1))).map ((out ++ [s[k]]) ++ ·) = upd D 0 s.data.toList by
              have := HST2.out; rwa [if_pos hz] at this)
            clear hz HST2
            go_wp2_with fail
            refine (writeByte_any _ _ _ out s[k] wr HBLD.out (by omega)).mono ?_
            rintro e w4 ⟨rfl, h1, h2, h3⟩
            have HB4 := Lib.hid (HBB.out.trans h3)
            have HBL4 := Lib.hid h1; clear h1 h2 h3
            go_wp2_with fail
            go_roundw
            case rel => exact ⟨k + 1, by omega, by go_num, out ++ [s[k]], by simp; omega, HST3.out, HBL4.out, HB4.out⟩
            case measure => simp [intOf]; omega
          · have hz' : ((s[k].toNat : Int) == 48) = false := by
              rw [beq_eq_false_iff_ne]; intro he; apply hz; rw [← UInt8.toNat_inj]
              have e : (48 : UInt8).toNat = 48 := rfl
              omega
            have HST3 := Lib.hid (show (upd D D (s.data.toList.drop (k + 1))).map ((out ++ [s[k]]) ++ ·) = upd D 0 s.data.toList by
              have := HST2.out; rwa [if_neg hz] at this)
            clear hz HST2
            by_cases hp : (List.replicate D 48).isPrefixOf (s.data.toList.drop (k + 1)) = true
            · have hroom := isPrefix_room hp
              rw [List.length_drop] at hroom
              have hroom' : k + 1 + D ≤ s.size := by have e : s.data.toList.length = s.size := rfl
                                                     omega
              have HST4 := Lib.hid (show (upd D 0 (s.data.toList.drop (k + 1 + D))).map ((out ++ [s[k]]) ++ ·) = upd D 0 s.data.toList by
                rw [← HST3.out, upd_skip D D, if_pos hp, List.drop_drop])
              have HP := Lib.hid hp; clear hp hroom
              go_wp2_with fail
              refine (writeByte_any _ _ _ out s[k] wr HBLD.out (by omega)).mono ?_
              rintro e w4 ⟨rfl, h1, h2, h3⟩
              have HB4 := Lib.hid (HBB.out.trans h3)
              have HBL4 := Lib.hid h1; clear h1 h2 h3
              go_wp2_with fail
              refine (hasZeros_any _ _ _).mono ?_
              rintro e w5 ⟨rfl, rfl⟩
              rw [ext_drop, HP.out]
              go_wp2_with fail
              go_roundw
              case rel => exact ⟨k + 1 + D, hroom', by go_num, out ++ [s[k]], by simp; omega, HST4.out, HBL4.out, HB4.out⟩
              case measure => simp [intOf]; omega
            · have hp' : (List.replicate D 48).isPrefixOf (s.data.toList.drop (k + 1)) = false := Bool.eq_false_iff.2 hp
              have HE := Lib.hid (show upE D s.data.toList = 13 by
                rw [HV.out, ← HST3.out, upd_skip D D, if_neg hp]; rfl)
              have HO := Lib.hid (show upO D s.data.toList = [] by rw [upO, HE.out]; rfl)
              have HP := Lib.hid hp'; clear hp hp'
              go_wp2_with fail
              refine (writeByte_any _ _ _ out s[k] wr HBLD.out (by omega)).mono ?_
              rintro e w4 ⟨rfl, h1, h2, h3⟩
              have HB4 := Lib.hid (HBB.out.trans h3)
              have HBL4 := Lib.hid h1; clear h1 h2 h3
              go_wp2_with fail
              refine (hasZeros_any _ _ _).mono ?_
              rintro e w5 ⟨rfl, rfl⟩
              rw [ext_drop, HP.out]
              go_wp2_with fail
              go_ret2
              exact ⟨by rw [HE.out, HO.out]; rfl, HB4.out⟩
        · obtain rfl : k = s.size := by omega
          have hd : decide ((s.size : Int) < (s.size : Int)) = false := by simp
          have HOUT := Lib.hid (show upd D 0 s.data.toList = some out by
            rw [← HST.out, List.drop_of_length_le (by simp), upd]; simp)
          have HE := Lib.hid (show upE D s.data.toList = 0 by rw [HV.out, HOUT.out]; rfl)
          have HO := Lib.hid (show upO D s.data.toList = out by
            rw [upO, HE.out, if_pos rfl]
            show (upd D 0 s.data.toList).getD [] = out
            rw [HOUT.out]; rfl)
          go_wp2_with fail
          refine (builder_string _ _ _ out wr HBLD.out).mono ?_
          rintro e w6 ⟨rfl, h1⟩
          have HB6 := Lib.hid (HBB.out.trans h1); clear h1
          go_wp2_with fail
          go_ret2
          exact ⟨by rw [HE.out, HO.out]; rfl, HB6.out⟩
    · have hb : (chk 2 s.data.toList != 0) = true := by simpa using hc
      have HV := Lib.hid (show upE d s.data.toList = chk 2 s.data.toList by rw [upE, if_neg hk, if_pos hc])
      have HO := Lib.hid (show upO d s.data.toList = [] by rw [upO, HV.out, if_neg hc])
      clear hc hk
      go_enter Tryd.func24, Tryd.ntmps24
      go_wp2_with fail
      refine (check_any _ _ _).mono ?_
      rintro e w1 ⟨rfl, n, rfl⟩
      go_wp2_with fail
      go_ret2
      exact ⟨by rw [HV.out, HO.out]; rfl, below_ofN n⟩

def ubE (d k : Int) (l : List UInt8) : Int := if d < 0 ∨ k ≤ d ∨ 64 < k then 2 else if upE d l ≠ 0 then upE d l else usE (k - d) (upO d l)
def ubO (d k : Int) (l : List UInt8) : List UInt8 := if ubE d k l = 0 then usO (k - d) (upO d l) else []
set_option maxHeartbeats 800000 in
theorem Unboth_any (d k : Int) (s : ByteArray) (w : World) :
    Calls Tryd.prog 27 #[.int .i64 d, .int .i64 k, .string s] w fun e w' => e = .returned (.tuple #[.string ⟨(ubO d k s.data.toList).toArray⟩, .int .i64 (ubE d k s.data.toList)]) ∧ Below w.heap.size w w' := by
  by_cases hk : d < 0 ∨ k ≤ d ∨ 64 < k
  · have HV := Lib.hid (show ubE d k s.data.toList = 2 by rw [ubE, if_pos hk])
    have HO := Lib.hid (show ubO d k s.data.toList = [] by rw [ubO, HV.out]; rfl)
    by_cases h1 : d < 0
    · clear hk
      go_enter Tryd.func27, Tryd.ntmps27
      go_wp2_with fail
      go_ret2
      exact ⟨by rw [HV.out, HO.out]; rfl, Below.refl _ _⟩
    · by_cases h2 : k ≤ d
      · clear hk
        go_enter Tryd.func27, Tryd.ntmps27
        go_wp2_with fail
        go_ret2
        exact ⟨by rw [HV.out, HO.out]; rfl, Below.refl _ _⟩
      · have h3 : 64 < k := by omega
        clear hk
        go_enter Tryd.func27, Tryd.ntmps27
        go_wp2_with fail
        go_ret2
        exact ⟨by rw [HV.out, HO.out]; rfl, Below.refl _ _⟩
  · have h1 : 0 ≤ d := by omega
    have h2 : d < k := by omega
    have h3 : k ≤ 64 := by omega
    by_cases hc : upE d s.data.toList = 0
    · have HV := Lib.hid (show ubE d k s.data.toList = usE (k - d) (upO d s.data.toList) by rw [ubE, if_neg hk, if_neg (by simp [hc])])
      have HO := Lib.hid (show ubO d k s.data.toList = usO (k - d) (upO d s.data.toList) by
        rw [ubO, HV.out]
        by_cases h : usE (k - d) (upO d s.data.toList) = 0
        · rw [if_pos h]
        · rw [if_neg h, usO, if_neg h])
      have HC := Lib.hid hc; clear hc hk
      go_enter Tryd.func27, Tryd.ntmps27
      go_wp2_with fail
      refine (Unpad_any _ _ _).mono ?_
      rintro e w1 ⟨rfl, hb⟩
      rw [HC.out]
      have HB := Lib.hid hb; clear hb
      go_wp2_with fail
      refine (Unstuff_any _ _ _).mono ?_
      rintro e w2 ⟨rfl, hb⟩
      have HB2 := Lib.hid (HB.out.trans (hb.mono HB.out.size)); clear hb
      go_wp2_with fail
      go_ret2
      exact ⟨by rw [HV.out, HO.out]; rfl, HB2.out⟩
    · have hcb : (upE d s.data.toList != 0) = true := by simpa using hc
      have HV := Lib.hid (show ubE d k s.data.toList = upE d s.data.toList by rw [ubE, if_neg hk, if_pos hc])
      have HO := Lib.hid (show ubO d k s.data.toList = [] by rw [ubO, HV.out, if_neg hc])
      clear hc hk
      go_enter Tryd.func27, Tryd.ntmps27
      go_wp2_with fail
      refine (Unpad_any _ _ _).mono ?_
      rintro e w1 ⟨rfl, hb⟩
      have HB := Lib.hid hb; clear hb
      go_wp2_with fail
      go_ret2
      exact ⟨by rw [HV.out, HO.out]; rfl, HB.out⟩
end Go.Proofs.YtdalcopbaaabiaaDoor
