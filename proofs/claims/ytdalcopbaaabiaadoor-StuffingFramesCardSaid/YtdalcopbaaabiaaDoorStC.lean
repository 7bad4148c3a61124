/-
  The contracts of unstuffed and Unstuff.
-/
import Derived.Test.YtdalcopbaaabiaaDoorStB
namespace Go.Proofs.YtdalcopbaaabiaaDoor
open Go.RowKit

/-- The word that is the given one when it is stuffed; the Bool: the letter that is put in must follow. -/
def ust (c put : UInt8) (n : Nat) : Nat → Bool → List UInt8 → Option (List UInt8)
  | _, true, [] => none
  | run, true, b :: l => if b = put then ust c put n run false l else none
  | _, false, [] => some []
  | run, false, a :: l => (ust c put n (nxt c n run a) (msT c n run a) l).map (a :: ·)
theorem map_app {o : Option (List UInt8)} (out : List UInt8) (a : UInt8) : (o.map (a :: ·)).map (out ++ ·) = o.map ((out ++ [a]) ++ ·) := by
  cases o <;> simp
def ustO (c put : UInt8) (n : Nat) (l : List UInt8) : List UInt8 := (ust c put n 0 false l).getD []
def ustB (c put : UInt8) (n : Nat) (l : List UInt8) : Bool := (ust c put n 0 false l).isSome
theorem get_ne {b put : UInt8} (h : b ≠ put) : (((b.toNat : Nat) : Int) != ((put.toNat : Nat) : Int)) = true := by
  rw [bne_iff_ne]; intro he; apply h; rw [← UInt8.toNat_inj]; omega

set_option maxHeartbeats 1000000 in
set_option maxRecDepth 100000 in
theorem unstuffed_any (c put : UInt8) (n : Nat) (s : ByteArray) (w : World) (hn : 0 < n) (hn2 : n ≤ 70000) (hs : s.size ≤ 140000) :
    Calls Tryd.prog 58 #[.int .u8 c.toNat, .int .u8 put.toNat, .int .i64 n, .string s] w
      fun e w' => e = .returned (.tuple #[.string ⟨(ustO c put n s.data.toList).toArray⟩, .bool (ustB c put n s.data.toList)]) ∧ Below w.heap.size w w' := by
  go_enter Tryd.func58, Tryd.ntmps58
  have HBN := Lib.hid (bld_new w.heap.size w (Nat.le_refl _))
  go_wp2_with fail
  refine (stuffer_any c n _).mono ?_
  rintro e w2 ⟨bc, br, bn, rfl, hge, henv, hb⟩
  have hz : w.heap.size + 1 ≤ w2.heap.size := by have := hb.size; simpa using this
  have hlt : bc < w2.heap.size ∧ br < w2.heap.size ∧ bn < w2.heap.size := ⟨henv.2.2.1.lt, henv.2.2.2.1.lt, henv.2.2.2.2.lt⟩
  have hge' : w.heap.size + 1 ≤ bc ∧ w.heap.size + 1 ≤ br ∧ w.heap.size + 1 ≤ bn := by simpa using hge
  have HBL := Lib.hid (HBN.out.raise (by simpa using hb) hz (Nat.le_refl _) (heap_alloc_new w _))
  have HE := Lib.hid henv
  have HB := Lib.hid (((Below.refl w.heap.size w).alloc (Nat.le_refl _) (.cells #[.pointer none, .slice none 0 0] 66)).trans (hb.mono (by simp)))
  have hne1 : bc ≠ w.heap.size ∧ br ≠ w.heap.size ∧ bn ≠ w.heap.size := by omega
  clear hge henv hb HBN
  obtain ⟨m, hm⟩ : ∃ m, m = w2.heap.size := ⟨_, rfl⟩
  rw [← hm] at hlt HBL
  have hlt1 : bc < m ∧ br < m ∧ bn < m := hlt
  clear hm hz hlt
  go_wp2_with fail
  go_loopw [12] (fun i wr => ∃ k : Nat, k ≤ s.size ∧ i = .int .i64 k ∧ ∃ run out, run < n ∧ out.length ≤ k ∧ (ust c put n run false (s.data.toList.drop k)).map (out ++ ·) = ust c put n 0 false s.data.toList ∧ Bld w.heap.size m w.heap.size out wr ∧ Env wr bc br bn c run n ∧ Below w.heap.size w wr) (fun i _ => s.size - (intOf i).toNat)
  case atStart => exact ⟨0, by omega, rfl, 0, [], hn, by simp, by simp, HBL.out, HE.out, HB.out⟩
  case round =>
    obtain ⟨k, hk, rfl, run, out, hrun, hol, hst, hbld, henv, hbb⟩ := hrel
    have HST := Lib.hid hst; clear hst
    have HBLD := Lib.hid hbld; clear hbld
    have HENV := Lib.hid henv; clear henv
    have HBB := Lib.hid hbb; clear hbb HBL HE HB
    by_cases hlt : k < s.size
    · have HD := Lib.hid (show s.data.toList.drop k = s[k] :: s.data.toList.drop (k + 1) from drop_cons (by simpa using hlt))
      have HST2 := Lib.hid (show (ust c put n (nxt c n run s[k]) (msT c n run s[k]) (s.data.toList.drop (k + 1))).map ((out ++ [s[k]]) ++ ·) = ust c put n 0 false s.data.toList by
        rw [← HST.out, HD.out, ust, map_app])
      have hmt : msT c n run s[k] = true ∨ msT c n run s[k] = false := by cases msT c n run s[k] <;> simp
      rcases hmt with hmt | hmt
      · have HST3 := Lib.hid (show (ust c put n (nxt c n run s[k]) true (s.data.toList.drop (k + 1))).map ((out ++ [s[k]]) ++ ·) = ust c put n 0 false s.data.toList by
          have := HST2.out; rwa [hmt] at this)
        clear HST2
        by_cases hend : k + 1 < s.size
        · have HD2 := Lib.hid (show s.data.toList.drop (k + 1) = s[k + 1] :: s.data.toList.drop (k + 1 + 1) from drop_cons (by simpa using hend))
          have hbe : ((((k : Nat) : Int) + 1) == ((s.size : Nat) : Int)) = false := by rw [beq_eq_false_iff_ne]; omega
          by_cases hput : s[k + 1] = put
          · have hpt : ((s[k + 1].toNat : Int) != (put.toNat : Int)) = false := by rw [hput]; simp
            have HST4 := Lib.hid (show (ust c put n (nxt c n run s[k]) false (s.data.toList.drop (k + 1 + 1))).map ((out ++ [s[k]]) ++ ·) = ust c put n 0 false s.data.toList by
              rw [← HST3.out, HD2.out, ust, if_pos hput])
            clear hput
            go_wp2_with fail
            refine (writeByte_any w.heap.size m w.heap.size out s[k] wr HBLD.out (by omega)).mono ?_
            rintro e w3 ⟨rfl, h1, h2, h3⟩
            have HE3 := Lib.hid (HENV.out.keepB h2 hlt1 hne1)
            have HB3 := Lib.hid (HBB.out.trans h3)
            have HBL3 := Lib.hid h1; clear h1 h2 h3
            go_wp2_with fail
            refine (must_any s[k] c run n bc br bn w3 HE3.out hrun hn2).mono ?_
            rintro e w4 ⟨rfl, h1, h2, h3⟩
            rw [hmt]
            have HMT := Lib.hid hmt; clear hmt
            have HE4 := Lib.hid h1
            have HBL4 := Lib.hid (HBL3.out.grown h2 hlt1.2.1 hne1.2.1)
            have HB4 := Lib.hid (HB3.out.trans (h3.mono (by omega))); clear h1 h2 h3
            go_wp2_with fail
            go_roundw
            case rel => exact ⟨k + 1 + 1, by omega, by go_num, nxt c n run s[k], out ++ [s[k]], nxt_lt _ _ _ _ hn, by simp; omega, HST4.out, HBL4.out, HE4.out, HB4.out⟩
            case measure => simp [intOf]; omega
          · have hpt := get_ne hput
            have HST4 := Lib.hid (show ust c put n 0 false s.data.toList = none by
              rw [← HST3.out, HD2.out, ust, if_neg hput]; rfl)
            clear hput
            go_wp2_with fail
            refine (writeByte_any w.heap.size m w.heap.size out s[k] wr HBLD.out (by omega)).mono ?_
            rintro e w3 ⟨rfl, h1, h2, h3⟩
            have HE3 := Lib.hid (HENV.out.keepB h2 hlt1 hne1)
            have HB3 := Lib.hid (HBB.out.trans h3)
            have HBL3 := Lib.hid h1; clear h1 h2 h3
            go_wp2_with fail
            refine (must_any s[k] c run n bc br bn w3 HE3.out hrun hn2).mono ?_
            rintro e w4 ⟨rfl, h1, h2, h3⟩
            rw [hmt]
            have HMT := Lib.hid hmt; clear hmt
            have HB4 := Lib.hid (HB3.out.trans (h3.mono (by omega))); clear h1 h2 h3
            go_wp2_with fail
            go_ret2
            exact ⟨by rw [ustO, ustB, HST4.out]; rfl, HB4.out⟩
        · have hbe : ((((k : Nat) : Int) + 1) == ((s.size : Nat) : Int)) = true := by rw [beq_iff_eq]; omega
          have HST4 := Lib.hid (show ust c put n 0 false s.data.toList = none by
            rw [← HST3.out, List.drop_of_length_le (by simp; omega), ust]; rfl)
          go_wp2_with fail
          refine (writeByte_any w.heap.size m w.heap.size out s[k] wr HBLD.out (by omega)).mono ?_
          rintro e w3 ⟨rfl, h1, h2, h3⟩
          have HE3 := Lib.hid (HENV.out.keepB h2 hlt1 hne1)
          have HB3 := Lib.hid (HBB.out.trans h3)
          have HBL3 := Lib.hid h1; clear h1 h2 h3
          go_wp2_with fail
          refine (must_any s[k] c run n bc br bn w3 HE3.out hrun hn2).mono ?_
          rintro e w4 ⟨rfl, h1, h2, h3⟩
          rw [hmt]
          have HMT := Lib.hid hmt; clear hmt
          have HB4 := Lib.hid (HB3.out.trans (h3.mono (by omega))); clear h1 h2 h3
          go_wp2_with fail
          go_ret2
          exact ⟨by rw [ustO, ustB, HST4.out]; rfl, HB4.out⟩
      · have HST3 := Lib.hid (show (ust c put n (nxt c n run s[k]) false (s.data.toList.drop (k + 1))).map ((out ++ [s[k]]) ++ ·) = ust c put n 0 false s.data.toList by
          have := HST2.out; rwa [hmt] at this)
        clear HST2
        go_wp2_with fail
        refine (writeByte_any w.heap.size m w.heap.size out s[k] wr HBLD.out (by omega)).mono ?_
        rintro e w3 ⟨rfl, h1, h2, h3⟩
        have HE3 := Lib.hid (HENV.out.keepB h2 hlt1 hne1)
        have HB3 := Lib.hid (HBB.out.trans h3)
        have HBL3 := Lib.hid h1; clear h1 h2 h3
        go_wp2_with fail
        refine (must_any s[k] c run n bc br bn w3 HE3.out hrun hn2).mono ?_
        rintro e w4 ⟨rfl, h1, h2, h3⟩
        rw [hmt]
        have HMT := Lib.hid hmt; clear hmt
        have HE4 := Lib.hid h1
        have HBL4 := Lib.hid (HBL3.out.grown h2 hlt1.2.1 hne1.2.1)
        have HB4 := Lib.hid (HB3.out.trans (h3.mono (by omega))); clear h1 h2 h3
        go_wp2_with fail
        go_roundw
        case rel => exact ⟨k + 1, by omega, by go_num, nxt c n run s[k], out ++ [s[k]], nxt_lt _ _ _ _ hn, by simp; omega, HST3.out, HBL4.out, HE4.out, HB4.out⟩
        case measure => simp [intOf]; omega
    · obtain rfl : k = s.size := by omega
      have hd : decide ((s.size : Int) < (s.size : Int)) = false := by simp
      have HOUT := Lib.hid (show ust c put n 0 false s.data.toList = some out by
        rw [← HST.out, List.drop_of_length_le (by simp), ust]; simp)
      go_wp2_with fail
      refine (builder_string w.heap.size m w.heap.size out wr HBLD.out).mono ?_
      rintro e w6 ⟨rfl, h1⟩
      have HB6 := Lib.hid (HBB.out.trans h1); clear h1
      go_wp2_with fail
      go_ret2
      exact ⟨by rw [ustO, ustB, HOUT.out]; rfl, HB6.out⟩

def usE (k : Int) (l : List UInt8) : Int := if k < 1 ∨ 64 < k then 2 else if chk 2 l ≠ 0 then chk 2 l else if ustB 48 49 k.toNat l = true then 0 else 13
def usO (k : Int) (l : List UInt8) : List UInt8 := if usE k l = 0 then ustO 48 49 k.toNat l else []
set_option maxHeartbeats 400000 in
theorem Unstuff_any (k : Int) (s : ByteArray) (w : World) :
    Calls Tryd.prog 21 #[.int .i64 k, .string s] w fun e w' => e = .returned (.tuple #[.string ⟨(usO k s.data.toList).toArray⟩, .int .i64 (usE k s.data.toList)]) ∧ Below w.heap.size w w' := by
  by_cases hk : k < 1 ∨ 64 < k
  · have HV := Lib.hid (show usE k s.data.toList = 2 by rw [usE, if_pos hk])
    have HO := Lib.hid (show usO k s.data.toList = [] by rw [usO, HV.out]; rfl)
    rcases hk with hk | hk
    all_goals
      go_enter Tryd.func21, Tryd.ntmps21
      go_wp2_with fail
      go_ret2
      exact ⟨by rw [HV.out, HO.out]; rfl, Below.refl _ _⟩
  · have h1 : 1 ≤ k := by omega
    have h2 : k ≤ 64 := by omega
    by_cases hc : chk 2 s.data.toList = 0
    · have hs : s.size ≤ 65536 := ((chk2_iff _).1 hc).1
      obtain ⟨K, rfl⟩ : ∃ K : Nat, k = K := ⟨k.toNat, by omega⟩
      have hv : usE K s.data.toList = if ustB 48 49 K s.data.toList = true then 0 else 13 := by rw [usE, if_neg hk, if_neg (by simp [hc])]; rfl
      have HC := Lib.hid hc; clear hc hk
      by_cases hl : ustB 48 49 K s.data.toList = true
      · have HV := Lib.hid (show usE K s.data.toList = 0 by rw [hv, if_pos hl])
        have HO := Lib.hid (show usO K s.data.toList = ustO 48 49 K s.data.toList by rw [usO, HV.out]; rfl)
        clear hv
        go_enter Tryd.func21, Tryd.ntmps21
        go_wp2_with fail
        refine (check_any _ _ _).mono ?_
        rintro e w1 ⟨rfl, n, rfl⟩
        rw [HC.out]
        go_wp2_with fail
        refine (unstuffed_any 48 49 K s _ (by omega) (by omega) (by omega)).mono ?_
        rintro e w2 ⟨rfl, hb⟩
        rw [hl]
        have HB := Lib.hid ((below_ofN n).trans hb); clear hb hl
        go_wp2_with fail
        go_ret2
        exact ⟨by rw [HV.out, HO.out]; rfl, HB.out⟩
      · have HV := Lib.hid (show usE K s.data.toList = 13 by rw [hv, if_neg hl])
        have HO := Lib.hid (show usO K s.data.toList = [] by rw [usO, HV.out]; rfl)
        have hl' : ustB 48 49 K s.data.toList = false := by simpa using hl
        clear hv hl
        go_enter Tryd.func21, Tryd.ntmps21
        go_wp2_with fail
        refine (check_any _ _ _).mono ?_
        rintro e w1 ⟨rfl, n, rfl⟩
        rw [HC.out]
        go_wp2_with fail
        refine (unstuffed_any 48 49 K s _ (by omega) (by omega) (by omega)).mono ?_
        rintro e w2 ⟨rfl, hb⟩
        rw [hl']
        have HB := Lib.hid ((below_ofN n).trans hb); clear hb hl'
        go_wp2_with fail
        go_ret2
        exact ⟨by rw [HV.out, HO.out]; rfl, HB.out⟩
    · have hb : (chk 2 s.data.toList != 0) = true := by simpa using hc
      have HV := Lib.hid (show usE k s.data.toList = chk 2 s.data.toList by rw [usE, if_neg hk, if_pos hc])
      have HO := Lib.hid (show usO k s.data.toList = [] by rw [usO, HV.out, if_neg hc])
      clear hc hk
      go_enter Tryd.func21, Tryd.ntmps21
      go_wp2_with fail
      refine (check_any _ _ _).mono ?_
      rintro e w1 ⟨rfl, n, rfl⟩
      go_wp2_with fail
      go_ret2
      exact ⟨by rw [HV.out, HO.out]; rfl, below_ofN n⟩
end Go.Proofs.YtdalcopbaaabiaaDoor
