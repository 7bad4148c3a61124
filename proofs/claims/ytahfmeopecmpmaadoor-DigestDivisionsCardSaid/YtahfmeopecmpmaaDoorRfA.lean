/-
  The contracts of the references Check, check, cut, and of Zeros and Long.
-/
import Derived.Test.YtahfmeopecmpmaaDoorDgN
namespace Go.Proofs.YtahfmeopecmpmaaDoor
open Go.RowKit

theorem chk2_13 {l : List UInt8} (h1 : l.length ≤ 65536) (h2 : ¬ l.all isB = true) : chk 2 l = 13 := by
  have h3 : chk 2 l ≠ 0 := fun h => h2 ((chk2_iff l).1 h).2
  unfold chk at h3 ⊢
  rw [if_neg (by omega), if_neg (by omega)] at h3 ⊢
  split
  · rename_i h4; rw [if_pos h4] at h3; exact absurd rfl h3
  · rfl

set_option maxHeartbeats 1000000 in
theorem refGCheck_any (g : ByteArray) (w : World) : Calls Tryd.prog 20 #[.string g] w fun e w' => e = .returned (.int .i64 (gck g.data.toList)) ∧ w = w' := by
  have e0 : g.data.toList.length = g.size := rfl
  by_cases h1 : g.size < 2
  · have HV := Lib.hid (show gck g.data.toList = 4 by rw [gck, if_pos (.inl (by omega))])
    have hd : decide ((g.size : Int) < 2) = true := by simp; omega
    clear e0
    go_enter Tryd.func20, Tryd.ntmps20
    go_wp2_with fail
    go_ret
    exact ⟨by rw [HV.out]; rfl, rfl⟩
  · have hd : decide ((g.size : Int) < 2) = false := by simp; omega
    by_cases h2 : 33 < g.size
    · have HV := Lib.hid (show gck g.data.toList = 4 by rw [gck, if_pos (.inr (by omega))])
      have hd2 : decide ((33 : Int) < (g.size : Int)) = true := by simp; omega
      clear e0
      go_enter Tryd.func20, Tryd.ntmps20
      go_wp2_with fail
      go_ret
      exact ⟨by rw [HV.out]; rfl, rfl⟩
    · have hd2 : decide ((33 : Int) < (g.size : Int)) = false := by simp; omega
      have hv : gck g.data.toList = if g.data.toList.all isB = true then (if g.data.toList.getD 0 0 = 49 ∧ g.data.toList.getD (g.data.toList.length - 1) 0 = 49 then 0 else 3) else 13 := by rw [gck, if_neg (by omega)]
      by_cases hb : g.data.toList.all isB = true
      · rw [if_pos hb, e0] at hv
        have HC := Lib.hid ((chk2_iff g.data.toList).2 ⟨by omega, hb⟩)
        have hz0 : 0 < g.size := by omega
        have hz1 : g.size - 1 < g.size := by omega
        rw [getD_at g 0 hz0, getD_at g (g.size - 1) hz1] at hv
        by_cases h49 : g[0]'hz0 = 49
        · have ht0 : (((g[0]'hz0).toNat : Int) != 49) = false := eq49 h49
          by_cases h50 : g[g.size - 1]'hz1 = 49
          · have ht1 : (((g[g.size - 1]'hz1).toNat : Int) != 49) = false := eq49 h50
            have HV := Lib.hid (show gck g.data.toList = 0 by rw [hv, if_pos ⟨h49, h50⟩])
            clear h49 h50 hv hb e0
            go_enter Tryd.func20, Tryd.ntmps20
            go_wp2_with fail
            refine (refCheck_any _ _ _).mono ?_
            rintro e w1 ⟨rfl, rfl⟩
            rw [HC.out]
            go_wp2_with fail
            go_ret
            exact ⟨by rw [HV.out]; rfl, rfl⟩
          · have ht1 : (((g[g.size - 1]'hz1).toNat : Int) != 49) = true := ne49 h50
            have HV := Lib.hid (show gck g.data.toList = 3 by rw [hv, if_neg (fun h => h50 h.2)])
            clear h49 h50 hv hb e0
            go_enter Tryd.func20, Tryd.ntmps20
            go_wp2_with fail
            refine (refCheck_any _ _ _).mono ?_
            rintro e w1 ⟨rfl, rfl⟩
            rw [HC.out]
            go_wp2_with fail
            go_ret
            exact ⟨by rw [HV.out]; rfl, rfl⟩
        · have ht0 : (((g[0]'hz0).toNat : Int) != 49) = true := ne49 h49
          have HV := Lib.hid (show gck g.data.toList = 3 by rw [hv, if_neg (fun h => h49 h.1)])
          clear h49 hv hb e0
          go_enter Tryd.func20, Tryd.ntmps20
          go_wp2_with fail
          refine (refCheck_any _ _ _).mono ?_
          rintro e w1 ⟨rfl, rfl⟩
          rw [HC.out]
          go_wp2_with fail
          go_ret
          exact ⟨by rw [HV.out]; rfl, rfl⟩
      · have HV := Lib.hid (show gck g.data.toList = 13 by rw [hv, if_neg hb])
        have HC := Lib.hid (chk2_13 (l := g.data.toList) (by omega) hb)
        clear hv hb e0
        go_enter Tryd.func20, Tryd.ntmps20
        go_wp2_with fail
        refine (refCheck_any _ _ _).mono ?_
        rintro e w1 ⟨rfl, rfl⟩
        rw [HC.out]
        go_wp2_with fail
        go_ret
        exact ⟨by rw [HV.out]; rfl, rfl⟩

theorem refDcheck_any (g s : ByteArray) (w : World) : Calls Tryd.prog 40 #[.string g, .string s] w fun e w' => e = .returned (.int .i64 (dck g.data.toList s.data.toList)) ∧ w = w' := by
  by_cases h : gck g.data.toList = 0
  · have HV := Lib.hid (show dck g.data.toList s.data.toList = chk 2 s.data.toList by rw [dck, if_pos h])
    have H := Lib.hid h; clear h
    go_enter Tryd.func40, Tryd.ntmps40
    go_wp2_with fail
    refine (refGCheck_any _ _).mono ?_
    rintro e w1 ⟨rfl, rfl⟩
    rw [H.out]
    go_wp2_with fail
    refine (refCheck_any _ _ _).mono ?_
    rintro e w1 ⟨rfl, rfl⟩
    go_wp2_with fail
    go_ret
    exact ⟨by rw [HV.out]; rfl, rfl⟩
  · have HV := Lib.hid (show dck g.data.toList s.data.toList = gck g.data.toList by rw [dck, if_neg h])
    have hb : (gck g.data.toList != 0) = true := by simpa using h
    clear h
    go_enter Tryd.func40, Tryd.ntmps40
    go_wp2_with fail
    refine (refGCheck_any _ _).mono ?_
    rintro e w1 ⟨rfl, rfl⟩
    go_wp2_with fail
    go_ret
    exact ⟨by rw [HV.out]; rfl, rfl⟩

set_option maxHeartbeats 400000 in
theorem refCut_any (s : ByteArray) (w : World) : Calls Tryd.prog 57 #[.string s] w fun e w' => e = .returned (.string ⟨(trm s.data.toList).toArray⟩) ∧ w = w' := by
  go_enter Tryd.func57, Tryd.ntmps57
  go_wp2_with fail
  go_loopw [0] (fun v wr => ∃ t : ByteArray, v = .string t ∧ trm t.data.toList = trm s.data.toList ∧ w = wr) (fun v _ => szOf v)
  case atStart => exact ⟨s, rfl, rfl, rfl⟩
  case round =>
    obtain ⟨t, rfl, ht, rfl⟩ := hrel
    have HT := Lib.hid ht; clear ht
    by_cases h0 : 0 < t.size
    · have hd : decide ((0 : Int) < (t.size : Int)) = true := by simp; omega
      have hcons : t.data.toList = t[0] :: t.data.toList.drop 1 := by
        have h3 := List.drop_eq_getElem_cons (l := t.data.toList) (i := 0) (by simpa using h0)
        rw [List.drop_zero] at h3
        exact h3
      have HCO := Lib.hid hcons; clear hcons
      by_cases h48 : t[0] = 48
      · have ht0 : ((t[0].toNat : Int) == 48) = true := by rw [h48]; rfl
        have hex : (t.extract 1 t.size).data.toList = t.data.toList.drop 1 := by
          rw [← ByteArray.toList_eq, Lib.extract_toList, List.take_of_length_le]
          rw [List.length_drop]; exact Nat.le_refl _
        have HX := Lib.hid (show trm (t.extract 1 t.size).data.toList = trm s.data.toList by
          rw [← HT.out, HCO.out, h48, hex]; simp [trm, Lib.trimLeftB])
        have HS := Lib.hid (show (t.extract 1 t.size).size = t.size - 1 by rw [ByteArray.size_extract]; omega)
        clear h48 hex
        go_wp2_with fail
        go_roundw
        case rel => exact ⟨t.extract 1 t.size, rfl, HX.out, trivial⟩
        case measure => simp only [szOf, HS.out]; omega
      · have ht0 : ((t[0].toNat : Int) == 48) = false := by
          rw [beq_eq_false_iff_ne]; intro he; apply h48; rw [← UInt8.toNat_inj]
          have e : (48 : UInt8).toNat = 48 := rfl
          omega
        have HV := Lib.hid (show t = ⟨(trm s.data.toList).toArray⟩ by
          apply ByteArray.ext; apply Array.ext'
          show t.data.toList = trm s.data.toList
          rw [← HT.out, HCO.out]; simp [trm, Lib.trimLeftB, h48])
        clear h48
        go_wp2_with fail
        go_ret
        exact ⟨by rw [← HV.out]; rfl, rfl⟩
    · have hd : decide ((0 : Int) < (t.size : Int)) = false := decide_eq_false (by omega)
      have HV := Lib.hid (show t = ⟨(trm s.data.toList).toArray⟩ by
        apply ByteArray.ext; apply Array.ext'
        show t.data.toList = trm s.data.toList
        have e : t.data.toList = [] := List.eq_nil_of_length_eq_zero (by have : t.data.toList.length = t.size := rfl; omega)
        rw [← HT.out, e]; rfl)
      go_wp2_with fail
      go_ret
      exact ⟨by rw [← HV.out]; rfl, rfl⟩

set_option maxHeartbeats 1000000 in
set_option maxRecDepth 100000 in
theorem Zeros_any (n : Nat) (w : World) (hn : n ≤ 70000) :
    Calls Tryd.prog 58 #[.int .i64 (n : Int)] w fun e w' => e = .returned (.string ⟨(List.replicate n 48).toArray⟩) ∧ Below w.heap.size w w' := by
  go_enter Tryd.func58, Tryd.ntmps58
  go_wp2_with fail
  have HO := Lib.hid (own_lit w w.heap.size 5 [] (Nat.le_refl _) (by simp))
  go_loopw [3, 4] (fun v i wr => ∃ k : Nat, k ≤ n ∧ i = .int .i64 k ∧ Own wr w.heap.size 5 v (bts (List.replicate k 48)) ∧ Below w.heap.size w wr) (fun _ i _ => n - (intOf i).toNat)
  case atStart => exact ⟨0, by omega, rfl, HO.out, (Below.refl _ _).alloc (Nat.le_refl _) _⟩
  case round =>
    obtain ⟨k, hk, rfl, hown, hb⟩ := hrel
    have HW := Lib.hid hown; clear hown
    have HB := Lib.hid hb; clear hb
    have HSZ := Lib.hid HB.out.size
    by_cases hlt : k < n
    · have hlen : (bts (List.replicate k 48)).length = k := by rw [bts_len, List.length_replicate]
      have hd1 : decide ((k : Int) < (n : Int)) = true := by simp; omega
      go_wp2_with (at_builtin; refine wpList_app1 _ rfl _ _ _ rfl w.heap.size 5 (.int .u8 0) 1 Tryd.underlying57 (by kernel_rfl) rfl _ _ rfl (HW.out.alloc _) wr.heap.size 1 (.int .u8 48) rfl ((row_new wr 5 [.int .u8 48]).cell 0) rfl ?c1 ?c2 ?c3 ?_)
      case c1 => omega
      case c2 => omega
      case c3 => have := HSZ.out; simp; omega
      intro v' w2 hown2 hgr _
      have HO2 := Lib.hid hown2; clear hown2
      have HB2 := Lib.hid (below_grown (HB.out.alloc HSZ.out _) (HW.out.alloc _) hgr (by have := HSZ.out; simp; omega)); clear hgr
      clear hlen
      go_wp2_with fail
      go_roundw
      case rel => exact ⟨k + 1, by omega, by go_num, by rw [List.replicate_succ', ← bts_append]; exact HO2.out, HB2.out⟩
      case measure => simp [intOf]; omega
    · obtain rfl : k = n := by omega
      have hd : decide ((k : Int) < (k : Int)) = false := by simp
      have hcv := run_string_own (P := Tryd.prog) (src := 57) (dst := 9) Tryd.underlying57 Tryd.underlying5 Tryd.underlying9 HW.out
      go_wp2_with fail
      go_ret
      exact ⟨rfl, HB.out⟩

def lgB (n : Nat) (k : Nat) : Bool := (decide (k < n) && decide (n ≤ 65536)) || decide (65544 < n)
theorem Long_any (s : ByteArray) (k : Nat) (w : World) : Calls Tryd.prog 11 #[.string s, .int .i64 (k : Int)] w fun e w' => e = .returned (.bool (lgB s.size k)) ∧ w = w' := by
  obtain ⟨n, hn⟩ : ∃ n, s.size = n := ⟨_, rfl⟩
  by_cases h1 : k < n
  · have d1 : decide ((k : Int) < (n : Int)) = true := by simp; omega
    have d1' : decide (k < n) = true := by simp; omega
    by_cases h2 : n ≤ 65536
    · have d2 : decide ((n : Int) ≤ 65536) = true := by simp; omega
      have d2' : decide (n ≤ 65536) = true := by simp; omega
      have HV := Lib.hid (show lgB s.size k = true by rw [lgB, hn, d1', d2']; rfl)
      go_enter Tryd.func11, Tryd.ntmps11
      go_wp2_with fail
      go_ret
      exact ⟨by rw [HV.out]; rfl, rfl⟩
    · have d2 : decide ((n : Int) ≤ 65536) = false := by simp; omega
      have d2' : decide (n ≤ 65536) = false := by simp; omega
      by_cases h3 : 65544 < n
      · have d3 : decide ((65544 : Int) < (n : Int)) = true := by simp; omega
        have d3' : decide (65544 < n) = true := by simp; omega
        have HV := Lib.hid (show lgB s.size k = true by rw [lgB, hn, d3', Bool.or_true])
        go_enter Tryd.func11, Tryd.ntmps11
        go_wp2_with fail
        go_ret
        exact ⟨by rw [HV.out]; rfl, rfl⟩
      · have d3 : decide ((65544 : Int) < (n : Int)) = false := by simp; omega
        have d3' : decide (65544 < n) = false := by simp; omega
        have HV := Lib.hid (show lgB s.size k = false by rw [lgB, hn, d1', d2', d3']; rfl)
        go_enter Tryd.func11, Tryd.ntmps11
        go_wp2_with fail
        go_ret
        exact ⟨by rw [HV.out]; rfl, rfl⟩
  · have d1 : decide ((k : Int) < (n : Int)) = false := by simp; omega
    have d1' : decide (k < n) = false := by simp; omega
    by_cases h3 : 65544 < n
    · have d3 : decide ((65544 : Int) < (n : Int)) = true := by simp; omega
      have d3' : decide (65544 < n) = true := by simp; omega
      have HV := Lib.hid (show lgB s.size k = true by rw [lgB, hn, d3', Bool.or_true])
      go_enter Tryd.func11, Tryd.ntmps11
      go_wp2_with fail
      go_ret
      exact ⟨by rw [HV.out]; rfl, rfl⟩
    · have d3 : decide ((65544 : Int) < (n : Int)) = false := by simp; omega
      have d3' : decide (65544 < n) = false := by simp; omega
      have HV := Lib.hid (show lgB s.size k = false by rw [lgB, hn, d1', d3']; rfl)
      go_enter Tryd.func11, Tryd.ntmps11
      go_wp2_with fail
      go_ret
      exact ⟨by rw [HV.out]; rfl, rfl⟩
end Go.Proofs.YtahfmeopecmpmaaDoor
