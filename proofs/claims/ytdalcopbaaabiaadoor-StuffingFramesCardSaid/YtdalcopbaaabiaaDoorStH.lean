/-
  The contracts of the references stuff and pad, and of Stuff, Pad and Both over them.
-/
import Derived.Test.YtdalcopbaaabiaaDoorStF
import Derived.Lib.SmallJoins
namespace Go.Proofs.YtdalcopbaaabiaaDoor
open Go.RowKit

theorem ext_one (s : ByteArray) (k : Nat) (h : k < s.size) : (s.extract k (k + 1)).data.toList = [s[k]] := by
  rw [Lib.extract_data, drop_cons (by simpa using h)]
  have : k + 1 - k = 1 := by omega
  rw [this]; rfl
theorem stf_msT (c put : UInt8) (n run : Nat) (a : UInt8) (l : List UInt8) (h : msT c n run a = true) : stf c put n run (a :: l) = a :: put :: stf c put n (nxt c n run a) l := by rw [stf_cons, h]; rfl
theorem stf_msF (c put : UInt8) (n run : Nat) (a : UInt8) (l : List UInt8) (h : msT c n run a = false) : stf c put n run (a :: l) = a :: stf c put n (nxt c n run a) l := by rw [stf_cons, h]; rfl

set_option maxHeartbeats 1000000 in
set_option maxRecDepth 100000 in
theorem refstuff_any (c put : UInt8) (hcp : c = 48 ∧ put = 49 ∨ c = 49 ∧ put = 48) (n : Nat) (s : ByteArray) (w : World) (hn : 0 < n) (hn2 : n ≤ 70000) (hs : s.size ≤ 140000) :
    Calls Tryd.prog 57 #[.int .i64 n, .int .u8 c.toNat, .string s] w
      fun e w' => e = .returned (.string ⟨(stf c put n 0 s.data.toList).toArray⟩) ∧ Below w.heap.size w w' := by
  have hput : (97 - (c.toNat : Int)) % 256 = (put.toNat : Int) := by rcases hcp with ⟨rfl, rfl⟩ | ⟨rfl, rfl⟩ <;> rfl
  have hput2 : (97 - (c.toNat : Int)) = (put.toNat : Int) := by rcases hcp with ⟨rfl, rfl⟩ | ⟨rfl, rfl⟩ <;> rfl
  have hcb : (c.toNat : Int) ≤ 97 := by rcases hcp with ⟨rfl, rfl⟩ | ⟨rfl, rfl⟩ <;> decide
  clear hcp
  go_enter Tryd.func57, Tryd.ntmps57
  go_wp2_with fail
  go_loopw [7, 8, 9] (fun v r i wr => ∃ (k run : Nat) (o : ByteArray), k ≤ s.size ∧ i = .int .i64 k ∧ r = .int .i64 run ∧ v = .string o ∧ run < n ∧ o.size ≤ 2 * k ∧ o.data.toList ++ stf c put n run (s.data.toList.drop k) = stf c put n 0 s.data.toList ∧ Below w.heap.size w wr) (fun _ _ i _ => s.size - (intOf i).toNat)
  case atStart => exact ⟨0, 0, ⟨#[]⟩, by omega, rfl, rfl, rfl, hn, by simp [ByteArray.size], rfl, Below.refl _ _⟩
  case round =>
    obtain ⟨k, run, o, hk, rfl, rfl, rfl, hrun, hol, hst, hbb⟩ := hrel
    have HST := Lib.hid hst; clear hst
    have HBB := Lib.hid hbb; clear hbb
    by_cases hlt : k < s.size
    · have hov : ¬ 9223372036854775807 < o.size + 1 := by omega
      have hsz1 : (s.extract k (k + 1)).size = 1 := by rw [show (s.extract k (k + 1)).size = (s.extract k (k + 1)).data.toList.length from rfl, ext_one s k hlt]; rfl
      have HS1 := Lib.hid hsz1; clear hsz1
      have HD := Lib.hid (show s.data.toList.drop k = s[k] :: s.data.toList.drop (k + 1) from drop_cons (by simpa using hlt))
      have HX := Lib.hid (ext_one s k hlt)
      by_cases ha : s[k] = c
      · have ht : ((s[k].toNat : Int) != (c.toNat : Int)) = false := by rw [ha]; simp
        have HA := Lib.hid ha; clear ha
        by_cases hr : run + 1 < n
        · have hne : (((run : Int) + 1) == (n : Int)) = false := by rw [beq_eq_false_iff_ne]; omega
          have HM := Lib.hid (show msT c n run s[k] = false by unfold msT; simp; omega)
          have HN := Lib.hid (show nxt c n run s[k] = run + 1 by unfold nxt; rw [if_pos HA.out, if_pos hr])
          go_wp2_with fail
          go_roundw
          case rel =>
            refine ⟨k + 1, run + 1, _, by omega, by go_num, by go_num, rfl, hr, ?_, ?_, HBB.out⟩
            · rw [ByteArray.size_append, HS1.out]; omega
            · rw [Go.Joins.data_append, HX.out, ← HST.out, HD.out, stf_msF _ _ _ _ _ _ HM.out, HN.out]; simp
          case measure => simp [intOf]; omega
        · have hne : (((run : Int) + 1) == (n : Int)) = true := by rw [beq_iff_eq]; omega
          have HM := Lib.hid (show msT c n run s[k] = true by unfold msT; simp [HA.out]; omega)
          have HN := Lib.hid (show nxt c n run s[k] = 0 by unfold nxt; rw [if_pos HA.out, if_neg hr])
          have hcv := run_string_row (P := Tryd.prog) (w := wr.alloc (.cells #[.int .u8 (put.toNat : Int)] 5)) (src := 64) (dst := 9) (c := 1) (n := 1) (l := [put]) Tryd.underlying64 Tryd.underlying5 Tryd.underlying9 (row_new wr 5 [.int .u8 (put.toNat : Int)]) rfl
          have hov2 : ¬ 9223372036854775807 < o.size + 1 + 1 := by omega
          go_wp2_with fail
          go_roundw
          case rel =>
            refine ⟨k + 1, 0, _, by omega, by go_num, rfl, rfl, hn, ?_, ?_, HBB.out.alloc HBB.out.size _⟩
            · rw [ByteArray.size_append, ByteArray.size_append, HS1.out]; show o.size + 1 + 1 ≤ 2 * (k + 1); omega
            · rw [Go.Joins.data_append, Go.Joins.data_append, HX.out, ← HST.out, HD.out, stf_msT _ _ _ _ _ _ HM.out, HN.out]; simp
          case measure => simp [intOf]; omega
      · have ht : ((s[k].toNat : Int) != (c.toNat : Int)) = true := get_ne ha
        have hne : ((0 : Int) == (n : Int)) = false := by rw [beq_eq_false_iff_ne]; omega
        have HM := Lib.hid (show msT c n run s[k] = false by unfold msT; simp [ha])
        have HN := Lib.hid (show nxt c n run s[k] = 0 by unfold nxt; rw [if_neg ha])
        clear ha
        go_wp2_with fail
        go_roundw
        case rel =>
          refine ⟨k + 1, 0, _, by omega, by go_num, rfl, rfl, hn, ?_, ?_, HBB.out⟩
          · rw [ByteArray.size_append, HS1.out]; omega
          · rw [Go.Joins.data_append, HX.out, ← HST.out, HD.out, stf_msF _ _ _ _ _ _ HM.out, HN.out]; simp
        case measure => simp [intOf]; omega
    · obtain rfl : k = s.size := by omega
      have hd : decide ((s.size : Int) < (s.size : Int)) = false := by simp
      have HOUT := Lib.hid (show o = ⟨(stf c put n 0 s.data.toList).toArray⟩ by
        have := HST.out
        rw [List.drop_of_length_le (by simp), stf, List.append_nil] at this
        apply ByteArray.ext; rw [← this])
      go_wp2_with fail
      go_ret
      exact ⟨by rw [← HOUT.out]; rfl, HBB.out⟩

theorem limited_any (s : ByteArray) (hs : s.size ≤ 65536) (w : World) : Calls Tryd.prog 56 #[.string s] w fun e w' => e = .returned (.tuple #[.string s, .int .i64 0]) ∧ w = w' := by
  go_enter Tryd.func56, Tryd.ntmps56
  go_wp2_with fail
  go_ret2
  exact ⟨rfl, rfl⟩
theorem padL_cons (d : Nat) (a : UInt8) (l : List UInt8) : padL d (a :: l) = (if a = 49 then 49 :: List.replicate d 48 else [a]) ++ padL d l := by simp [padL]

set_option maxHeartbeats 1000000 in
set_option maxRecDepth 100000 in
theorem refpad_any (D : Nat) (s : ByteArray) (w : World) (hD : D ≤ 64) (hs : s.size ≤ 140000) :
    Calls Tryd.prog 60 #[.int .i64 D, .string s] w
      fun e w' => e = .returned (.string ⟨(padL D s.data.toList).toArray⟩) ∧ w = w' := by
  go_enter Tryd.func60, Tryd.ntmps60
  go_wp2_with fail
  go_loop [5, 6] (fun v i => ∃ (k : Nat) (o : ByteArray), k ≤ s.size ∧ i = .int .i64 k ∧ v = .string o ∧ o.size ≤ 65 * k ∧ o.data.toList ++ padL D (s.data.toList.drop k) = padL D s.data.toList) (fun _ i => s.size - (intOf i).toNat)
  case atStart => exact ⟨0, ⟨#[]⟩, by omega, rfl, rfl, by simp [ByteArray.size], rfl⟩
  case round =>
    obtain ⟨k, o, hk, rfl, rfl, hol, hst⟩ := hrel
    have HST := Lib.hid hst; clear hst
    by_cases hlt : k < s.size
    · have hov : ¬ 9223372036854775807 < o.size + 1 := by omega
      have HS1 := Lib.hid (show (s.extract k (k + 1)).size = 1 by rw [show (s.extract k (k + 1)).size = (s.extract k (k + 1)).data.toList.length from rfl, ext_one s k hlt]; rfl)
      have HD := Lib.hid (show s.data.toList.drop k = s[k] :: s.data.toList.drop (k + 1) from drop_cons (by simpa using hlt))
      have HX := Lib.hid (ext_one s k hlt)
      obtain ⟨o1, ho1⟩ : ∃ o1, o ++ s.extract k (k + 1) = o1 := ⟨_, rfl⟩
      have HO1 := Lib.hid (show o1.data.toList = o.data.toList ++ [s[k]] by rw [← ho1, Go.Joins.data_append, HX.out])
      have HO1S := Lib.hid (show o1.size = o.size + 1 by rw [← ho1, ByteArray.size_append, HS1.out])
      by_cases hz : s[k] = 49
      · have hz' : ((s[k].toNat : Int) == 49) = true := by rw [hz]; rfl
        have HST2 := Lib.hid (show o1.data.toList ++ List.replicate D 48 ++ padL D (s.data.toList.drop (k + 1)) = padL D s.data.toList by
          rw [← HST.out, HD.out, padL_cons, if_pos hz, HO1.out, hz]; simp)
        clear hz
        go_wp2_with fail
        clear ho1
        go_loop [5, 7] (fun v i => ∃ (j : Nat) (q : ByteArray), j ≤ D ∧ i = .int .i64 j ∧ v = .string q ∧ q.size ≤ 65 * k + 1 + j ∧ q.data.toList = o1.data.toList ++ List.replicate j 48) (fun _ i => D - (intOf i).toNat)
        case atStart => exact ⟨0, o1, by omega, rfl, rfl, by have := HO1S.out; omega, by simp⟩
        case round =>
          obtain ⟨j, q, hj, rfl, rfl, hq, hqe⟩ := hrel
          have HQ := Lib.hid hqe; clear hqe
          by_cases hjl : j < D
          · have hov2 : ¬ 9223372036854775807 < q.size + 1 := by omega
            go_wp2_with fail
            go_round
            case rel =>
              refine ⟨j + 1, _, by omega, by go_num, rfl, ?_, ?_⟩
              · rw [ByteArray.size_append]; show q.size + 1 ≤ _; omega
              · rw [Go.Joins.data_append, HQ.out, List.replicate_succ']; simp
            case measure => simp [intOf]; omega
          · obtain rfl : j = D := by omega
            have hd : decide ((j : Int) < (j : Int)) = false := by simp
            go_wp2_with fail
            go_round
            case rel =>
              exact ⟨k + 1, _, by omega, by go_num, rfl, by omega, by rw [HQ.out, HST2.out]⟩
            case measure => simp [intOf]; omega
      · have hz' : ((s[k].toNat : Int) == 49) = false := by
          rw [beq_eq_false_iff_ne]; intro he; apply hz; rw [← UInt8.toNat_inj]
          have e : (49 : UInt8).toNat = 49 := rfl
          omega
        have HST2 := Lib.hid (show o1.data.toList ++ padL D (s.data.toList.drop (k + 1)) = padL D s.data.toList by
          rw [← HST.out, HD.out, padL_cons, if_neg hz, HO1.out]; simp)
        clear hz
        by_cases hD0 : 0 < D
        · go_wp2_with fail
          clear ho1
          go_loop [5, 7] (fun v i => v = .string o1 ∧ i = .int .i64 0) (fun _ _ => 1)
          case atStart => exact ⟨rfl, rfl⟩
          case round =>
            obtain ⟨rfl, rfl⟩ := hrel
            go_wp2_with fail
            go_round
            case rel =>
              exact ⟨k + 1, o1, by omega, by go_num, rfl, by have := HO1S.out; omega, HST2.out⟩
            case measure => simp [intOf]; omega
        · have hd0 : decide ((0 : Int) < (D : Int)) = false := by simp; omega
          go_wp2_with fail
          clear ho1
          go_loop [5, 7] (fun v i => v = .string o1 ∧ i = .int .i64 0) (fun _ _ => 1)
          case atStart => exact ⟨rfl, rfl⟩
          case round =>
            obtain ⟨rfl, rfl⟩ := hrel
            go_wp2_with fail
            go_round
            case rel =>
              exact ⟨k + 1, o1, by omega, by go_num, rfl, by have := HO1S.out; omega, HST2.out⟩
            case measure => simp [intOf]; omega
    · obtain rfl : k = s.size := by omega
      have hd : decide ((s.size : Int) < (s.size : Int)) = false := by simp
      have HOUT := Lib.hid (show o = ⟨(padL D s.data.toList).toArray⟩ by
        have := HST.out
        rw [List.drop_of_length_le (by simp), padL, List.flatMap_nil, List.append_nil] at this
        apply ByteArray.ext; rw [← this])
      go_wp2_with fail
      go_ret
      exact ⟨by rw [← HOUT.out]; rfl, rfl⟩
end Go.Proofs.YtdalcopbaaabiaaDoor
