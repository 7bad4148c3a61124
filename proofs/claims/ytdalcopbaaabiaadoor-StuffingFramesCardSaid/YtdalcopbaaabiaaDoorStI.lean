/-
  The contracts of the references unstuff and unpad.
-/
import Derived.Test.YtdalcopbaaabiaaDoorStG
import Derived.Test.YtdalcopbaaabiaaDoorStH
namespace Go.Proofs.YtdalcopbaaabiaaDoor
open Go.RowKit

def rus (c : UInt8) (n : Nat) : Nat → List UInt8 → Option (List UInt8)
  | run, [] => if run < n then some [] else none
  | run, a :: l => if run = n then (if a = c then none else rus c n 0 l) else (rus c n (if a = c then run + 1 else 0) l).map (a :: ·)
theorem rus_ust (c put : UInt8) (hcp : c ≠ put) (n : Nat) (hn : 0 < n) : ∀ (l : List UInt8), (∀ a ∈ l, a = c ∨ a = put) → rus c n n l = ust c put n 0 true l ∧ ∀ run, run < n → rus c n run l = ust c put n run false l
  | [], _ => ⟨by rw [rus, if_neg (by omega), ust], fun run h => by rw [rus, if_pos h, ust]⟩
  | a :: l, h => by
    obtain ⟨i1, i2⟩ := rus_ust c put hcp n hn l (fun x hx => h x (List.mem_cons_of_mem _ hx))
    have ha := h a List.mem_cons_self
    refine ⟨?_, fun run hr => ?_⟩
    · rw [rus, if_pos rfl, ust]
      rcases ha with rfl | rfl
      · rw [if_pos rfl, if_neg hcp]
      · rw [if_neg (Ne.symm hcp), if_pos rfl, i2 0 hn]
    · rw [rus, if_neg (by omega), ust]
      congr 1
      by_cases hac : a = c
      · rw [if_pos hac]
        by_cases hr2 : run + 1 < n
        · have e1 : nxt c n run a = run + 1 := by unfold nxt; rw [if_pos hac, if_pos hr2]
          have e2 : msT c n run a = false := by unfold msT; simp; omega
          rw [e1, e2, i2 _ hr2]
        · have e1 : nxt c n run a = 0 := by unfold nxt; rw [if_pos hac, if_neg hr2]
          have e2 : msT c n run a = true := by unfold msT; simp [hac]; omega
          have e3 : run + 1 = n := by omega
          rw [e1, e2, e3, i1]
      · have e1 : nxt c n run a = 0 := by unfold nxt; rw [if_neg hac]
        have e2 : msT c n run a = false := by unfold msT; simp [hac]
        rw [if_neg hac, e1, e2, i2 0 hn]
theorem isB_mem {l : List UInt8} (h : l.all isB = true) : ∀ a ∈ l, a = 48 ∨ a = 49 := fun a ha => isB_cases (List.all_eq_true.1 h a ha)

set_option maxHeartbeats 1000000 in
set_option maxRecDepth 100000 in
theorem refunstuff_any (c : UInt8) (n : Nat) (s : ByteArray) (w : World) (hn : 0 < n) (hn2 : n ≤ 70000) (hs : s.size ≤ 140000) :
    Calls Tryd.prog 59 #[.int .i64 n, .int .u8 c.toNat, .string s] w
      fun e w' => ∃ o : ByteArray, e = .returned (.tuple #[.string o, .bool (rus c n 0 s.data.toList).isSome]) ∧ (∀ x, rus c n 0 s.data.toList = some x → o = ⟨x.toArray⟩) ∧ w = w' := by
  go_enter Tryd.func59, Tryd.ntmps59
  go_wp2_with fail
  go_loop [8, 9, 10] (fun v r i => ∃ (k run : Nat) (o : ByteArray), k ≤ s.size ∧ i = .int .i64 k ∧ r = .int .i64 run ∧ v = .string o ∧ run ≤ n ∧ o.size ≤ k ∧ (rus c n run (s.data.toList.drop k)).map (o.data.toList ++ ·) = rus c n 0 s.data.toList) (fun _ _ i => s.size - (intOf i).toNat)
  case atStart => exact ⟨0, 0, ⟨#[]⟩, by omega, rfl, rfl, rfl, Nat.zero_le _, by simp [ByteArray.size], by simp⟩
  case round =>
    obtain ⟨k, run, o, hk, rfl, rfl, rfl, hrun, hol, hst⟩ := hrel
    have HST := Lib.hid hst; clear hst
    by_cases hlt : k < s.size
    · have hov : ¬ 9223372036854775807 < o.size + 1 := by omega
      have HS1 := Lib.hid (show (s.extract k (k + 1)).size = 1 by rw [show (s.extract k (k + 1)).size = (s.extract k (k + 1)).data.toList.length from rfl, ext_one s k hlt]; rfl)
      have HD := Lib.hid (show s.data.toList.drop k = s[k] :: s.data.toList.drop (k + 1) from drop_cons (by simpa using hlt))
      have HX := Lib.hid (ext_one s k hlt)
      by_cases hrn : run = n
      · have hb : (((run : Nat) : Int) == ((n : Nat) : Int)) = true := by rw [beq_iff_eq]; omega
        by_cases ha : s[k] = c
        · have ht : ((s[k].toNat : Int) == (c.toNat : Int)) = true := by rw [ha]; simp
          have HN := Lib.hid (show rus c n 0 s.data.toList = none by rw [← HST.out, HD.out, rus, if_pos hrn, if_pos ha]; rfl)
          clear ha hrn
          go_wp2_with fail
          go_ret2
          exact ⟨⟨#[]⟩, by rw [HN.out]; rfl, fun x hx => by (rw [HN.out] at hx; cases hx), rfl⟩
        · have ht : ((s[k].toNat : Int) == (c.toNat : Int)) = false := by
            rw [beq_eq_false_iff_ne]; intro he; apply ha; rw [← UInt8.toNat_inj]; omega
          have HN := Lib.hid (show (rus c n 0 (s.data.toList.drop (k + 1))).map (o.data.toList ++ ·) = rus c n 0 s.data.toList by rw [← HST.out, HD.out, rus, if_pos hrn, if_neg ha])
          clear ha hrn
          go_wp2_with fail
          go_round
          case rel => exact ⟨k + 1, 0, o, by omega, by go_num, rfl, rfl, Nat.zero_le _, by omega, HN.out⟩
          case measure => simp [intOf]; omega
      · have hb : (((run : Nat) : Int) == ((n : Nat) : Int)) = false := by rw [beq_eq_false_iff_ne]; omega
        have hrl : run + 1 ≤ n := by omega
        by_cases ha : s[k] = c
        · have ht : ((s[k].toNat : Int) != (c.toNat : Int)) = false := by rw [ha]; simp
          have HN := Lib.hid (show (rus c n (run + 1) (s.data.toList.drop (k + 1))).map ((o.data.toList ++ [s[k]]) ++ ·) = rus c n 0 s.data.toList by rw [← HST.out, HD.out, rus, if_neg hrn, if_pos ha, map_app])
          clear ha hrn
          go_wp2_with fail
          go_round
          case rel => exact ⟨k + 1, run + 1, _, by omega, by go_num, by go_num, rfl, hrl, by rw [ByteArray.size_append, HS1.out]; omega, by rw [Go.Joins.data_append, HX.out]; exact HN.out⟩
          case measure => simp [intOf]; omega
        · have ht : ((s[k].toNat : Int) != (c.toNat : Int)) = true := get_ne ha
          have HN := Lib.hid (show (rus c n 0 (s.data.toList.drop (k + 1))).map ((o.data.toList ++ [s[k]]) ++ ·) = rus c n 0 s.data.toList by rw [← HST.out, HD.out, rus, if_neg hrn, if_neg ha, map_app])
          clear ha hrn
          go_wp2_with fail
          go_round
          case rel => exact ⟨k + 1, 0, _, by omega, by go_num, rfl, rfl, Nat.zero_le _, by rw [ByteArray.size_append, HS1.out]; omega, by rw [Go.Joins.data_append, HX.out]; exact HN.out⟩
          case measure => simp [intOf]; omega
    · obtain rfl : k = s.size := by omega
      have hd : decide ((s.size : Int) < (s.size : Int)) = false := by simp
      have hr : rus c n 0 s.data.toList = if run < n then some o.data.toList else none := by
        rw [← HST.out, List.drop_of_length_le (by simp), rus]
        split <;> simp
      by_cases hrl : run < n
      · have hdr : decide ((run : Int) < (n : Int)) = true := by simp; omega
        have HN := Lib.hid (show rus c n 0 s.data.toList = some o.data.toList by rw [hr, if_pos hrl])
        clear hr
        go_wp2_with fail
        go_ret2
        exact ⟨o, by rw [HN.out]; rfl, fun x hx => by rw [HN.out] at hx; cases hx; rfl, rfl⟩
      · have hdr : decide ((run : Int) < (n : Int)) = false := by simp; omega
        have HN := Lib.hid (show rus c n 0 s.data.toList = none by rw [hr, if_neg hrl])
        clear hr
        go_wp2_with fail
        go_ret2
        exact ⟨o, by rw [HN.out]; rfl, fun x hx => by (rw [HN.out] at hx; cases hx), rfl⟩

set_option maxHeartbeats 1000000 in
set_option maxRecDepth 100000 in
theorem refunpad_any (D : Nat) (s : ByteArray) (w : World) (hbin : s.data.toList.all isB = true) (hD : D ≤ 64) (hs : s.size ≤ 140000) :
    Calls Tryd.prog 63 #[.int .i64 D, .string s] w
      fun e w' => ∃ o : ByteArray, e = .returned (.tuple #[.string o, .bool (upd D 0 s.data.toList).isSome]) ∧ (∀ x, upd D 0 s.data.toList = some x → o = ⟨x.toArray⟩) ∧ w = w' := by
  have HBIN := Lib.hid hbin; clear hbin
  go_enter Tryd.func63, Tryd.ntmps63
  go_wp2_with fail
  go_loop [6, 7] (fun v i => ∃ (k : Nat) (o : ByteArray), k ≤ s.size ∧ i = .int .i64 k ∧ v = .string o ∧ o.size ≤ k ∧ (upd D 0 (s.data.toList.drop k)).map (o.data.toList ++ ·) = upd D 0 s.data.toList) (fun _ i => s.size - (intOf i).toNat)
  case atStart => exact ⟨0, ⟨#[]⟩, by omega, rfl, rfl, by simp [ByteArray.size], by simp⟩
  case round =>
    obtain ⟨k, o, hk, rfl, rfl, hol, hst⟩ := hrel
    have HST := Lib.hid hst; clear hst
    by_cases hlt : k < s.size
    · have hov : ¬ 9223372036854775807 < o.size + 1 := by omega
      have HS1 := Lib.hid (show (s.extract k (k + 1)).size = 1 by rw [show (s.extract k (k + 1)).size = (s.extract k (k + 1)).data.toList.length from rfl, ext_one s k hlt]; rfl)
      have HD := Lib.hid (show s.data.toList.drop k = s[k] :: s.data.toList.drop (k + 1) from drop_cons (by simpa using hlt))
      have HX := Lib.hid (ext_one s k hlt)
      obtain ⟨o1, ho1⟩ : ∃ o1, o ++ s.extract k (k + 1) = o1 := ⟨_, rfl⟩
      have HO1 := Lib.hid (show o1.data.toList = o.data.toList ++ [s[k]] by rw [← ho1, Go.Joins.data_append, HX.out])
      have HO1S := Lib.hid (show o1.size = o.size + 1 by rw [← ho1, ByteArray.size_append, HS1.out])
      by_cases hz : s[k] = 49
      · have hz' : ((s[k].toNat : Int) == 49) = true := by rw [hz]; rfl
        have HST2 := Lib.hid (show (upd D D (s.data.toList.drop (k + 1))).map (o1.data.toList ++ ·) = upd D 0 s.data.toList by
          rw [← HST.out, HD.out, upd, map_app, HO1.out, if_neg (by rw [hz]; decide)])
        clear hz
        go_wp2_with fail
        clear ho1
        go_loop [7, 8] (fun i j => ∃ (q : Nat), q ≤ D ∧ k + q < s.size ∧ i = .int .i64 (k + q : Nat) ∧ j = .int .i64 q ∧ (upd D (D - q) (s.data.toList.drop (k + 1 + q))).map (o1.data.toList ++ ·) = upd D 0 s.data.toList) (fun _ j => D - (intOf j).toNat)
        case atStart => exact ⟨0, by omega, by omega, by simp, rfl, HST2.out⟩
        case round =>
          obtain ⟨q, hq, hqs, rfl, rfl, hqe⟩ := hrel
          have HQ := Lib.hid hqe; clear hqe
          have hcast : ((k + q : Nat) : Int) = (k : Int) + (q : Int) := Int.natCast_add _ _
          rw [hcast]
          clear hcast
          by_cases hjl : q < D
          · have hsub : D - q = (D - (q + 1)) + 1 := by omega
            by_cases hend : k + q + 1 < s.size
            · have HD2 := Lib.hid (show s.data.toList.drop (k + 1 + q) = s[k + q + 1] :: s.data.toList.drop (k + 1 + (q + 1)) by
                have e : k + 1 + q = k + q + 1 := by omega
                have e2 : k + 1 + (q + 1) = k + q + 1 + 1 := by omega
                rw [e, e2]; exact drop_cons (by simpa using hend))
              have hend' : decide ((s.size : Int) ≤ (k : Int) + (q : Int) + 1) = false := by simp; omega
              by_cases hz0 : s[k + q + 1] = 48
              · have hz1 : ((s[k + q + 1].toNat : Int) != 48) = false := by rw [hz0]; rfl
                have HN := Lib.hid (show (upd D (D - (q + 1)) (s.data.toList.drop (k + 1 + (q + 1)))).map (o1.data.toList ++ ·) = upd D 0 s.data.toList by
                  rw [← HQ.out, HD2.out, hsub, upd, if_pos hz0])
                clear hz0 hsub
                go_wp2_with fail
                go_round
                case rel => exact ⟨q + 1, by omega, by omega, by go_num, by go_num, HN.out⟩
                case measure => simp [intOf]; omega
              · have hz1 : ((s[k + q + 1].toNat : Int) != 48) = true := by
                  rw [bne_iff_ne]; intro he; apply hz0; rw [← UInt8.toNat_inj]
                  have e : (48 : UInt8).toNat = 48 := rfl
                  omega
                have HN := Lib.hid (show upd D 0 s.data.toList = none by
                  rw [← HQ.out, HD2.out, hsub, upd, if_neg hz0]; rfl)
                clear hz0 hsub
                go_wp2_with fail
                go_ret2
                exact ⟨⟨#[]⟩, by rw [HN.out]; rfl, fun x hx => by (rw [HN.out] at hx; cases hx), rfl⟩
            · have hend' : decide ((s.size : Int) ≤ (k : Int) + (q : Int) + 1) = true := by simp; omega
              have HN := Lib.hid (show upd D 0 s.data.toList = none by
                rw [← HQ.out, List.drop_of_length_le (by simp; omega), hsub, upd]; rfl)
              clear hsub
              go_wp2_with fail
              go_ret2
              exact ⟨⟨#[]⟩, by rw [HN.out]; rfl, fun x hx => by (rw [HN.out] at hx; cases hx), rfl⟩
          · obtain rfl : q = D := by omega
            have hd : decide ((q : Int) < (q : Int)) = false := by simp
            have HN := Lib.hid (show (upd q 0 (s.data.toList.drop (k + 1 + q))).map (o1.data.toList ++ ·) = upd q 0 s.data.toList by
              have := HQ.out; rwa [Nat.sub_self] at this)
            go_wp2_with fail
            go_round
            case rel => exact ⟨k + 1 + q, o1, by omega, by go_num, rfl, by have := HO1S.out; omega, HN.out⟩
            case measure => simp [intOf]; omega
      · have hz' : ((s[k].toNat : Int) == 49) = false := by
          rw [beq_eq_false_iff_ne]; intro he; apply hz; rw [← UInt8.toNat_inj]
          have e : (49 : UInt8).toNat = 49 := rfl
          omega
        have hz0 : s[k] = 48 := by
          rcases isB_cases (List.all_eq_true.1 HBIN.out s[k] (by rw [Array.mem_toList_iff]; exact Array.getElem_mem _)) with h | h
          · exact h
          · exact absurd h hz
        have HST2 := Lib.hid (show (upd D 0 (s.data.toList.drop (k + 1))).map (o1.data.toList ++ ·) = upd D 0 s.data.toList by
          rw [← HST.out, HD.out, upd, map_app, HO1.out, if_pos hz0])
        clear hz hz0
        go_wp2_with fail
        go_round
        case rel => exact ⟨k + 1, o1, by omega, by go_num, rfl, by have := HO1S.out; omega, HST2.out⟩
        case measure => simp [intOf]; omega
    · obtain rfl : k = s.size := by omega
      have hd : decide ((s.size : Int) < (s.size : Int)) = false := by simp
      have HN := Lib.hid (show upd D 0 s.data.toList = some o.data.toList by
        rw [← HST.out, List.drop_of_length_le (by simp), upd]; simp)
      go_wp2_with fail
      go_ret2
      exact ⟨o, by rw [HN.out]; rfl, fun x hx => by rw [HN.out] at hx; cases hx; rfl, rfl⟩
end Go.Proofs.YtdalcopbaaabiaaDoor
