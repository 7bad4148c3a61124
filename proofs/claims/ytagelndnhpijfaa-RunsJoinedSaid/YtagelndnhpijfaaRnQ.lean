/-
  The reference Join.
-/
import Derived.Test.YtagelndnhpijfaaRnP
import Derived.Lib.SmallJoins
namespace Go.Proofs.Ytagelndnhpijfaa
open Go.RowKit

theorem joE_ok : ∀ (l : List (Int × Int)) (L : Int) (prev : Option Int), joE L prev l = 0 → (∀ p ∈ l, 0 ≤ p.1 ∧ p.1 < 16 ∧ 1 ≤ p.2 ∧ p.2 ≤ L) ∧ ((joL l).length : Int) ≤ max L 0
  | [], L, prev, _ => ⟨fun p hp => (by cases hp), by simp [joL]; omega⟩
  | p :: l, L, prev, h => by
    rw [joE] at h
    split at h
    · cases h
    · split at h
      · cases h
      · split at h
        · cases h
        · split at h
          · cases h
          · rename_i h1 h2 h3 h4
            obtain ⟨i1, i2⟩ := joE_ok l (L - p.2) (some p.1) h
            refine ⟨fun q hq => ?_, ?_⟩
            · rcases List.mem_cons.1 hq with rfl | hq
              · omega
              · have := i1 q hq; omega
            · have e : (joL (p :: l)).length = p.2.toNat + (joL l).length := by simp [joL]
              rw [e]; push_cast; omega

set_option maxHeartbeats 2000000 in
set_option maxRecDepth 100000 in
theorem refJoin_any (a : Option Addr) (c : Nat) (l : List (Int × Int)) (w : World) (hrow : ∀ j (h : j < l.length), ∃ g o, a = some ⟨g, o, none⟩ ∧ w.cell? ⟨g, o + j * 2, none⟩ = some (.int .i64 l[j].1) ∧ w.cell? ⟨g, o + j * 2 + 1, none⟩ = some (.int .i64 l[j].2)) (hlen : l.length ≤ 12) (hwf : ∀ p ∈ l, p.2 ≤ 9223372036854775807) :
    Calls Try.prog 31 #[.slice a l.length c] w
      fun e w' => e = .returned (.tuple #[.string ⟨(jnO l).toArray⟩, .int .i64 (jnE l)]) ∧ ∃ n, w' = w.drewN n := by
  have HC := Lib.hid hrow; clear hrow
  go_enter Try.func31, Try.ntmps31
  go_wp2_with fail
  go_loopw [4, 5] (fun u i wr => ∃ (k : Nat) (L : Int) (n : Nat), k ≤ l.length ∧ i = .int .i64 k ∧ u = .int .i64 L ∧ 0 ≤ L ∧ L ≤ 65536 ∧ joE L (prv l k) (l.drop k) = jnE l ∧ wr = w.drewN n) (fun _ i _ => l.length - (intOf i).toNat)
  case atStart => exact ⟨0, 65536, 0, by omega, rfl, rfl, by omega, by omega, rfl, rfl⟩
  case round =>
    obtain ⟨k, L, n0, hk, rfl, rfl, hL0, hL, hE, hw⟩ := hrel
    have HE := Lib.hid hE; clear hE
    have HW := Lib.hid hw; clear hw
    by_cases hlt : k < l.length
    · obtain ⟨g, o, rfl, h1, h2⟩ := HC.out k hlt
      have c1 : wr.cell? ⟨g, o + k * 2, none⟩ = some (.int .i64 l[k].1) := by rw [HW.out]; exact h1
      have c2 : wr.cell? ⟨g, o + k * 2 + 1, none⟩ = some (.int .i64 l[k].2) := by rw [HW.out]; exact h2
      have hw2 : l[k].2 ≤ 9223372036854775807 := hwf _ (List.getElem_mem _)
      have hE : jnE l = if l[k].1 < 0 ∨ 16 ≤ l[k].1 then 13 else if l[k].2 < 1 then 2 else if prv l k = some l[k].1 then 11 else if L < l[k].2 then 4 else joE (L - l[k].2) (some l[k].1) (l.drop (k + 1)) := by
        rw [← HE.out, drop_cons'' hlt, joE]
      have HP := Lib.hid (show prv l (k + 1) = some l[k].1 by rw [prv, getD_pair hlt])
      have HBAD := Lib.hid (show ∀ x : Int, x ≠ 0 → jnE l = x → jnO l = [] from fun x hx he => by rw [jnO, he, if_neg hx])
      have HPV := Lib.hid (show (k = 0 ∧ prv l k = none) ∨ ∃ i, k = i + 1 ∧ ∃ q, prv l k = some q ∧ wr.cell? ⟨g, o + i * 2, none⟩ = some (.int .i64 q) by
        rcases k with _ | i
        · exact .inl ⟨rfl, rfl⟩
        · obtain ⟨g', o', he, h1', _⟩ := HC.out i (by omega)
          cases he
          exact .inr ⟨i, rfl, l[i].1, by rw [prv, getD_pair (by omega)], by rw [HW.out]; exact h1'⟩)
      clear h1 h2
      generalize l[k].1 = p1 at *
      generalize l[k].2 = p2 at *
      by_cases ha : p1 < 0 ∨ 16 ≤ p1
      · rw [if_pos ha] at hE
        have HE2 := Lib.hid hE
        have HO2 := Lib.hid (HBAD.out 13 (by decide) hE)
        clear hE
        rcases ha with ha | ha
        · go_wp2_with fail
          go_ret2
          exact ⟨by rw [HE2.out, HO2.out]; rfl, n0, HW.out⟩
        · have ha' : decide (p1 < 0) = false := by rw [decide_eq_false_iff_not]; omega
          have ha'' : decide (15 < p1) = true := by rw [decide_eq_true_iff]; omega
          go_wp2_with fail
          go_ret2
          exact ⟨by rw [HE2.out, HO2.out]; rfl, n0, HW.out⟩
      · rw [if_neg ha] at hE
        have ha1 : decide (p1 < 0) = false := by rw [decide_eq_false_iff_not]; omega
        have ha2 : decide (15 < p1) = false := by rw [decide_eq_false_iff_not]; omega
        by_cases hn : p2 < 1
        · rw [if_pos hn] at hE
          have HE2 := Lib.hid hE
          have HO2 := Lib.hid (HBAD.out 2 (by decide) hE)
          clear hE ha
          go_wp2_with fail
          go_ret2
          exact ⟨by rw [HE2.out, HO2.out]; rfl, n0, HW.out⟩
        · rw [if_neg hn] at hE
          have ha3 : decide (p2 < 1) = false := by rw [decide_eq_false_iff_not]; omega
          clear ha
          rcases HPV.out with ⟨hk0, hpn⟩ | ⟨i, hki, q, hpn, hq⟩
          · have di0 : decide ((0 : Int) < (k : Int)) = false := by rw [decide_eq_false_iff_not]; omega
            have di1 : decide (0 < k) = false := by rw [decide_eq_false_iff_not]; omega
            rw [hpn, if_neg (by simp)] at hE
            have HK0 := Lib.hid hk0; clear hk0 hpn
            by_cases hfit : L < p2
            · rw [if_pos hfit] at hE
              have HE2 := Lib.hid hE
              have HO2 := Lib.hid (HBAD.out 4 (by decide) hE)
              clear hE
              go_wp2_with fail
              go_quiet (fail)
              go_wp2_with fail
              go_ret2
              exact ⟨by rw [HE2.out, HO2.out]; rfl, n0 + nq, by rw [HW.out, World.drewN_drewN]⟩
            · rw [if_neg hfit] at hE
              have hf : decide (L < p2) = false := by rw [decide_eq_false_iff_not]; omega
              have HE2 := Lib.hid hE
              clear hE hfit
              go_wp2_with fail
              go_quiet (fail)
              go_wp2_with fail
              go_roundw
              case rel => exact ⟨k + 1, L - p2, n0 + nq, by omega, by go_num, rfl, by simp at hf; omega, by omega, by rw [HP.out, HE2.out], by rw [HW.out, World.drewN_drewN]⟩
              case measure => simp [intOf]; omega
          · have di0 : decide ((0 : Int) < (k : Int)) = true := by rw [decide_eq_true_iff]; omega
            have di1 : decide (0 < k) = true := by rw [decide_eq_true_iff]; omega
            have hi2 : (k : Int) - 1 = (i : Int) := by omega
            have hi3 : i < l.length := by omega
            have HKI := Lib.hid hki; clear hki
            rw [hpn] at hE
            clear hpn
            by_cases hqa : q = p1
            · rw [if_pos (by rw [hqa])] at hE
              have HE2 := Lib.hid hE
              have HO2 := Lib.hid (HBAD.out 11 (by decide) hE)
              have hqb : (p1 == q) = true := by simpa using hqa.symm
              clear hE hqa
              go_wp2_with fail
              go_quiet (fail)
              go_wp2_with fail
              go_ret2
              exact ⟨by rw [HE2.out, HO2.out]; rfl, n0 + nq, by rw [HW.out, World.drewN_drewN]⟩
            · rw [if_neg (by intro h; exact hqa (Option.some.inj h))] at hE
              have hqb : (p1 == q) = false := by simpa using fun h => hqa h.symm
              clear hqa
              by_cases hfit : L < p2
              · rw [if_pos hfit] at hE
                have HE2 := Lib.hid hE
                have HO2 := Lib.hid (HBAD.out 4 (by decide) hE)
                clear hE
                go_wp2_with fail
                go_quiet (fail)
                go_wp2_with fail
                go_ret2
                exact ⟨by rw [HE2.out, HO2.out]; rfl, n0 + nq, by rw [HW.out, World.drewN_drewN]⟩
              · rw [if_neg hfit] at hE
                have hf : decide (L < p2) = false := by rw [decide_eq_false_iff_not]; omega
                have HE2 := Lib.hid hE
                clear hE hfit
                go_wp2_with fail
                go_quiet (fail)
                go_wp2_with fail
                go_roundw
                case rel => exact ⟨k + 1, L - p2, n0 + nq, by omega, by go_num, rfl, by simp at hf; omega, by omega, by rw [HP.out, HE2.out], by rw [HW.out, World.drewN_drewN]⟩
                case measure => simp [intOf]; omega
    · obtain rfl : k = l.length := by omega
      have hd : decide ((l.length : Int) < (l.length : Int)) = false := by simp
      have hE0 : jnE l = 0 := by rw [← HE.out, List.drop_of_length_le (Nat.le_refl _), joE]
      have hok := joE_ok l 65536 none hE0
      have HO2 := Lib.hid (show jnO l = joL l by rw [jnO, if_pos hE0])
      have HE2 := Lib.hid hE0
      have HOK := Lib.hid hok.1
      have HLN := Lib.hid (show (joL l).length ≤ 65536 by have := hok.2; omega)
      clear hE0 hok HE
      obtain ⟨wy, rfl⟩ : ∃ z, z = wr := ⟨_, rfl⟩
      go_wp2_with fail
      go_loopw [6, 7] (fun v i wr => ∃ (k : Nat) (q : ByteArray) (n : Nat), k ≤ l.length ∧ i = .int .i64 k ∧ v = .string q ∧ q.data.toList ++ joL (l.drop k) = joL l ∧ wr = w.drewN n) (fun _ i _ => l.length - (intOf i).toNat)
      case atStart => exact ⟨0, ⟨#[]⟩, n0, by omega, rfl, rfl, rfl, HW.out⟩
      case round =>
        obtain ⟨k, q, n1, hk, rfl, rfl, hst, hw⟩ := hrel
        have HST := Lib.hid hst; clear hst
        have HW1 := Lib.hid hw; clear hw
        by_cases hlt : k < l.length
        · obtain ⟨g, o, rfl, h1, h2⟩ := HC.out k hlt
          have HJ := Lib.hid (show q.data.toList ++ (List.replicate l[k].2.toNat (lett l[k].1) ++ joL (l.drop (k + 1))) = joL l by rw [← HST.out, drop_cons'' hlt]; simp only [joL, List.flatMap_cons])
          have hpk := HOK.out l[k] (List.getElem_mem _)
          generalize l[k].1 = p1 at *
          generalize l[k].2 = p2 at *
          obtain ⟨x, rfl⟩ : ∃ x : Nat, p1 = x := ⟨p1.toNat, by omega⟩
          obtain ⟨N, rfl⟩ : ∃ N : Nat, p2 = N := ⟨p2.toNat, by omega⟩
          have hx16 : x < 16 := by omega
          have hqs : q.size + N ≤ 65536 := by
            have e := congrArg List.length HJ.out
            have e2 := HLN.out
            simp only [List.length_append, List.length_replicate, Int.toNat_natCast] at e
            have e3 : q.data.toList.length = q.size := rfl
            omega
          obtain ⟨z, hz⟩ : ∃ z, letters.getD x 0 = z := ⟨_, rfl⟩
          have HXT := Lib.hid (show (⟨#[48, 49, 50, 51, 52, 53, 54, 55, 56, 57, 97, 98, 99, 100, 101, 102]⟩ : ByteArray).extract x (x + 1) = ⟨#[z]⟩ by rw [← hz]; exact ext_lett ⟨x, hx16⟩)
          have HZ := Lib.hid (show lett (x : Int) = z from hz)
          clear hz
          have HC1 := Lib.hid h1
          have HC2 := Lib.hid h2
          clear h1 h2 hpk
          obtain ⟨wu, rfl⟩ : ∃ z, z = wr := ⟨_, rfl⟩
          go_wp2_with fail
          go_loopw [6, 8] (fun v i wr => ∃ (j : Nat) (r : ByteArray) (n : Nat), j ≤ N ∧ i = .int .i64 j ∧ v = .string r ∧ r.size = q.size + j ∧ r.data.toList = q.data.toList ++ List.replicate j z ∧ wr = w.drewN n) (fun _ i _ => N - (intOf i).toNat)
          case atStart => exact ⟨0, q, n1, by omega, rfl, rfl, rfl, by simp, HW1.out⟩
          case round =>
            obtain ⟨j, r, n2, hj, rfl, rfl, hrs, hre, hw⟩ := hrel
            have c1 : wr.cell? ⟨g, o + k * 2, none⟩ = some (.int .i64 (x : Int)) := by rw [hw]; exact HC1.out
            have c2 : wr.cell? ⟨g, o + k * 2 + 1, none⟩ = some (.int .i64 (N : Int)) := by rw [hw]; exact HC2.out
            have HRE := Lib.hid hre; clear hre
            have hov : ¬ 9223372036854775807 < r.size + 1 := by omega
            have HRS := Lib.hid hrs; clear hrs
            have HW2 := Lib.hid hw; clear hw
            by_cases hjl : j < N
            · have hxt := HXT.out
              go_wp2_with fail
              go_quiet (fail)
              go_wp2_with fail
              go_roundw
              case rel =>
                refine ⟨j + 1, _, n2 + nq, by omega, by go_num, rfl, ?_, ?_, by rw [HW2.out, World.drewN_drewN]⟩
                · rw [ByteArray.size_append, HRS.out]; rfl
                · rw [Go.Joins.data_append, HRE.out, List.replicate_succ']; simp
              case measure => simp [intOf]; omega
            · obtain rfl : j = N := by omega
              have hd2 : decide ((j : Int) < (j : Int)) = false := by simp
              go_wp2_with fail
              go_roundw
              case rel =>
                refine ⟨k + 1, r, n2, by omega, by go_num, rfl, ?_, HW2.out⟩
                rw [← HJ.out, HRE.out, Int.toNat_natCast, HZ.out, List.append_assoc]
              case measure => simp [intOf]; omega
        · obtain rfl : k = l.length := by omega
          have hq : q = ⟨(joL l).toArray⟩ := by
            have := HST.out
            rw [List.drop_of_length_le (Nat.le_refl _)] at this
            apply ByteArray.ext
            rw [← this]; simp [joL]
          have HQ := Lib.hid hq; clear hq
          go_wp2_with fail
          go_ret2
          exact ⟨by rw [HE2.out, HO2.out, ← HQ.out]; rfl, n1, HW1.out⟩
end Go.Proofs.Ytagelndnhpijfaa
