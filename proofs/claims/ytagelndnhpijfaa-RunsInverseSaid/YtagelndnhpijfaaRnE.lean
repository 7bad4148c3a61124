/-
  The references of Levels and Transitions.
-/
import Derived.Test.YtagelndnhpijfaaRnD
import Derived.Lib.SmallJoins
namespace Go.Proofs.Ytagelndnhpijfaa
open Go.RowKit

/-- The letters with the first k of the numbers o. -/
def outs (o : Nat → UInt8) (k : Nat) : List UInt8 := (List.range k).map fun j => 48 + o j
theorem outs_succ (o : Nat → UInt8) (k : Nat) : outs o (k + 1) = outs o k ++ [48 + o k] := by simp [outs, List.range_succ]
theorem outs_len (o : Nat → UInt8) (k : Nat) : (outs o k).length = k := by simp [outs]
theorem putTo_all (l : List UInt8) (o : Nat → UInt8) : putTo l o l.length = outs o l.length := by
  apply List.ext_getElem?
  intro j
  rw [putTo_get]
  by_cases h : j < l.length
  · rw [if_pos ⟨h, h⟩, outs, List.getElem?_map, List.getElem?_range h]; rfl
  · rw [if_neg (by omega), List.getElem?_eq_none (by omega), List.getElem?_eq_none (by rw [outs_len]; omega)]
theorem isZ_cases {c : UInt8} (h : isZ c = true) : c = 0 ∨ c = 1 := by
  simp only [isZ, Bool.or_eq_true, beq_iff_eq] at h; exact h
theorem isB_cases {c : UInt8} (h : isB c = true) : c = 48 ∨ c = 49 := by
  simp only [isB, Bool.or_eq_true, beq_iff_eq] at h; exact h

set_option maxHeartbeats 400000 in
theorem number_any (c : UInt8) (w : World) :
    Calls Try.prog 49 #[.int .u8 c.toNat] w fun e w' => e = .returned (.int .i64 (digit c)) ∧ w = w' := by
  go_enter Try.func49, Try.ntmps49
  go_wp2
  go_loop [3] (fun i => ∃ k : Nat, k ≤ 16 ∧ i = .int .i64 k ∧ ∀ j, j < k → letters[j]? ≠ some c) (fun i => 16 - (intOf i).toNat)
  case atStart => exact ⟨0, by omega, rfl, by intro j hj; omega⟩
  case round =>
    obtain ⟨k, hk, rfl, hl⟩ := hrel
    have HL := Lib.hid hl; clear hl
    by_cases hlt : k < 16
    · go_wp2
      · have h : ((letters[k]'hlt).toNat : Int) == c.toNat := by assumption
        go_ret
        refine ⟨?_, rfl⟩
        have h' : letters[k]? = some c := by
          rw [List.getElem?_eq_getElem hlt]; congr 1; rw [← UInt8.toNat_inj]; have := eq_of_beq h; omega
        rw [digit, indexByte_at c letters k h' HL.out]; rfl
      · have h : (((letters[k]'hlt).toNat : Int) == c.toNat) = false := by assumption
        go_round
        case rel =>
          refine ⟨k + 1, by omega, by go_num, ?_⟩
          intro j hj
          by_cases hjk : j < k
          · exact HL.out j hjk
          · obtain rfl : j = k := by omega
            rw [List.getElem?_eq_getElem hlt]; intro hc; simp only [Option.some.injEq] at hc; rw [hc] at h; simp at h
        case measure => simp [intOf]; omega
    · go_wp2
      go_ret
      have := HL.out
      refine ⟨?_, rfl⟩
      rw [digit, indexByte_none c letters (fun j hj => this j (by simp [letters] at hj; omega))]; rfl

set_option maxHeartbeats 2000000 in
set_option maxRecDepth 100000 in
theorem refLevels_any (start : Int) (s : ByteArray) (w : World) :
    Calls Try.prog 24 #[.int .i64 start, .string s] w fun e w' => e = .returned (.tuple #[.string ⟨(lvV start s.data.toList).toArray⟩, .int .i64 (lvE start s.data.toList)]) ∧ w = w' := by
  by_cases h : lvE start s.data.toList = 0
  · obtain ⟨h1, h2⟩ := lvE_ok h
    obtain ⟨hs0, ha⟩ := (chk2_iff _).1 h1
    have hs : s.size ≤ 65536 := hs0
    have hz : isZ (UInt8.ofNat start.toNat) = true := by rcases h2 with rfl | rfl <;> rfl
    have hst : ((UInt8.ofNat start.toNat).toNat : Int) = start := by rcases h2 with rfl | rfl <;> rfl
    have HV := Lib.hid (show lvV start s.data.toList = outs (lvO (UInt8.ofNat start.toNat) s.data.toList) s.size by rw [lvV, if_pos h, putTo_all]; rfl)
    have HE := Lib.hid h; clear h hs0
    obtain ⟨u, hu⟩ : ∃ u : UInt8, u = UInt8.ofNat start.toNat := ⟨_, rfl⟩
    rw [← hu] at hz hst HV
    have HA := Lib.hid ha; clear ha
    have HCH := Lib.hid h1; clear h1
    have HZ := Lib.hid hz; clear hz
    have HSZ := Lib.hid (lvS_z u s.data.toList HZ.out HA.out)
    have t1 : ((start != 0) && (start != 1)) = false := by rcases h2 with rfl | rfl <;> rfl
    have HS := Lib.hid hst; clear hst hu
    rcases h2 with rfl | rfl
    all_goals
      go_enter Try.func24, Try.ntmps24
      go_wp2_with fail
      refine (refCheck_any _ _ _).mono ?_
      rintro e w' ⟨rfl, rfl⟩
      rw [HCH.out]
      go_wp2_with fail
      go_loop [0, 7, 8] (fun a v i => ∃ (k : Nat) (o : ByteArray), k ≤ s.size ∧ i = .int .i64 k ∧ a = .int .i64 ((lvS u s.data.toList k).toNat : Int) ∧ v = .string o ∧ o.data.toList = outs (lvO u s.data.toList) k) (fun _ _ i => s.size - (intOf i).toNat)
      case atStart => exact ⟨0, ⟨#[]⟩, by omega, rfl, by show _ = Value.int .i64 (u.toNat : Int); rw [HS.out], rfl, rfl⟩
      case round =>
        obtain ⟨k, o, hk, rfl, rfl, rfl, ho⟩ := hrel
        have hos : o.size = k := by rw [show o.size = o.data.toList.length from rfl, ho, outs_len]
        have HO := Lib.hid ho; clear ho
        by_cases hlt : k < s.size
        · have hib : isB s[k] = true := by have := isB_get HA.out k (by simpa using hlt); rwa [getD_at s k hlt] at this
          have hzk := HSZ.out k (by have e : s.data.toList.length = s.size := rfl; omega)
          have HT := Lib.hid (outs_succ (lvO u s.data.toList) k)
          have HG := Lib.hid (getD_at s k hlt)
          obtain ⟨x, hx⟩ : ∃ x, x = lvS u s.data.toList k := ⟨_, rfl⟩
          rw [← hx] at hzk ⊢
          have HX := Lib.hid hx; clear hx
          have hov : ¬ (9223372036854775807 : Int) < (o.size : Int) + 1 := by omega
          have hov2 : ¬ 9223372036854775807 < o.size + 1 := by omega
          clear hos
          rcases isZ_cases hzk with rfl | rfl
          · rcases isB_cases hib with hc | hc
            · have hb : (((s[k].toNat : Nat) : Int) == 49) = false := by rw [hc]; rfl
              have HC := Lib.hid hc
              have HY := Lib.hid (show lvS u s.data.toList (k + 1) = 0 by rw [lvS, HG.out, HC.out, ← HX.out]; rfl)
              have HL := Lib.hid (show (⟨#[48, 49, 50, 51, 52, 53, 54, 55, 56, 57, 97, 98, 99, 100, 101, 102]⟩ : ByteArray).extract 0 1 = ⟨#[48]⟩ by decide +kernel)
              clear hc hib hzk
              go_wp2_with fail
              go_round
              case rel =>
                refine ⟨k + 1, _, by omega, by go_num, (by rw [HY.out]; try rfl), rfl, ?_⟩
                rw [Go.Joins.data_append, HO.out, HT.out, lvO, HY.out, HL.out]; rfl
              case measure => simp [intOf]; omega
            · have hb : (((s[k].toNat : Nat) : Int) == 49) = true := by rw [hc]; rfl
              have HC := Lib.hid hc
              have HY := Lib.hid (show lvS u s.data.toList (k + 1) = 1 by rw [lvS, HG.out, HC.out, ← HX.out]; rfl)
              have HL := Lib.hid (show (⟨#[48, 49, 50, 51, 52, 53, 54, 55, 56, 57, 97, 98, 99, 100, 101, 102]⟩ : ByteArray).extract 1 2 = ⟨#[49]⟩ by decide +kernel)
              clear hc hib hzk
              go_wp2_with fail
              go_round
              case rel =>
                refine ⟨k + 1, _, by omega, by go_num, (by rw [HY.out]; try rfl), rfl, ?_⟩
                rw [Go.Joins.data_append, HO.out, HT.out, lvO, HY.out, HL.out]; rfl
              case measure => simp [intOf]; omega
          · rcases isB_cases hib with hc | hc
            · have hb : (((s[k].toNat : Nat) : Int) == 49) = false := by rw [hc]; rfl
              have HC := Lib.hid hc
              have HY := Lib.hid (show lvS u s.data.toList (k + 1) = 1 by rw [lvS, HG.out, HC.out, ← HX.out]; rfl)
              have HL := Lib.hid (show (⟨#[48, 49, 50, 51, 52, 53, 54, 55, 56, 57, 97, 98, 99, 100, 101, 102]⟩ : ByteArray).extract 1 2 = ⟨#[49]⟩ by decide +kernel)
              clear hc hib hzk
              go_wp2_with fail
              go_round
              case rel =>
                refine ⟨k + 1, _, by omega, by go_num, (by rw [HY.out]; try rfl), rfl, ?_⟩
                rw [Go.Joins.data_append, HO.out, HT.out, lvO, HY.out, HL.out]; rfl
              case measure => simp [intOf]; omega
            · have hb : (((s[k].toNat : Nat) : Int) == 49) = true := by rw [hc]; rfl
              have HC := Lib.hid hc
              have HY := Lib.hid (show lvS u s.data.toList (k + 1) = 0 by rw [lvS, HG.out, HC.out, ← HX.out]; rfl)
              have HL := Lib.hid (show (⟨#[48, 49, 50, 51, 52, 53, 54, 55, 56, 57, 97, 98, 99, 100, 101, 102]⟩ : ByteArray).extract 0 1 = ⟨#[48]⟩ by decide +kernel)
              clear hc hib hzk
              go_wp2_with fail
              go_round
              case rel =>
                refine ⟨k + 1, _, by omega, by go_num, (by rw [HY.out]; try rfl), rfl, ?_⟩
                rw [Go.Joins.data_append, HO.out, HT.out, lvO, HY.out, HL.out]; rfl
              case measure => simp [intOf]; omega
        · obtain rfl : k = s.size := by omega
          have hd : decide ((s.size : Int) < (s.size : Int)) = false := by simp
          go_wp2_with fail
          go_ret2
          exact ⟨by rw [HV.out, HE.out, ← HO.out]; rfl, rfl⟩
  · have HV := Lib.hid (show lvV start s.data.toList = [] from if_neg h)
    by_cases hc : chk 2 s.data.toList = 0
    · have hn : ¬ (start = 0 ∨ start = 1) := fun hs => h (by rw [lvE, if_pos hc, if_pos hs])
      have HE := Lib.hid (show lvE start s.data.toList = 2 by rw [lvE, if_pos hc, if_neg hn])
      have t1 : (start != 0) = true := by rw [bne_iff_ne]; exact fun h => hn (.inl h)
      have t2 : (start != 1) = true := by rw [bne_iff_ne]; exact fun h => hn (.inr h)
      have HC := Lib.hid hc
      clear h hn hc
      go_enter Try.func24, Try.ntmps24
      go_wp2_with fail
      refine (refCheck_any _ _ _).mono ?_
      rintro e w' ⟨rfl, rfl⟩
      rw [HC.out]
      go_wp2_with fail
      go_ret2
      exact ⟨by rw [HV.out, HE.out]; rfl, rfl⟩
    · have HE := Lib.hid (show lvE start s.data.toList = chk 2 s.data.toList from if_neg hc)
      have hb : (chk 2 s.data.toList != 0) = true := by simpa using hc
      clear h hc
      go_enter Try.func24, Try.ntmps24
      go_wp2_with fail
      refine (refCheck_any _ _ _).mono ?_
      rintro e w' ⟨rfl, rfl⟩
      go_wp2_with fail
      go_ret2
      exact ⟨by rw [HV.out, HE.out]; rfl, rfl⟩

set_option maxHeartbeats 2000000 in
set_option maxRecDepth 100000 in
theorem refTransitions_any (start : Int) (s : ByteArray) (w : World) :
    Calls Try.prog 26 #[.int .i64 start, .string s] w fun e w' => e = .returned (.tuple #[.string ⟨(trV start s.data.toList).toArray⟩, .int .i64 (lvE start s.data.toList)]) ∧ w = w' := by
  by_cases h : lvE start s.data.toList = 0
  · obtain ⟨h1, h2⟩ := lvE_ok h
    obtain ⟨hs0, ha⟩ := (chk2_iff _).1 h1
    have hs : s.size ≤ 65536 := hs0
    have hz : isZ (UInt8.ofNat start.toNat) = true := by rcases h2 with rfl | rfl <;> rfl
    have hst : ((UInt8.ofNat start.toNat).toNat : Int) = start := by rcases h2 with rfl | rfl <;> rfl
    have HV := Lib.hid (show trV start s.data.toList = outs (trO (UInt8.ofNat start.toNat) s.data.toList) s.size by rw [trV, if_pos h, putTo_all]; rfl)
    have HE := Lib.hid h; clear h hs0
    obtain ⟨u, hu⟩ : ∃ u : UInt8, u = UInt8.ofNat start.toNat := ⟨_, rfl⟩
    rw [← hu] at hz hst HV
    have HA := Lib.hid ha; clear ha
    have HCH := Lib.hid h1; clear h1
    have HZ := Lib.hid hz; clear hz
    have HSZ := Lib.hid (trS_z u s.data.toList HZ.out HA.out)
    have t1 : ((start != 0) && (start != 1)) = false := by rcases h2 with rfl | rfl <;> rfl
    have HS := Lib.hid hst; clear hst hu
    rcases h2 with rfl | rfl
    all_goals
      go_enter Try.func26, Try.ntmps26
      go_wp2_with fail
      refine (refCheck_any _ _ _).mono ?_
      rintro e w' ⟨rfl, rfl⟩
      rw [HCH.out]
      go_wp2_with fail
      go_loop [0, 7, 8] (fun a v i => ∃ (k : Nat) (o : ByteArray), k ≤ s.size ∧ i = .int .i64 k ∧ a = .int .i64 ((trS u s.data.toList k).toNat : Int) ∧ v = .string o ∧ o.data.toList = outs (trO u s.data.toList) k) (fun _ _ i => s.size - (intOf i).toNat)
      case atStart => exact ⟨0, ⟨#[]⟩, by omega, rfl, by show _ = Value.int .i64 (u.toNat : Int); rw [HS.out], rfl, rfl⟩
      case round =>
        obtain ⟨k, o, hk, rfl, rfl, rfl, ho⟩ := hrel
        have hos : o.size = k := by rw [show o.size = o.data.toList.length from rfl, ho, outs_len]
        have HO := Lib.hid ho; clear ho
        by_cases hlt : k < s.size
        · have hib : isB s[k] = true := by have := isB_get HA.out k (by simpa using hlt); rwa [getD_at s k hlt] at this
          have hzk := HSZ.out k (by have e : s.data.toList.length = s.size := rfl; omega)
          have HT := Lib.hid (outs_succ (trO u s.data.toList) k)
          have HG := Lib.hid (getD_at s k hlt)
          obtain ⟨x, hx⟩ : ∃ x, x = trS u s.data.toList k := ⟨_, rfl⟩
          rw [← hx] at hzk ⊢
          have HX := Lib.hid hx; clear hx
          have hov : ¬ (9223372036854775807 : Int) < (o.size : Int) + 1 := by omega
          have hov2 : ¬ 9223372036854775807 < o.size + 1 := by omega
          clear hos
          rcases isZ_cases hzk with rfl | rfl
          · rcases isB_cases hib with hc | hc
            · have HC := Lib.hid hc
              have HY := Lib.hid (show trS u s.data.toList (k + 1) = 0 by rw [trS, HG.out, HC.out]; rfl)
              have HY2 := Lib.hid (show trO u s.data.toList k = 0 by rw [trO, HY.out, ← HX.out]; rfl)
              have hdg : digit s[k] = 0 := by rw [hc]; decide +kernel
              clear hc hib hzk
              go_wp2_with fail
              refine (number_any _ _).mono ?_
              rintro e w' ⟨rfl, rfl⟩
              rw [hdg]
              clear hdg
              go_wp2_with fail
              go_round
              case rel =>
                refine ⟨k + 1, _, by omega, by go_num, (by rw [HY.out]; try rfl), rfl, ?_⟩
                rw [Go.Joins.data_append, HO.out, HT.out, HY2.out]; rfl
              case measure => simp [intOf]; omega
            · have HC := Lib.hid hc
              have HY := Lib.hid (show trS u s.data.toList (k + 1) = 1 by rw [trS, HG.out, HC.out]; rfl)
              have HY2 := Lib.hid (show trO u s.data.toList k = 1 by rw [trO, HY.out, ← HX.out]; rfl)
              have hdg : digit s[k] = 1 := by rw [hc]; decide +kernel
              clear hc hib hzk
              go_wp2_with fail
              refine (number_any _ _).mono ?_
              rintro e w' ⟨rfl, rfl⟩
              rw [hdg]
              clear hdg
              go_wp2_with fail
              go_round
              case rel =>
                refine ⟨k + 1, _, by omega, by go_num, (by rw [HY.out]; try rfl), rfl, ?_⟩
                rw [Go.Joins.data_append, HO.out, HT.out, HY2.out]; rfl
              case measure => simp [intOf]; omega
          · rcases isB_cases hib with hc | hc
            · have HC := Lib.hid hc
              have HY := Lib.hid (show trS u s.data.toList (k + 1) = 0 by rw [trS, HG.out, HC.out]; rfl)
              have HY2 := Lib.hid (show trO u s.data.toList k = 1 by rw [trO, HY.out, ← HX.out]; rfl)
              have hdg : digit s[k] = 0 := by rw [hc]; decide +kernel
              clear hc hib hzk
              go_wp2_with fail
              refine (number_any _ _).mono ?_
              rintro e w' ⟨rfl, rfl⟩
              rw [hdg]
              clear hdg
              go_wp2_with fail
              go_round
              case rel =>
                refine ⟨k + 1, _, by omega, by go_num, (by rw [HY.out]; try rfl), rfl, ?_⟩
                rw [Go.Joins.data_append, HO.out, HT.out, HY2.out]; rfl
              case measure => simp [intOf]; omega
            · have HC := Lib.hid hc
              have HY := Lib.hid (show trS u s.data.toList (k + 1) = 1 by rw [trS, HG.out, HC.out]; rfl)
              have HY2 := Lib.hid (show trO u s.data.toList k = 0 by rw [trO, HY.out, ← HX.out]; rfl)
              have hdg : digit s[k] = 1 := by rw [hc]; decide +kernel
              clear hc hib hzk
              go_wp2_with fail
              refine (number_any _ _).mono ?_
              rintro e w' ⟨rfl, rfl⟩
              rw [hdg]
              clear hdg
              go_wp2_with fail
              go_round
              case rel =>
                refine ⟨k + 1, _, by omega, by go_num, (by rw [HY.out]; try rfl), rfl, ?_⟩
                rw [Go.Joins.data_append, HO.out, HT.out, HY2.out]; rfl
              case measure => simp [intOf]; omega
        · obtain rfl : k = s.size := by omega
          have hd : decide ((s.size : Int) < (s.size : Int)) = false := by simp
          go_wp2_with fail
          go_ret2
          exact ⟨by rw [HV.out, HE.out, ← HO.out]; rfl, rfl⟩
  · have HV := Lib.hid (show trV start s.data.toList = [] from if_neg h)
    by_cases hc : chk 2 s.data.toList = 0
    · have hn : ¬ (start = 0 ∨ start = 1) := fun hs => h (by rw [lvE, if_pos hc, if_pos hs])
      have HE := Lib.hid (show lvE start s.data.toList = 2 by rw [lvE, if_pos hc, if_neg hn])
      have t1 : (start != 0) = true := by rw [bne_iff_ne]; exact fun h => hn (.inl h)
      have t2 : (start != 1) = true := by rw [bne_iff_ne]; exact fun h => hn (.inr h)
      have HC := Lib.hid hc
      clear h hn hc
      go_enter Try.func26, Try.ntmps26
      go_wp2_with fail
      refine (refCheck_any _ _ _).mono ?_
      rintro e w' ⟨rfl, rfl⟩
      rw [HC.out]
      go_wp2_with fail
      go_ret2
      exact ⟨by rw [HV.out, HE.out]; rfl, rfl⟩
    · have HE := Lib.hid (show lvE start s.data.toList = chk 2 s.data.toList from if_neg hc)
      have hb : (chk 2 s.data.toList != 0) = true := by simpa using hc
      clear h hc
      go_enter Try.func26, Try.ntmps26
      go_wp2_with fail
      refine (refCheck_any _ _ _).mono ?_
      rintro e w' ⟨rfl, rfl⟩
      go_wp2_with fail
      go_ret2
      exact ⟨by rw [HV.out, HE.out]; rfl, rfl⟩
end Go.Proofs.Ytagelndnhpijfaa
