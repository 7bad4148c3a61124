/-
  The law of the changes.
-/
import Derived.Test.YtagelndnhpijfaaRnJ
namespace Go.Proofs.Ytagelndnhpijfaa
open Go.RowKit

theorem rnS_step (l : List UInt8) (k : Nat) : (rnS l (k + 1)).length = if 0 < k ∧ l.getD k 0 = l.getD (k - 1) 0 then (rnS l k).length else (rnS l k).length + 1 := by
  rw [rnS]; split
  · rw [bump_len]
  · simp
/-- The level at the start and those of the word. -/
def Lw (s : UInt8) (l : List UInt8) : List UInt8 := (48 + s) :: outs (lvO s l) l.length
theorem Lw_len (s : UInt8) (l : List UInt8) : (Lw s l).length = l.length + 1 := by simp [Lw, outs_len]
theorem Lw_get (s : UInt8) (l : List UInt8) : ∀ k, k ≤ l.length → (Lw s l).getD k 0 = 48 + lvS s l k
  | 0, _ => rfl
  | k + 1, h => by
    rw [Lw, List.getD_cons_succ, outs, List.getD_eq_getElem?_getD, List.getElem?_map, List.getElem?_range (by omega)]; rfl
theorem Lw_runs (s : UInt8) (l : List UInt8) (hs : isZ s = true) (hl : l.all isB = true) : ∀ k, k ≤ l.length → (rnS (Lw s l) (k + 1)).length = 1 + (l.take k).count 49
  | 0, _ => by simp [rnS]
  | k + 1, h => by
    have ih := Lw_runs s l hs hl k (by omega)
    rw [rnS_step, ih, Lw_get _ _ _ h, show k + 1 - 1 = k from rfl, Lw_get _ _ _ (by omega), take_snoc' l k (by omega), List.count_append, lvS]
    have hb := isB_get hl k (by omega)
    have hg : l.getD k 0 = l[k] := by rw [List.getD_eq_getElem?_getD, List.getElem?_eq_getElem (by omega)]; rfl
    rw [hg] at hb ⊢
    have hz := isZ_cases (lvS_z s l hs hl k (by omega))
    rcases isB_cases hb with e | e <;> rw [e] <;> rcases hz with z | z <;> rw [z] <;> simp <;> omega
theorem Lw_all (s : UInt8) (l : List UInt8) (hs : isZ s = true) (hl : l.all isB = true) : (Lw s l).all isB = true := by
  rw [List.all_eq_true]
  intro x hx
  obtain ⟨k, hk, rfl⟩ := List.getElem_of_mem hx
  rw [Lw_len] at hk
  have := Lw_get s l k (by omega)
  rw [List.getD_eq_getElem?_getD, List.getElem?_eq_getElem (by rw [Lw_len]; omega)] at this
  have e : (Lw s l)[k]'(by rw [Lw_len]; omega) = 48 + lvS s l k := this
  rw [e]
  exact isB_of (lvS_z s l hs hl k (by omega))
theorem isB_let16 {c : UInt8} (h : isB c = true) : isLet 16 c = true := by
  rcases isB_cases h with rfl | rfl <;> decide +kernel
theorem chk16_B {l : List UInt8} (h : l.all isB = true) (hn : l.length ≤ 65536) : chk 16 l = 0 := by
  unfold chk
  rw [if_neg (by omega), if_neg (by omega), if_pos]
  rw [List.all_eq_true] at h ⊢
  exact fun x hx => isB_let16 (h x hx)
theorem Lw_count (s : UInt8) (l : List UInt8) (hs : isZ s = true) (hl : l.all isB = true) (hn : l.length ≤ 60) : (spV (Lw s l)).length = 1 + Lib.countByte l 49 := by
  rw [spV_ok (chk16_B (Lw_all s l hs hl) (by rw [Lw_len]; omega)), rp, List.length_map, Lw_len, Lw_runs s l hs hl l.length (Nat.le_refl _), List.take_length]; rfl
theorem lvV_ok {t : Int} {l : List UInt8} (h : chk 2 l = 0) (ht : t = 0 ∨ t = 1) : lvE t l = 0 ∧ (48 + UInt8.ofNat t.toNat) :: lvV t l = Lw (UInt8.ofNat t.toNat) l := by
  have e : lvE t l = 0 := by rw [lvE, if_pos h, if_pos ht]
  exact ⟨e, by rw [lvV, if_pos e, putTo_all]; rfl⟩
theorem small {n : Nat} {l : List UInt8} (hg : grt n = false) (hl : l.length = n) (h : chk 2 l = 0) : n ≤ 60 := by
  have := chk2_le h
  simp [grt] at hg; omega

set_option maxHeartbeats 1000000 in
set_option maxRecDepth 100000 in
theorem law_runsChanges (a0 : Int) (s : ByteArray) (w0 : (Lit.int .u8 a0).wf = true) (_w1 : s.size ≤ maxLen) (w : World) :
    Calls Try.prog 4 #[.int .u8 a0, .string s] w fun e w' => e = .returned (.bool true) ∧ Below w.heap.size w w' := by
  generalize hg : grt s.size = g
  have HG := Lib.hid hg; clear hg
  go_enter Try.func4, Try.ntmps4
  cases g with
  | true =>
    go_wp2_with fail
    refine (great_any _ _).mono ?_
    rintro e w1 ⟨rfl, rfl⟩
    rw [HG.out]
    go_wp2_with fail
    refine (awake_any _).mono ?_
    rintro e w2 ⟨rfl, hb⟩
    have HB := Lib.hid hb; clear hb
    go_wp2_with fail
    go_ret
    exact ⟨rfl, HB.out⟩
  | false =>
    by_cases hc : chk 2 s.data.toList = 0
    · have HS := Lib.hid (small HG.out rfl hc)
      have HC := Lib.hid hc; clear hc
      go_wp2_with fail
      refine (great_any _ _).mono ?_
      rintro e w1 ⟨rfl, rfl⟩
      rw [HG.out]
      go_wp2_with fail
      refine (refCheck_any _ _ _).mono ?_
      rintro e w1 ⟨rfl, rfl⟩
      rw [HC.out]
      have h0 : 0 ≤ a0 ∧ a0 < 256 := by simp [Lit.wf, IntKind.min, IntKind.max, IntKind.signed, IntKind.bits] at w0; omega
      have ht : a0.tmod 2 = 0 ∨ a0.tmod 2 = 1 := by
        have := Int.tmod_eq_emod_of_nonneg (b := 2) h0.1
        omega
      clear w0 h0
      rcases ht with ht | ht
      · have HX := Lib.hid (lvV_ok (t := 0) HC.out (.inl rfl))
        have HQ := Lib.hid (Lw_count 0 s.data.toList rfl ((chk2_iff _).1 HC.out).2 HS.out)
        have HK := Lib.hid (chk16_B (Lw_all 0 s.data.toList rfl ((chk2_iff _).1 HC.out).2) (by rw [Lw_len]; have : s.data.toList.length ≤ 60 := HS.out; omega))
        have hcl := congrArg List.length HX.out.2
        rw [List.length_cons, Lw_len] at hcl
        have hcat : ¬ 9223372036854775807 < 1 + (lvV 0 s.data.toList).length := by have : s.data.toList.length ≤ 60 := HS.out; omega
        clear hcl
        have HB := Lib.hid (show ((⟨#[48, 49, 50, 51, 52, 53, 54, 55, 56, 57, 97, 98, 99, 100, 101, 102]⟩ : ByteArray).extract 0 1 ++ ⟨(lvV 0 s.data.toList).toArray⟩).data.toList = Lw 0 s.data.toList by
          refine Eq.trans ?_ HX.out.2
          rw [ByteArray.data_append, Array.toList_append]
          rfl)
        have HCN := Lib.hid (show Lib.countByte s.data.toList 49 ≤ s.size from List.count_le_length)
        have CC := Lib.hid (fun w => Try.strings_Count_one s 49 w)
        go_wp2_with fail
        refine (Levels_any _ _ _).mono ?_
        rintro e w2 ⟨rfl, hb⟩
        have HB2 := Lib.hid hb; clear hb
        rw [HX.out.1]
        go_wp2_with fail
        refine (Split_any _ _).mono ?_
        rintro e w3 ⟨v, rfl, hown, hb⟩
        have HB3 := Lib.hid (HB2.out.trans (hb.mono HB2.out.size)); clear hb
        rw [HB.out] at hown ⊢
        rw [HK.out]
        obtain ⟨a, cp, rfl, hcells⟩ := hown.holds
        clear hcells hown
        rw [HQ.out]
        have HS' : s.size ≤ 60 := HS.out
        have HCN' : Lib.countByte s.data.toList 49 ≤ s.size := HCN.out
        generalize Lib.countByte s.data.toList 49 = c at *
        go_wp2_with fail
        refine (CC.out _).mono ?_
        rintro e w4 ⟨rfl, rfl⟩
        go_wp2_with fail
        refine (awake_any _).mono ?_
        rintro e w9 ⟨rfl, hb⟩
        have HB9 := Lib.hid (HB3.out.trans (hb.mono HB3.out.size)); clear hb
        go_wp2_with fail
        go_ret
        exact ⟨rfl, HB9.out⟩
      · have HX := Lib.hid (lvV_ok (t := 1) HC.out (.inr rfl))
        have HQ := Lib.hid (Lw_count 1 s.data.toList rfl ((chk2_iff _).1 HC.out).2 HS.out)
        have HK := Lib.hid (chk16_B (Lw_all 1 s.data.toList rfl ((chk2_iff _).1 HC.out).2) (by rw [Lw_len]; have : s.data.toList.length ≤ 60 := HS.out; omega))
        have hcl := congrArg List.length HX.out.2
        rw [List.length_cons, Lw_len] at hcl
        have hcat : ¬ 9223372036854775807 < 1 + (lvV 1 s.data.toList).length := by have : s.data.toList.length ≤ 60 := HS.out; omega
        clear hcl
        have HB := Lib.hid (show ((⟨#[48, 49, 50, 51, 52, 53, 54, 55, 56, 57, 97, 98, 99, 100, 101, 102]⟩ : ByteArray).extract 1 2 ++ ⟨(lvV 1 s.data.toList).toArray⟩).data.toList = Lw 1 s.data.toList by
          refine Eq.trans ?_ HX.out.2
          rw [ByteArray.data_append, Array.toList_append]
          rfl)
        have HCN := Lib.hid (show Lib.countByte s.data.toList 49 ≤ s.size from List.count_le_length)
        have CC := Lib.hid (fun w => Try.strings_Count_one s 49 w)
        go_wp2_with fail
        refine (Levels_any _ _ _).mono ?_
        rintro e w2 ⟨rfl, hb⟩
        have HB2 := Lib.hid hb; clear hb
        rw [HX.out.1]
        go_wp2_with fail
        refine (Split_any _ _).mono ?_
        rintro e w3 ⟨v, rfl, hown, hb⟩
        have HB3 := Lib.hid (HB2.out.trans (hb.mono HB2.out.size)); clear hb
        rw [HB.out] at hown ⊢
        rw [HK.out]
        obtain ⟨a, cp, rfl, hcells⟩ := hown.holds
        clear hcells hown
        rw [HQ.out]
        have HS' : s.size ≤ 60 := HS.out
        have HCN' : Lib.countByte s.data.toList 49 ≤ s.size := HCN.out
        generalize Lib.countByte s.data.toList 49 = c at *
        go_wp2_with fail
        refine (CC.out _).mono ?_
        rintro e w4 ⟨rfl, rfl⟩
        go_wp2_with fail
        refine (awake_any _).mono ?_
        rintro e w9 ⟨rfl, hb⟩
        have HB9 := Lib.hid (HB3.out.trans (hb.mono HB3.out.size)); clear hb
        go_wp2_with fail
        go_ret
        exact ⟨rfl, HB9.out⟩
    · have hc' : (chk 2 s.data.toList != 0) = true := by simpa using hc
      clear hc
      go_wp2_with fail
      refine (great_any _ _).mono ?_
      rintro e w1 ⟨rfl, rfl⟩
      rw [HG.out]
      go_wp2_with fail
      refine (refCheck_any _ _ _).mono ?_
      rintro e w1 ⟨rfl, rfl⟩
      go_wp2_with fail
      refine (awake_any _).mono ?_
      rintro e w2 ⟨rfl, hb⟩
      have HB := Lib.hid hb; clear hb
      go_wp2_with fail
      go_ret
      exact ⟨rfl, HB.out⟩
end Go.Proofs.Ytagelndnhpijfaa
