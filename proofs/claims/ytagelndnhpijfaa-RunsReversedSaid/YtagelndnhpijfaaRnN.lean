/-
  slices.Reverse over bytes, and word.Reverse.
-/
import Derived.Test.YtagelndnhpijfaaRnM
namespace Go.Proofs.Ytagelndnhpijfaa
open Go.RowKit

/-- The letters, of which the first k and the last k have changed places. -/
def rv (l : List UInt8) : Nat → List UInt8
  | 0 => l
  | k + 1 => ((rv l k).set k (l.getD (l.length - 1 - k) 0)).set (l.length - 1 - k) (l.getD k 0)
theorem rv_len (l : List UInt8) : ∀ k, (rv l k).length = l.length
  | 0 => rfl
  | k + 1 => by rw [rv, List.length_set, List.length_set, rv_len l k]
theorem rv_get (l : List UInt8) : ∀ k, 2 * k ≤ l.length → ∀ j, j < l.length → (rv l k)[j]? = some (if j < k ∨ l.length - k ≤ j then l.getD (l.length - 1 - j) 0 else l.getD j 0)
  | 0, _, j, hj => by
    rw [rv, if_neg (by omega), List.getElem?_eq_getElem hj, List.getD_eq_getElem?_getD, List.getElem?_eq_getElem hj]; rfl
  | k + 1, h, j, hj => by
    have ih := rv_get l k (by omega) j hj
    rw [rv, List.getElem?_set, List.length_set, rv_len, List.getElem?_set, rv_len, ih]
    by_cases h1 : l.length - 1 - k = j
    · subst h1
      rw [if_pos rfl, if_pos hj, if_pos (by omega), show l.length - 1 - (l.length - 1 - k) = k by omega]
    · rw [if_neg h1]
      by_cases h2 : k = j
      · rw [if_pos h2, if_pos (by omega), if_pos (by omega), h2]
      · rw [if_neg h2]
        by_cases h3 : j < k ∨ l.length - k ≤ j
        · rw [if_pos h3, if_pos (by omega)]
        · rw [if_neg h3, if_neg (by omega)]
theorem rv_all (l : List UInt8) (k : Nat) (h : 2 * k ≤ l.length) (h2 : l.length ≤ 2 * k + 1) : rv l k = l.reverse := by
  apply List.ext_getElem?
  intro j
  by_cases hj : j < l.length
  · rw [rv_get l k h j hj, List.getElem?_reverse hj]
    by_cases h3 : j < k ∨ l.length - k ≤ j
    · rw [if_pos h3, List.getD_eq_getElem?_getD, List.getElem?_eq_getElem (by omega)]; rfl
    · rw [if_neg h3, show l.length - 1 - j = j by omega, List.getD_eq_getElem?_getD, List.getElem?_eq_getElem hj]; rfl
  · rw [List.getElem?_eq_none (by rw [rv_len]; omega), List.getElem?_eq_none (by simp; omega)]

set_option maxHeartbeats 2000000 in
set_option maxRecDepth 100000 in
theorem reverse_any (l : List UInt8) (B c : Nat) (w : World) (hr : RowP w B 5 (bts l)) (hl : l.length ≤ 70000) :
    Calls Try.prog 50 #[.slice (some ⟨B, 0, none⟩) l.length c] w fun e w' => e = .returned (.tuple #[]) ∧ RowP w' B 5 (bts l.reverse) ∧ Below B w w' := by
  have HR := Lib.hid hr; clear hr
  go_enter Try.func50, Try.ntmps50
  go_wp2_with fail
  go_loopw [2, 3] (fun i j wr => ∃ k : Nat, 2 * k ≤ l.length + 1 ∧ i = .int .i64 k ∧ j = .int .i64 ((l.length : Int) - 1 - k) ∧ 2 * k ≤ l.length ∧ RowP wr B 5 (bts (rv l k)) ∧ Below B w wr) (fun i _ _ => l.length - (intOf i).toNat)
  case atStart => exact ⟨0, by omega, rfl, by simp, by omega, HR.out, Below.refl _ _⟩
  case round =>
    obtain ⟨k, _, rfl, rfl, hk, hrow, hb⟩ := hrel
    have HROW := Lib.hid hrow; clear hrow
    have HB := Lib.hid hb; clear hb
    by_cases hlt : (k : Int) < (l.length : Int) - 1 - k
    · obtain ⟨m, hm⟩ : ∃ m : Nat, (l.length : Int) - 1 - (k : Int) = (m : Int) := ⟨l.length - 1 - k, by omega⟩
      have hmn : m = l.length - 1 - k := by omega
      have hml : m < l.length := by omega
      have hkl : k < l.length := by omega
      have hkm : k < m := by omega
      have c1 : wr.cell? ⟨B, k, none⟩ = some (.int .u8 ((l.getD k 0).toNat : Int)) := by
        rw [HROW.out.cell k (by rw [bts_len, rv_len]; exact hkl), bts_get, rv_get l k hk k hkl, if_neg (by omega)]; rfl
      have c2 : wr.cell? ⟨B, m, none⟩ = some (.int .u8 ((l.getD m 0).toNat : Int)) := by
        rw [HROW.out.cell m (by rw [bts_len, rv_len]; exact hml), bts_get, rv_get l k hk m hml, if_neg (by omega)]; rfl
      have f1 := HROW.out.frozen k (by rw [bts_len, rv_len]; exact hkl)
      have f2 := HROW.out.frozen m (by rw [bts_len, rv_len]; exact hml)
      have HM := Lib.hid hmn
      rw [hm] at hlt ⊢
      clear hm hmn
      generalize hx : l.getD k 0 = x at *
      generalize hy : l.getD m 0 = y at *
      have HX := Lib.hid hx; clear hx
      have HY := Lib.hid hy; clear hy
      go_wp2_with fail
      go_region
      go_wp2_with fail
      go_roundw
      case rel =>
        have hs := (HROW.out.set k (.int .u8 (y.toNat : Int)) (by rw [bts_len, rv_len]; exact hkl)).set m (.int .u8 (x.toNat : Int)) (by rw [List.length_set, bts_len, rv_len]; exact hml)
        rw [bts_set, bts_set] at hs
        have e : rv l (k + 1) = ((rv l k).set k y).set m x := by rw [rv, ← HM.out, HX.out, HY.out]
        have hm' := HM.out
        refine ⟨k + 1, by omega, by go_num, ?_, by omega, ?_, ?_⟩
        · congr 1; push_cast; omega
        · rw [e]; exact hs
        · exact ((HB.out.setCell (p := ⟨B, k, none⟩) (Nat.le_refl _) _).setCell (p := ⟨B, m, none⟩) (Nat.le_refl _) _).drew
      case measure => simp [intOf]; omega
    · have hd : decide ((k : Int) < (l.length : Int) - 1 - (k : Int)) = false := by simpa using hlt
      have HL := Lib.hid (rv_all l k hk (by omega))
      clear hlt
      go_wp2_with fail
      go_end0
      exact ⟨rfl, by rw [← HL.out]; exact HROW.out, HB.out⟩

set_option maxHeartbeats 1000000 in
theorem wreverse_any (s : ByteArray) (hs : s.size ≤ 70000) (w : World) :
    Calls Try.prog 27 #[.string s] w fun e w' => e = .returned (.string ⟨s.data.toList.reverse.toArray⟩) ∧ Below w.heap.size w w' := by
  go_enter Try.func27, Try.ntmps27
  go_wp2_with (refine wpList_bytes _ rfl _ 9 62 5 rfl Try.underlying9 Try.underlying62 Try.underlying5 s rfl ?_)
  intro w1 c hrow hb1 hz1 hc
  have HR := Lib.hid hrow; clear hrow
  have HB1 := Lib.hid hb1; clear hb1 hz1 hc
  go_wp2_with fail
  refine (reverse_any s.data.toList w.heap.size c w1 HR.out hs).mono ?_
  rintro e w2 ⟨rfl, h1, h2⟩
  have hcv := run_string_rowP (P := Try.prog) (w := w2) (src := 62) (dst := 9) (c := c) (n := s.size) Try.underlying62 Try.underlying5 Try.underlying9 h1 (by simp)
  have HB2 := Lib.hid (HB1.out.trans h2); clear h1 h2
  go_wp2_with fail
  go_ret
  exact ⟨rfl, HB2.out⟩

/-! ### the plain law -/
theorem chS_rev (l : List UInt8) : ∀ k, k ≤ l.length → chS l.reverse k = chS l l.length - chS l (l.length - k)
  | 0, _ => by simp [chS]
  | k + 1, h => by
    have e : l.length - k = (l.length - (k + 1)) + 1 := by omega
    have hg : l.reverse.getD k 0 = l.getD (l.length - (k + 1)) 0 := by
      rw [List.getD_eq_getElem?_getD, List.getD_eq_getElem?_getD, List.getElem?_reverse (by omega)]
      congr 2; omega
    rw [chS, chS_rev l k (by omega), e, chS, hg]; omega
theorem mn_le (l : List UInt8) : ∀ k j, j ≤ k → mnS l k ≤ chS l j ∧ chS l j ≤ mxS l k
  | 0, j, h => by
    obtain rfl : j = 0 := by omega
    simp [mnS, mxS, chS]
  | k + 1, j, h => by
    rw [mnS, mxS]
    by_cases hj : j = k + 1
    · subst hj; omega
    · have := mn_le l k j (by omega); omega
theorem mn_at (l : List UInt8) : ∀ k, (∃ j, j ≤ k ∧ mnS l k = chS l j) ∧ (∃ j, j ≤ k ∧ mxS l k = chS l j)
  | 0 => ⟨⟨0, by omega, rfl⟩, ⟨0, by omega, rfl⟩⟩
  | k + 1 => by
    obtain ⟨⟨a, ha, ha2⟩, ⟨b, hb, hb2⟩⟩ := mn_at l k
    rw [mnS, mxS]
    refine ⟨?_, ?_⟩
    · by_cases h : mnS l k ≤ chS l (k + 1)
      · exact ⟨a, by omega, by omega⟩
      · exact ⟨k + 1, by omega, by omega⟩
    · by_cases h : mxS l k ≤ chS l (k + 1)
      · exact ⟨k + 1, by omega, by omega⟩
      · exact ⟨b, by omega, by omega⟩
theorem mn_rev (l : List UInt8) : mnS l.reverse l.length = chS l l.length - mxS l l.length ∧ mxS l.reverse l.length = chS l l.length - mnS l l.length := by
  obtain ⟨⟨a, ha, ha2⟩, ⟨b, hb, hb2⟩⟩ := mn_at l l.length
  obtain ⟨⟨c, hc, hc2⟩, ⟨d, hd, hd2⟩⟩ := mn_at l.reverse l.length
  have h1 := (mn_le l.reverse l.length (l.length - b) (by omega)).1
  have h2 := (mn_le l.reverse l.length (l.length - a) (by omega)).2
  rw [chS_rev l _ (by omega), show l.length - (l.length - b) = b by omega] at h1
  rw [chS_rev l _ (by omega), show l.length - (l.length - a) = a by omega] at h2
  rw [chS_rev l c hc] at hc2
  rw [chS_rev l d hd] at hd2
  have h3 := (mn_le l l.length (l.length - c) (by omega)).2
  have h4 := (mn_le l l.length (l.length - d) (by omega)).1
  omega
theorem chk2_rev {l : List UInt8} (h : chk 2 l = 0) : chk 2 l.reverse = 0 := by
  rw [chk2_iff] at *
  exact ⟨by simpa using h.1, by rw [List.all_reverse]; exact h.2⟩

set_option maxHeartbeats 1000000 in
set_option maxRecDepth 100000 in
theorem law_runsReversed (s : ByteArray) (_w0 : s.size ≤ maxLen) (w : World) :
    Calls Try.prog 7 #[.string s] w fun e w' => e = .returned (.bool true) ∧ Below w.heap.size w w' := by
  generalize hg : grt s.size = g
  have HG := Lib.hid hg; clear hg
  cases g with
  | true =>
    go_enter Try.func7, Try.ntmps7
    go_wp2_with fail
    refine (great_any _ _).mono ?_
    rintro e w1 ⟨rfl, rfl⟩
    rw [HG.out]
    go_wp2_with fail
    refine (awake_any _).mono ?_
    rintro e w2 ⟨rfl, hb⟩
    have HB := Lib.hid hb; clear hb
    go_wp2_with fail
    go_ret
    exact ⟨rfl, HB.out⟩
  | false =>
    by_cases hc : chk 2 s.data.toList = 0
    · have hs : s.size ≤ 60 := small HG.out rfl hc
      have e0 : s.data.toList.length = s.size := rfl
      have hcr := chk2_rev hc
      have hbd := mn_bd s.data.toList s.data.toList.length
      have hrev := mn_rev s.data.toList
      have hle := mn_le s.data.toList s.data.toList.length s.data.toList.length (Nat.le_refl _)
      have e1 : loV s.data.toList = mnS s.data.toList s.data.toList.length := if_pos hc
      have e2 : hiV s.data.toList = mxS s.data.toList s.data.toList.length := if_pos hc
      have e3 : loV s.data.toList.reverse = mnS s.data.toList.reverse s.data.toList.length := by rw [loV, if_pos hcr, List.length_reverse]
      have e4 : hiV s.data.toList.reverse = mxS s.data.toList.reverse s.data.toList.length := by rw [hiV, if_pos hcr, List.length_reverse]
      have e5 : dsV s.data.toList = chS s.data.toList s.data.toList.length := dsV_ok hc
      have e6 : dsV s.data.toList.reverse = chS s.data.toList s.data.toList.length := by
        rw [dsV_ok hcr, List.length_reverse, chS_rev _ _ (Nat.le_refl _), Nat.sub_self]; simp [chS]
      rw [hrev.1] at e3
      rw [hrev.2] at e4
      rw [e0] at hbd hle e1 e2 e3 e4 e5 e6
      generalize mnS s.data.toList s.size = lo at *
      generalize mxS s.data.toList s.size = hi at *
      generalize chS s.data.toList s.size = d at *
      have E1 := Lib.hid e1
      have E2 := Lib.hid e2
      have E3 := Lib.hid e3
      have E4 := Lib.hid e4
      have E5 := Lib.hid e5
      have E6 := Lib.hid e6
      have b1 : lo ≤ 0 := by omega
      have b2 : 0 ≤ hi := by omega
      have b3 : lo ≤ d := by omega
      have b4 : d ≤ hi := by omega
      have b5 : -60 ≤ lo := by omega
      have b6 : hi ≤ 60 := by omega
      have b7 : ((hi - lo) == (d - lo - (d - hi))) = true := by rw [beq_iff_eq]; omega
      have HC := Lib.hid hc
      have HCR := Lib.hid hcr
      clear hc hcr hbd hrev hle e0 e1 e2 e3 e4 e5 e6
      go_enter Try.func7, Try.ntmps7
      go_wp2_with fail
      refine (great_any _ _).mono ?_
      rintro e w1 ⟨rfl, rfl⟩
      rw [HG.out]
      go_wp2_with fail
      refine (refCheck_any _ _ _).mono ?_
      rintro e w1 ⟨rfl, rfl⟩
      rw [HC.out]
      go_wp2_with fail
      refine (Range_any _ _).mono ?_
      rintro e w2 ⟨rfl, hb⟩
      rw [E1.out, E2.out, HC.out]
      have HB2 := Lib.hid hb; clear hb
      go_wp2_with fail
      refine (wreverse_any _ (by omega) _).mono ?_
      rintro e w3 ⟨rfl, hb⟩
      have HB3 := Lib.hid (HB2.out.trans (hb.mono HB2.out.size)); clear hb
      go_wp2_with fail
      refine (Range_any _ _).mono ?_
      rintro e w4 ⟨rfl, hb⟩
      rw [show loV (⟨s.data.toList.reverse.toArray⟩ : ByteArray).data.toList = _ from E3.out, show hiV (⟨s.data.toList.reverse.toArray⟩ : ByteArray).data.toList = _ from E4.out, show chk 2 (⟨s.data.toList.reverse.toArray⟩ : ByteArray).data.toList = 0 from HCR.out]
      have HB4 := Lib.hid (HB3.out.trans (hb.mono HB3.out.size)); clear hb
      go_wp2_with fail
      refine (Disparity_any _ _).mono ?_
      rintro e w5 ⟨rfl, hb⟩
      rw [E5.out, HC.out]
      have HB5 := Lib.hid (HB4.out.trans (hb.mono HB4.out.size)); clear hb
      go_wp2_with fail
      refine (wreverse_any _ (by omega) _).mono ?_
      rintro e w6 ⟨rfl, hb⟩
      have HB6 := Lib.hid (HB5.out.trans (hb.mono HB5.out.size)); clear hb
      go_wp2_with fail
      refine (Disparity_any _ _).mono ?_
      rintro e w7 ⟨rfl, hb⟩
      rw [show dsV (⟨s.data.toList.reverse.toArray⟩ : ByteArray).data.toList = _ from E6.out, show chk 2 (⟨s.data.toList.reverse.toArray⟩ : ByteArray).data.toList = 0 from HCR.out]
      have HB7 := Lib.hid (HB6.out.trans (hb.mono HB6.out.size)); clear hb
      go_wp2_with fail
      refine (awake_any _).mono ?_
      rintro e w8 ⟨rfl, hb⟩
      have HB8 := Lib.hid (HB7.out.trans (hb.mono HB7.out.size)); clear hb
      go_wp2_with fail
      go_ret
      exact ⟨rfl, HB8.out⟩
    · have hc' : (chk 2 s.data.toList != 0) = true := by simpa using hc
      clear hc
      go_enter Try.func7, Try.ntmps7
      go_wp2_with fail
      refine (great_any _ _).mono ?_
      rintro e w1 ⟨rfl, rfl⟩
      rw [HG.out]
      go_wp2_with fail
      refine (refCheck_any _ _ _).mono ?_
      rintro e w1 ⟨rfl, rfl⟩
      go_wp2_with fail
      refine (awake_any _).mono ?_
      rintro e w2 ⟨rfl, hb⟩
      have HB := Lib.hid hb; clear hb
      go_wp2_with fail
      go_ret
      exact ⟨rfl, HB.out⟩
end Go.Proofs.Ytagelndnhpijfaa
