/-
  Split and Longest.
-/
import Derived.Test.YtagelndnhpijfaaRnF
namespace Go.Proofs.Ytagelndnhpijfaa
open Go.RowKit

def spV (l : List UInt8) : List (Int × Int) := if chk 16 l = 0 then rp l l.length else []
theorem spV_ok {l : List UInt8} (h : chk 16 l = 0) : spV l = rp l l.length := if_pos h
theorem spV_no {l : List UInt8} (h : ¬ chk 16 l = 0) : spV l = [] := if_neg h
theorem chk16_le {l : List UInt8} (h : chk 16 l = 0) : l.length ≤ 65536 := by
  unfold chk at h; split at h
  · simp at h
  · split at h
    · simp at h
    · omega

set_option maxHeartbeats 400000 in
theorem Split_any (s : ByteArray) (w : World) :
    Calls Try.prog 22 #[.string s] w fun e w' => ∃ v, e = .returned (.tuple #[v, .int .i64 (chk 16 s.data.toList)]) ∧ Own2 w' w.heap.size 50 v (spV s.data.toList) ∧ Below w.heap.size w w' := by
  by_cases h : chk 16 s.data.toList = 0
  · have hs : s.size ≤ 65536 := chk16_le h
    have HV := Lib.hid (show spV s.data.toList = rp s.data.toList s.size from spV_ok h)
    go_enter Try.func22, Try.ntmps22
    go_wp2_with fail
    refine (check_any _ _ _).mono ?_
    rintro e w1 ⟨rfl, n, rfl⟩
    rw [h]
    have HH := Lib.hid h; clear h
    go_wp2_with fail
    refine (split_any s _ hs).mono ?_
    rintro e w2 ⟨v, rfl, hown, hb⟩
    have HO := Lib.hid hown; clear hown
    have HB := Lib.hid hb; clear hb
    go_wp2_with fail
    go_ret2
    rw [HH.out, HV.out]
    exact ⟨_, rfl, HO.out, (below_ofN n).trans HB.out⟩
  · have HV := Lib.hid (spV_no h)
    have hb : (chk 16 s.data.toList != 0) = true := by simpa using h
    clear h
    go_enter Try.func22, Try.ntmps22
    go_wp2_with fail
    refine (check_any _ _ _).mono ?_
    rintro e w1 ⟨rfl, n, rfl⟩
    go_wp2_with fail
    go_ret2
    rw [HV.out]
    exact ⟨_, rfl, own2_nil _ _ _, below_ofN _⟩

def mxL (t : Int) (l : List (Int × Int)) : Nat → Int
  | 0 => 0
  | k + 1 => if (l.getD k (0, 0)).1 = t then max (mxL t l k) (l.getD k (0, 0)).2 else mxL t l k
def lgE (t : Int) (l : List UInt8) : Int := if chk 16 l ≠ 0 then chk 16 l else if t < 0 ∨ 16 ≤ t then 2 else 0
def lgV (t : Int) (l : List UInt8) : Int := if lgE t l = 0 then mxL t (rp l l.length) (rp l l.length).length else 0

theorem lg_no {t : Int} {l : List UInt8} (h : ¬ chk 16 l = 0) : lgE t l = chk 16 l ∧ lgV t l = 0 := by
  have e : lgE t l = chk 16 l := if_pos h
  exact ⟨e, if_neg (by rw [e]; exact h)⟩
theorem lg_out {t : Int} {l : List UInt8} (h : chk 16 l = 0) (ht : t < 0 ∨ 16 ≤ t) : lgE t l = 2 ∧ lgV t l = 0 := by
  have e : lgE t l = 2 := by rw [lgE, if_neg (by simpa using h), if_pos ht]
  exact ⟨e, if_neg (by rw [e]; decide)⟩
theorem lg_in {t : Int} {l : List UInt8} (h : chk 16 l = 0) (ht : ¬ (t < 0 ∨ 16 ≤ t)) : lgE t l = 0 ∧ lgV t l = mxL t (rp l l.length) (rp l l.length).length := by
  have e : lgE t l = 0 := by rw [lgE, if_neg (by simpa using h), if_neg ht]
  exact ⟨e, if_pos e⟩
theorem getD_pair {l : List (Int × Int)} {j : Nat} (h : j < l.length) : l.getD j (0, 0) = l[j] := by
  rw [List.getD_eq_getElem?_getD, List.getElem?_eq_getElem h]; rfl

set_option maxHeartbeats 1000000 in
set_option maxRecDepth 100000 in
theorem Longest_any (s : ByteArray) (t : Int) (w : World) :
    Calls Try.prog 32 #[.string s, .int .i64 t] w fun e w' => e = .returned (.tuple #[.int .i64 (lgV t s.data.toList), .int .i64 (lgE t s.data.toList)]) ∧ Below w.heap.size w w' := by
  by_cases h : chk 16 s.data.toList = 0
  · have hs : s.size ≤ 65536 := chk16_le h
    by_cases ht : t < 0 ∨ 16 ≤ t
    · have HV := Lib.hid (lg_out h ht)
      go_enter Try.func32, Try.ntmps32
      go_wp2_with fail
      refine (check_any _ _ _).mono ?_
      rintro e w1 ⟨rfl, n, rfl⟩
      rw [h]
      clear h
      by_cases h0 : t < 0
      · have hb : decide (t < 0) = true := by simpa using h0
        clear h0 ht
        go_wp2_with fail
        go_ret2
        exact ⟨by rw [HV.out.1, HV.out.2]; rfl, below_ofN n⟩
      · have hb : decide (t < 0) = false := by simpa using h0
        have hb2 : decide (16 ≤ t) = true := by simp; omega
        clear h0 ht
        go_wp2_with fail
        go_ret2
        exact ⟨by rw [HV.out.1, HV.out.2]; rfl, below_ofN n⟩
    · have HV := Lib.hid (lg_in h ht)
      have hb : decide (t < 0) = false := by simp; omega
      have hb2 : decide (16 ≤ t) = false := by simp; omega
      clear ht
      go_enter Try.func32, Try.ntmps32
      go_wp2_with fail
      refine (check_any _ _ _).mono ?_
      rintro e w1 ⟨rfl, n, rfl⟩
      rw [h]
      clear h
      go_wp2_with fail
      refine (split_any s _ hs).mono ?_
      rintro e w2 ⟨v, rfl, hown, hb⟩
      have e : s.data.toList.length = s.size := rfl
      rw [e] at HV
      have hll : (rp s.data.toList s.size).length ≤ 65536 := by
        have := rnS_len s.data.toList s.size
        rw [rp, List.length_map]; omega
      generalize rp s.data.toList s.size = l at *
      have HB := Lib.hid ((below_ofN n).trans hb); clear hb
      obtain ⟨a, c, rfl, hc⟩ := hown.holds
      have HC := Lib.hid hc; clear hc hown e
      go_wp2_with fail
      go_loopw [7, 24] (fun u i wr => ∃ j : Nat, j ≤ l.length ∧ i = .int .i64 j ∧ u = .int .i64 (mxL t l j) ∧ Below w2.heap.size w2 wr) (fun _ i _ => l.length - (intOf i).toNat)
      case atStart => exact ⟨0, by omega, rfl, rfl, Below.refl _ _⟩
      case round =>
        obtain ⟨j, hj, rfl, rfl, hbb⟩ := hrel
        have HBB := Lib.hid hbb; clear hbb
        by_cases hlt : j < l.length
        · obtain ⟨g, o, rfl, h1, h2⟩ := HC.out j hlt
          have c1 := cell_below h1 HBB.out (cell_lt h1)
          have c2 := cell_below h2 HBB.out (cell_lt h2)
          have HM := Lib.hid (show mxL t l (j + 1) = if l[j].1 = t then max (mxL t l j) l[j].2 else mxL t l j by rw [mxL, getD_pair hlt])
          generalize l[j] = p at *
          obtain ⟨p1, p2⟩ := p
          clear h1 h2
          by_cases hp : p1 = t
          · have hq : (p1 == t) = true := by simpa using hp
            have HM2 := Lib.hid (show mxL t l (j + 1) = max (mxL t l j) p2 by rw [HM.out]; exact if_pos hp)
            clear hp
            go_wp2_with fail
            go_roundw
            case rel => exact ⟨j + 1, by omega, by go_num, by rw [HM2.out], HBB.out.alloc HBB.out.size _⟩
            case measure => simp [intOf]; omega
          · have hq : (p1 == t) = false := by simpa using hp
            have HM2 := Lib.hid (show mxL t l (j + 1) = mxL t l j by rw [HM.out]; exact if_neg hp)
            clear hp
            go_wp2_with fail
            go_roundw
            case rel => exact ⟨j + 1, by omega, by go_num, by rw [HM2.out], HBB.out.alloc HBB.out.size _⟩
            case measure => simp [intOf]; omega
        · obtain rfl : j = l.length := by omega
          have hd : decide ((l.length : Int) < (l.length : Int)) = false := by simp
          go_wp2_with fail
          go_ret2
          exact ⟨by rw [HV.out.1, HV.out.2]; rfl, HB.out.trans (HBB.out.mono HB.out.size)⟩
  · have hb : (chk 16 s.data.toList != 0) = true := by simpa using h
    have HV := Lib.hid (lg_no (t := t) h)
    clear h
    go_enter Try.func32, Try.ntmps32
    go_wp2_with fail
    refine (check_any _ _ _).mono ?_
    rintro e w1 ⟨rfl, n, rfl⟩
    go_wp2_with fail
    go_ret2
    exact ⟨by rw [HV.out.1, HV.out.2]; rfl, below_ofN n⟩
end Go.Proofs.Ytagelndnhpijfaa
