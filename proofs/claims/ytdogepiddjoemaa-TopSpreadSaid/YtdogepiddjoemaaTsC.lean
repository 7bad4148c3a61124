/-
  Slices of strings; the test of the rows.
-/
import Derived.Test.YtdogepiddjoemaaTsB
import Derived.Test.YtdogepiddjoemaaTpC
namespace Go.Proofs.Ytdogepiddjoemaa
open Go.RowKit

/-- The slice at a holds these strings. -/
def SRow (w : World) (a : Option Addr) (ss : List ByteArray) : Prop :=
  ∀ (j : Nat) (hj : j < ss.length), ∃ g o, a = some ⟨g, o, none⟩ ∧ w.cell? ⟨g, o + j, none⟩ = some (.string ss[j])
theorem cell_lt {w : World} {g j : Nat} {v : Value} (h : w.cell? ⟨g, j, none⟩ = some v) : g < w.heap.size := by
  rcases Nat.lt_or_ge g w.heap.size with h' | h'
  · exact h'
  · simp [World.cell?, Array.getElem?_eq_none h'] at h
theorem SRow.below {w w' : World} {a : Option Addr} {ss : List ByteArray} (h : SRow w a ss) (hb : Below w.heap.size w w') : SRow w' a ss := fun j hj => by
  obtain ⟨g, o, h1, h2⟩ := h j hj
  exact ⟨g, o, h1, cell_below h2 hb (cell_lt h2)⟩
def rwT (m : Nat) (l : List UInt8) : Bool := decide (l.length ≤ 8) && decide (l.length = m) && decide (chk 2 l = 0)
def rwA (m : Nat) (ss : List ByteArray) : Bool := ss.all fun s => rwT m s.data.toList
theorem rwT_iff {m : Nat} {l : List UInt8} : rwT m l = true ↔ l.length ≤ 8 ∧ l.length = m ∧ l.all isB = true := by
  rw [rwT, Bool.and_eq_true, Bool.and_eq_true, decide_eq_true_eq, decide_eq_true_eq, decide_eq_true_eq, chk2_iff]
  exact ⟨fun h => ⟨h.1.1, h.1.2, h.2.2⟩, fun h => ⟨⟨h.1, h.2.1⟩, by omega, h.2.2⟩⟩

set_option maxHeartbeats 1000000 in
theorem notRow_any (s : ByteArray) (m b : Nat) (a : Option Addr) (c : Nat) (ss : List ByteArray) (w : World) (hc : w.cell? ⟨b, 0, none⟩ = some (.slice a ss.length c)) (hrow : SRow w a ss) (hlen : ss.length ≤ 9223372036854775807) (h0 : 0 < ss.length) (hm : ss[0].size = m) :
    Calls Try.prog 12 #[.string s, .pointer (some ⟨b, 0, none⟩)] w fun e w' => e = .returned (.bool (!rwT m s.data.toList)) ∧ Below w.heap.size w w' := by
  have e1 : s.data.toList.length = s.size := rfl
  by_cases hn : s.size ≤ 8
  · have hd : decide ((8 : Int) < (s.size : Int)) = false := by simp; omega
    have hd' : decide (8 < s.size) = false := by simp; omega
    obtain ⟨g, o, rfl, hc0⟩ := hrow 0 h0
    rw [Nat.add_zero] at hc0
    obtain ⟨L, hL⟩ : ∃ L, ss.length = L := ⟨_, rfl⟩
    have hL0 : 0 < L := by omega
    obtain ⟨s0, hs0⟩ : ∃ s0, ss[0] = s0 := ⟨_, rfl⟩
    rw [hs0] at hc0 hm
    rw [hL] at hc hlen
    clear hs0 hrow
    by_cases hme : s.size = m
    · have hne : ((s.size : Int) != (s0.size : Int)) = false := by simp; omega
      have hne' : ((s.size : Int) != (m : Int)) = false := by simp; omega
      by_cases h : chk 2 s.data.toList = 0
      · have HV := Lib.hid (show rwT m s.data.toList = true by rw [rwT, decide_eq_true (by omega), decide_eq_true (by omega), decide_eq_true h]; rfl)
        have H := Lib.hid h
        clear h e1 hme hL
        go_enter Try.func12, Try.ntmps12
        go_wp2_with fail
        refine (refCheck_any _ _ _).mono ?_
        rintro e w1 ⟨rfl, rfl⟩
        rw [H.out]
        go_wp2_with fail
        go_ret
        exact ⟨by rw [HV.out]; rfl, Below.refl _ _⟩
      · have HV := Lib.hid (show rwT m s.data.toList = false by rw [rwT, decide_eq_false h, Bool.and_false])
        have hb : (chk 2 s.data.toList != 0) = true := by simpa using h
        clear h e1 hme hL
        go_enter Try.func12, Try.ntmps12
        go_wp2_with fail
        refine (refCheck_any _ _ _).mono ?_
        rintro e w1 ⟨rfl, rfl⟩
        go_wp2_with fail
        go_ret
        exact ⟨by rw [HV.out]; rfl, Below.refl _ _⟩
    · have hne : ((s.size : Int) != (s0.size : Int)) = true := by simp; omega
      have hne' : ((s.size : Int) != (m : Int)) = true := by simp; omega
      have HV := Lib.hid (show rwT m s.data.toList = false by rw [rwT, decide_eq_false (show ¬ s.data.toList.length = m by omega), Bool.and_false]; rfl)
      clear e1 hme hL
      go_enter Try.func12, Try.ntmps12
      go_wp2_with fail
      go_ret
      exact ⟨by rw [HV.out]; rfl, Below.refl _ _⟩
  · have hd : decide ((8 : Int) < (s.size : Int)) = true := by simp; omega
    have hd' : decide (8 < s.size) = true := by simp; omega
    have HV := Lib.hid (show rwT m s.data.toList = false by rw [rwT, decide_eq_false (show ¬ s.data.toList.length ≤ 8 by omega)]; rfl)
    clear e1 hrow hc
    go_enter Try.func12, Try.ntmps12
    go_wp2_with fail
    go_ret
    exact ⟨by rw [HV.out]; rfl, Below.refl _ _⟩

set_option maxHeartbeats 1000000 in
set_option maxRecDepth 100000 in
theorem rIndexFunc_any (a : Option Addr) (c : Nat) (ss : List ByteArray) (m b : Nat) (w : World) (hrow : SRow w a ss) (hlen : ss.length ≤ 9223372036854775807) (hc : w.cell? ⟨b, 0, none⟩ = some (.slice a ss.length c)) (hm : ∀ h : 0 < ss.length, ss[0].size = m) :
    Calls Try.prog 20 #[.slice a ss.length c, .func (.func 12) #[] #[.pointer (some ⟨b, 0, none⟩)]] w
      fun e w' => (∃ z : Int, e = .returned (.int .i64 z) ∧ decide (0 ≤ z) = !rwA m ss) ∧ Below w.heap.size w w' := by
  have HR := Lib.hid hrow; clear hrow
  have HC := Lib.hid hc; clear hc
  go_enter Try.func20, Try.ntmps20
  go_wp2_with fail
  go_loopw [8] (fun i wr => ∃ k : Nat, k ≤ ss.length ∧ i = .int .i64 k ∧ rwA m (ss.take k) = true ∧ Below w.heap.size w wr) (fun i _ => ss.length - (intOf i).toNat)
  case atStart => exact ⟨0, by omega, rfl, rfl, Below.refl _ _⟩
  case round =>
    obtain ⟨k, hk, rfl, hall, hb⟩ := hrel
    have HB := Lib.hid hb
    have HA := Lib.hid hall; clear hall
    by_cases hlt : k < ss.length
    · have HRW := Lib.hid (HR.out.below hb)
      obtain ⟨g, o, rfl, hc⟩ := (HR.out.below hb) k hlt
      have HC2 := Lib.hid (cell_below HC.out hb (cell_lt HC.out))
      clear hb
      go_wp2_with fail
      refine (notRow_any _ m b _ c ss _ HC2.out HRW.out hlen (by omega) (hm (by omega))).mono ?_
      rintro e x1 ⟨rfl, h1⟩
      have H1 := Lib.hid (HB.out.trans (h1.mono HB.out.size)); clear h1
      cases hbt : rwT m ss[k].data.toList with
      | true =>
        have HBT := Lib.hid hbt; clear hbt
        go_wp2_with fail
        go_roundw
        case rel => exact ⟨k + 1, by omega, by go_num, by
          have := HA.out
          unfold rwA at this ⊢
          rw [List.take_add_one, List.getElem?_eq_getElem hlt, Option.toList_some, List.all_append, this]
          simp [HBT.out], H1.out⟩
        case measure => simp [intOf]; omega
      | false =>
        have HBT := Lib.hid (show rwA m ss = false by
          unfold rwA
          rw [Bool.eq_false_iff]
          intro h
          rw [List.all_eq_true] at h
          have := h _ (List.getElem_mem hlt)
          rw [hbt] at this; cases this)
        clear hbt
        go_wp2_with fail
        go_ret
        exact ⟨⟨_, rfl, by rw [HBT.out]; simp⟩, H1.out⟩
    · obtain rfl : k = ss.length := by omega
      have hd : decide ((ss.length : Int) < (ss.length : Int)) = false := by simp
      have HBA := Lib.hid (show rwA m ss = true by have := HA.out; rwa [List.take_length] at this)
      clear hb
      go_wp2_with fail
      go_ret
      exact ⟨⟨_, rfl, by rw [HBA.out]; rfl⟩, HB.out⟩

theorem rContainsFunc_any (a : Option Addr) (c : Nat) (ss : List ByteArray) (m b : Nat) (w : World) (hrow : SRow w a ss) (hlen : ss.length ≤ 9223372036854775807) (hc : w.cell? ⟨b, 0, none⟩ = some (.slice a ss.length c)) (hm : ∀ h : 0 < ss.length, ss[0].size = m) :
    Calls Try.prog 11 #[.slice a ss.length c, .func (.func 12) #[] #[.pointer (some ⟨b, 0, none⟩)]] w
      fun e w' => e = .returned (.bool (!rwA m ss)) ∧ Below w.heap.size w w' := by
  go_enter Try.func11, Try.ntmps11
  go_wp2_with fail
  refine (rIndexFunc_any a c ss m b w hrow hlen hc hm).mono ?_
  rintro e x1 ⟨⟨z, rfl, hz⟩, h1⟩
  have H1 := Lib.hid h1; clear h1
  have HZ := Lib.hid hz; clear hz
  go_wp2_with fail
  go_ret
  exact ⟨by rw [HZ.out]; rfl, H1.out⟩
theorem srow_alloc {w : World} {a : Option Addr} {ss : List ByteArray} (h : SRow w a ss) (b : Obj) : SRow (w.alloc b) a ss := h.below ((Below.refl _ w).alloc (Nat.le_refl _) _)
theorem srow_eq {w w' : World} {a : Option Addr} {ss : List ByteArray} (h : SRow w a ss) (he : w.heap = w'.heap) : SRow w' a ss := fun j hj => by
  obtain ⟨g, o, h1, h2⟩ := h j hj
  exact ⟨g, o, h1, by simpa [World.cell?, he] using h2⟩
end Go.Proofs.Ytdogepiddjoemaa
