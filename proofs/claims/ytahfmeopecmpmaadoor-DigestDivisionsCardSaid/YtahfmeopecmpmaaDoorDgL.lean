/-
  Slices of strings; binary words.
-/
import Derived.Test.YtahfmeopecmpmaaDoorDgK
namespace Go.Proofs.YtahfmeopecmpmaaDoor
open Go.RowKit

/-- The slice at a holds these strings. -/
def SRow (w : World) (a : Option Addr) (ss : List ByteArray) : Prop :=
  ∀ (j : Nat) (hj : j < ss.length), ∃ g o, a = some ⟨g, o, none⟩ ∧ w.cell? ⟨g, o + j, none⟩ = some (.string ss[j])
theorem cell_lt {w : World} {g j : Nat} {v : Value} (h : w.cell? ⟨g, j, none⟩ = some v) : g < w.heap.size := by
  rcases Nat.lt_or_ge g w.heap.size with h' | h'
  · exact h'
  · simp [World.cell?, Array.getElem?_eq_none h'] at h
theorem SRow.below {w w' : World} {a : Option Addr} {ss : List ByteArray} (h : SRow w a ss) (hb : Below w.heap.size w w') : SRow w' a ss := fun j hj => by
  obtain ⟨g, o, h1, h2⟩ := h j hj
  exact ⟨g, o, h1, cell_below h2 hb (cell_lt h2)⟩
def bnT (n : Nat) (l : List UInt8) : Bool := decide (l.length ≤ n) && decide (chk 2 l = 0)
theorem bnT_iff {n : Nat} (hn : n ≤ 65536) {l : List UInt8} : bnT n l = true ↔ l.length ≤ n ∧ l.all isB = true := by
  rw [bnT, Bool.and_eq_true, decide_eq_true_eq, decide_eq_true_eq, chk2_iff]
  exact ⟨fun h => ⟨h.1, h.2.2⟩, fun h => ⟨h.1, by omega, h.2⟩⟩
def bnA (n : Nat) (ss : List ByteArray) : Bool := ss.all fun s => bnT n s.data.toList

set_option maxHeartbeats 400000 in
theorem notBin_any (s : ByteArray) (n b : Nat) (w : World) (hc : w.cell? ⟨b, 0, none⟩ = some (.int .i64 (n : Int))) :
    Calls Tryd.prog 46 #[.string s, .pointer (some ⟨b, 0, none⟩)] w fun e w' => e = .returned (.bool (!bnT n s.data.toList)) ∧ Below w.heap.size w w' := by
  have e1 : s.data.toList.length = s.size := rfl
  by_cases hn : s.size ≤ n
  · have hd : decide ((n : Int) < (s.size : Int)) = false := by simp; omega
    have hd' : decide (n < s.size) = false := by simp; omega
    by_cases h : chk 2 s.data.toList = 0
    · have HV := Lib.hid (show bnT n s.data.toList = true by rw [bnT, decide_eq_true (by omega), decide_eq_true h]; rfl)
      have H := Lib.hid h; clear h e1
      go_enter Tryd.func46, Tryd.ntmps46
      go_wp2_with fail
      refine (check_any _ _ _).mono ?_
      rintro e w1 ⟨rfl, k, rfl⟩
      rw [H.out]
      go_wp2_with fail
      go_ret
      exact ⟨by rw [HV.out]; rfl, below_drewN (Below.refl _ _) _⟩
    · have HV := Lib.hid (show bnT n s.data.toList = false by rw [bnT, decide_eq_false h, Bool.and_false])
      have hb : (chk 2 s.data.toList != 0) = true := by simpa using h
      clear h e1
      go_enter Tryd.func46, Tryd.ntmps46
      go_wp2_with fail
      refine (check_any _ _ _).mono ?_
      rintro e w1 ⟨rfl, k, rfl⟩
      go_wp2_with fail
      go_ret
      exact ⟨by rw [HV.out]; rfl, below_drewN (Below.refl _ _) _⟩
  · have hd : decide ((n : Int) < (s.size : Int)) = true := by simp; omega
    have hd' : decide (n < s.size) = true := by simp; omega
    have HV := Lib.hid (show bnT n s.data.toList = false by rw [bnT, decide_eq_false (by omega)]; rfl)
    clear e1
    go_enter Tryd.func46, Tryd.ntmps46
    go_wp2_with fail
    go_ret
    exact ⟨by rw [HV.out]; rfl, Below.refl _ _⟩

set_option maxHeartbeats 1000000 in
set_option maxRecDepth 100000 in
theorem indexFunc_any (a : Option Addr) (c : Nat) (ss : List ByteArray) (n b : Nat) (w : World) (hrow : SRow w a ss) (hlen : ss.length ≤ 9223372036854775807) (hc : w.cell? ⟨b, 0, none⟩ = some (.int .i64 (n : Int))) :
    Calls Tryd.prog 67 #[.slice a ss.length c, .func (.func 46) #[] #[.pointer (some ⟨b, 0, none⟩)]] w
      fun e w' => (∃ z : Int, e = .returned (.int .i64 z) ∧ decide (0 ≤ z) = !bnA n ss) ∧ Below w.heap.size w w' := by
  have HR := Lib.hid hrow; clear hrow
  have HC := Lib.hid hc; clear hc
  go_enter Tryd.func67, Tryd.ntmps67
  go_wp2_with fail
  go_loopw [8] (fun i wr => ∃ k : Nat, k ≤ ss.length ∧ i = .int .i64 k ∧ bnA n (ss.take k) = true ∧ Below w.heap.size w wr) (fun i _ => ss.length - (intOf i).toNat)
  case atStart => exact ⟨0, by omega, rfl, rfl, Below.refl _ _⟩
  case round =>
    obtain ⟨k, hk, rfl, hall, hb⟩ := hrel
    have HB := Lib.hid hb
    have HA := Lib.hid hall; clear hall
    by_cases hlt : k < ss.length
    · obtain ⟨g, o, rfl, hc⟩ := (HR.out.below hb) k hlt
      have HC2 := Lib.hid (cell_below HC.out hb (cell_lt HC.out))
      clear hb
      go_wp2_with fail
      refine (notBin_any _ n b _ HC2.out).mono ?_
      rintro e x1 ⟨rfl, h1⟩
      have H1 := Lib.hid (HB.out.trans (h1.mono HB.out.size)); clear h1
      cases hbt : bnT n ss[k].data.toList with
      | true =>
        have HBT := Lib.hid hbt; clear hbt
        go_wp2_with fail
        go_roundw
        case rel => exact ⟨k + 1, by omega, by go_num, by
          have := HA.out
          unfold bnA at this ⊢
          rw [List.take_add_one, List.getElem?_eq_getElem hlt, Option.toList_some, List.all_append, this]
          simp [HBT.out], H1.out⟩
        case measure => simp [intOf]; omega
      | false =>
        have HBT := Lib.hid (show bnA n ss = false by
          unfold bnA
          rw [Bool.eq_false_iff]
          intro h
          rw [List.all_eq_true] at h
          have := h _ (List.getElem_mem hlt)
          rw [hbt] at this; cases this)
        clear hbt
        go_wp2_with fail
        go_ret
        exact ⟨⟨_, rfl, by rw [HBT.out]; simp⟩, H1.out⟩
    · obtain rfl : k = ss.length := by omega
      have hd : decide ((ss.length : Int) < (ss.length : Int)) = false := by simp
      have HBA := Lib.hid (show bnA n ss = true by have := HA.out; rwa [List.take_length] at this)
      clear hb
      go_wp2_with fail
      go_ret
      exact ⟨⟨_, rfl, by rw [HBA.out]; rfl⟩, HB.out⟩

theorem containsFunc_any (a : Option Addr) (c : Nat) (ss : List ByteArray) (n b : Nat) (w : World) (hrow : SRow w a ss) (hlen : ss.length ≤ 9223372036854775807) (hc : w.cell? ⟨b, 0, none⟩ = some (.int .i64 (n : Int))) :
    Calls Tryd.prog 45 #[.slice a ss.length c, .func (.func 46) #[] #[.pointer (some ⟨b, 0, none⟩)]] w
      fun e w' => e = .returned (.bool (!bnA n ss)) ∧ Below w.heap.size w w' := by
  go_enter Tryd.func45, Tryd.ntmps45
  go_wp2_with fail
  refine (indexFunc_any a c ss n b w hrow hlen hc).mono ?_
  rintro e x1 ⟨⟨z, rfl, hz⟩, h1⟩
  have H1 := Lib.hid h1; clear h1
  have HZ := Lib.hid hz; clear hz
  go_wp2_with fail
  go_ret
  exact ⟨by rw [HZ.out]; rfl, H1.out⟩
theorem srow_alloc {w : World} {a : Option Addr} {ss : List ByteArray} (h : SRow w a ss) (b : Obj) : SRow (w.alloc b) a ss := h.below ((Below.refl _ w).alloc (Nat.le_refl _) _)
theorem binary_any (n : Nat) (a : Option Addr) (c : Nat) (ss : List ByteArray) (w : World) (hrow : SRow w a ss) (hlen : ss.length ≤ 9223372036854775807) :
    Calls Tryd.prog 22 #[.int .i64 (n : Int), .slice a ss.length c] w
      fun e w' => e = .returned (.bool (bnA n ss)) ∧ Below w.heap.size w w' := by
  have hmf : ∀ fn first cap w, (Instr.makeFunc fn first cap).run Tryd.prog w = .ok (.func fn first cap) w := fun _ _ _ _ => rfl
  have HB1 := Lib.hid (Boxed.new w 3 (.int .i64 (n : Int)))
  have HR := Lib.hid (srow_alloc hrow (.cells #[.int .i64 (n : Int)] 3))
  have HL := Lib.hid ((Below.refl w.heap.size w).alloc (Nat.le_refl _) (.cells #[.int .i64 (n : Int)] 3))
  clear hrow
  go_enter Tryd.func22, Tryd.ntmps22
  go_wp2_with fail
  refine (containsFunc_any a c ss n _ _ HR.out hlen HB1.out.cell).mono ?_
  rintro e x1 ⟨rfl, h1⟩
  have H1 := Lib.hid (HL.out.trans (h1.mono HL.out.size)); clear h1
  go_wp2_with fail
  go_ret
  exact ⟨rfl, H1.out⟩
end Go.Proofs.YtahfmeopecmpmaaDoor
