/-
  Levels and Transitions whole.
-/
import Derived.Test.YtagelndnhpijfaaRnC
namespace Go.Proofs.Ytagelndnhpijfaa
open Go.RowKit

/-- The error of Levels and Transitions. -/
def lvE (start : Int) (l : List UInt8) : Int := if chk 2 l = 0 then (if start = 0 ∨ start = 1 then 0 else 2) else chk 2 l
def lvV (start : Int) (l : List UInt8) : List UInt8 := if lvE start l = 0 then putTo l (lvO (UInt8.ofNat start.toNat) l) l.length else []
def trV (start : Int) (l : List UInt8) : List UInt8 := if lvE start l = 0 then putTo l (trO (UInt8.ofNat start.toNat) l) l.length else []

set_option maxHeartbeats 400000 in
theorem changed_err (start : Int) (s : ByteArray) (f : Value) (w : World) (h : lvE start s.data.toList ≠ 0) :
    Calls Try.prog 42 #[.int .i64 start, .string s, f] w fun e w' => e = .returned (.tuple #[.string ⟨#[]⟩, .int .i64 (lvE start s.data.toList)]) ∧ ∃ n, w' = w.drewN n := by
  by_cases hc : chk 2 s.data.toList = 0
  · have hn : ¬ (start = 0 ∨ start = 1) := fun hs => h (by rw [lvE, if_pos hc, if_pos hs])
    have HE := Lib.hid (show lvE start s.data.toList = 2 by rw [lvE, if_pos hc, if_neg hn])
    have t1 : (start != 0) = true := by rw [bne_iff_ne]; exact fun h => hn (.inl h)
    have t2 : (start != 1) = true := by rw [bne_iff_ne]; exact fun h => hn (.inr h)
    have HC := Lib.hid hc
    clear h hn hc
    go_enter Try.func42, Try.ntmps42
    go_wp2_with fail
    refine (check_any _ _ _).mono ?_
    rintro e w1 ⟨rfl, n, rfl⟩
    rw [HC.out]
    go_wp2_with fail
    go_ret2
    exact ⟨by rw [HE.out]; rfl, _, rfl⟩
  · have HE := Lib.hid (show lvE start s.data.toList = chk 2 s.data.toList from if_neg hc)
    have hb : (chk 2 s.data.toList != 0) = true := by simpa using hc
    clear h hc
    go_enter Try.func42, Try.ntmps42
    go_wp2_with fail
    refine (check_any _ _ _).mono ?_
    rintro e w1 ⟨rfl, n, rfl⟩
    go_wp2_with fail
    go_ret2
    exact ⟨by rw [HE.out]; rfl, _, rfl⟩
theorem lvE_ok {start : Int} {l : List UInt8} (h : lvE start l = 0) : chk 2 l = 0 ∧ (start = 0 ∨ start = 1) := by
  by_cases hc : chk 2 l = 0
  · refine ⟨hc, ?_⟩
    rw [lvE, if_pos hc] at h
    split at h
    · assumption
    · omega
  · rw [lvE, if_neg hc] at h; exact absurd h hc

set_option maxHeartbeats 400000 in
theorem Levels_any (start : Int) (s : ByteArray) (w : World) :
    Calls Try.prog 21 #[.int .i64 start, .string s] w fun e w' => e = .returned (.tuple #[.string ⟨(lvV start s.data.toList).toArray⟩, .int .i64 (lvE start s.data.toList)]) ∧ Below w.heap.size w w' := by
  by_cases h : lvE start s.data.toList = 0
  · obtain ⟨h1, h2⟩ := lvE_ok h
    have HV := Lib.hid (show lvV start s.data.toList = putTo s.data.toList (lvO (UInt8.ofNat start.toNat) s.data.toList) s.size by rw [lvV, if_pos h]; rfl)
    have HE := Lib.hid h; clear h
    rcases h2 with rfl | rfl
    · have HR := Lib.hid (row_new w 5 [.int .u8 ((0 : UInt8).toNat : Int)])
      go_enter Try.func21, Try.ntmps21
      go_wp2_with fail
      refine (changed_lev 0 s 0 w.heap.size _ h1 (.inl rfl) HR.out rfl).mono ?_
      rintro e w1 ⟨rfl, hb⟩
      have HB := Lib.hid hb; clear hb
      go_wp2_with fail
      go_ret2
      exact ⟨by rw [HV.out, HE.out]; rfl, ((Below.refl _ _).alloc (Nat.le_refl _) _).trans HB.out⟩
    · have HR := Lib.hid (row_new w 5 [.int .u8 ((1 : UInt8).toNat : Int)])
      go_enter Try.func21, Try.ntmps21
      go_wp2_with fail
      refine (changed_lev 1 s 1 w.heap.size _ h1 (.inr rfl) HR.out rfl).mono ?_
      rintro e w1 ⟨rfl, hb⟩
      have HB := Lib.hid hb; clear hb
      go_wp2_with fail
      go_ret2
      exact ⟨by rw [HV.out, HE.out]; rfl, ((Below.refl _ _).alloc (Nat.le_refl _) _).trans HB.out⟩
  · have HV := Lib.hid (show lvV start s.data.toList = [] from if_neg h)
    have HC := Lib.hid (fun f w => changed_err start s f w h)
    clear h
    go_enter Try.func21, Try.ntmps21
    go_wp2_with fail
    refine (HC.out _ _).mono ?_
    rintro e w1 ⟨rfl, n, rfl⟩
    go_wp2_with fail
    go_ret2
    exact ⟨by rw [HV.out]; rfl, below_drewN ((Below.refl _ _).alloc (Nat.le_refl _) _) n⟩

set_option maxHeartbeats 400000 in
theorem Transitions_any (start : Int) (s : ByteArray) (w : World) :
    Calls Try.prog 25 #[.int .i64 start, .string s] w fun e w' => e = .returned (.tuple #[.string ⟨(trV start s.data.toList).toArray⟩, .int .i64 (lvE start s.data.toList)]) ∧ Below w.heap.size w w' := by
  by_cases h : lvE start s.data.toList = 0
  · obtain ⟨h1, h2⟩ := lvE_ok h
    have HV := Lib.hid (show trV start s.data.toList = putTo s.data.toList (trO (UInt8.ofNat start.toNat) s.data.toList) s.size by rw [trV, if_pos h]; rfl)
    have HE := Lib.hid h; clear h
    rcases h2 with rfl | rfl
    · have HR := Lib.hid (row_new w 5 [.int .u8 ((0 : UInt8).toNat : Int)])
      go_enter Try.func25, Try.ntmps25
      go_wp2_with fail
      refine (changed_trn 0 s 0 w.heap.size _ h1 (.inl rfl) HR.out rfl).mono ?_
      rintro e w1 ⟨rfl, hb⟩
      have HB := Lib.hid hb; clear hb
      go_wp2_with fail
      go_ret2
      exact ⟨by rw [HV.out, HE.out]; rfl, ((Below.refl _ _).alloc (Nat.le_refl _) _).trans HB.out⟩
    · have HR := Lib.hid (row_new w 5 [.int .u8 ((1 : UInt8).toNat : Int)])
      go_enter Try.func25, Try.ntmps25
      go_wp2_with fail
      refine (changed_trn 1 s 1 w.heap.size _ h1 (.inr rfl) HR.out rfl).mono ?_
      rintro e w1 ⟨rfl, hb⟩
      have HB := Lib.hid hb; clear hb
      go_wp2_with fail
      go_ret2
      exact ⟨by rw [HV.out, HE.out]; rfl, ((Below.refl _ _).alloc (Nat.le_refl _) _).trans HB.out⟩
  · have HV := Lib.hid (show trV start s.data.toList = [] from if_neg h)
    have HC := Lib.hid (fun f w => changed_err start s f w h)
    clear h
    go_enter Try.func25, Try.ntmps25
    go_wp2_with fail
    refine (HC.out _ _).mono ?_
    rintro e w1 ⟨rfl, n, rfl⟩
    go_wp2_with fail
    go_ret2
    exact ⟨by rw [HV.out]; rfl, below_drewN ((Below.refl _ _).alloc (Nat.le_refl _) _) n⟩
end Go.Proofs.Ytagelndnhpijfaa
