/-
  The contract of watermark.Add: the bitwise sum of two words.
-/
import Derived.Test.YtdogepiddjoemaaChk
import Derived.Test.YtdogepiddjoemaaMem
import Derived.Test.YtdogepiddjoemaaByt
import Derived.Test.YtdogepiddjoemaaQt
import Derived.Laws.BitsAllLaws
namespace Go.Proofs.Ytdogepiddjoemaa
open Go.RowKit

def chk2 (m r : List UInt8) : Int := if chk 2 m = 0 then chk 2 r else chk 2 m

theorem drewN_drewN (w : World) (a b : Nat) : (w.drewN a).drewN b = w.drewN (a + b) := by
  simp [World.drewN, Nat.add_comm, Nat.add_left_comm]

set_option maxHeartbeats 400000 in
theorem wcheck_any (m r : ByteArray) (w : World) :
    Calls Try.prog 19 #[.string m, .string r] w fun e w' => e = .returned (.int .i64 (chk2 m.data.toList r.data.toList)) ∧ ∃ n, w' = w.drewN n := by
  by_cases h : chk 2 m.data.toList = 0
  · have hc := Lib.hid (show chk2 m.data.toList r.data.toList = chk 2 r.data.toList by rw [chk2, if_pos h])
    go_enter Try.func19, Try.ntmps19
    go_wp2_with (go_at_call 28; refine (check_any _ _ _).mono ?_; rintro e w' ⟨rfl, n, rfl⟩; try rw [h])
    go_ret
    refine ⟨?_, _, rfl⟩
    rw [hc.out]; rfl
  · have hb : (chk 2 m.data.toList == 0) = false := by simpa using h
    have hc := Lib.hid (show chk2 m.data.toList r.data.toList = chk 2 m.data.toList by rw [chk2, if_neg h])
    go_enter Try.func19, Try.ntmps19
    go_wp2_with (go_at_call 28; refine (check_any _ _ _).mono ?_; rintro e w' ⟨rfl, n, rfl⟩)
    go_ret
    refine ⟨?_, _, rfl⟩
    rw [hc.out]; rfl

theorem chk_le {q : Int} {l : List UInt8} (h : chk q l = 0) : l.length ≤ 65536 := by
  unfold chk at h
  split at h
  · omega
  · split at h
    · omega
    · omega

def addB (a b : UInt8) : UInt8 := 48 + ((a ^^^ b) &&& 1)
/-- The letters of b, to which the letters of m are added up to the k-th. -/
def addTo (m l : List UInt8) : Nat → List UInt8
  | 0 => l
  | k + 1 => (addTo m l k).set k (addB (l.getD k 0) (m.getD k 0))
theorem addTo_len (m l : List UInt8) : ∀ k, (addTo m l k).length = l.length
  | 0 => rfl
  | k + 1 => by rw [addTo, List.length_set, addTo_len m l k]
theorem addTo_get (m l : List UInt8) : ∀ (k j : Nat), (addTo m l k)[j]? = if j < k ∧ j < l.length then some (addB (l.getD j 0) (m.getD j 0)) else l[j]?
  | 0, j => by simp [addTo]
  | k + 1, j => by
    rw [addTo, List.getElem?_set, addTo_len, addTo_get m l k j]
    by_cases h : k = j
    · subst h
      rw [if_pos rfl]
      by_cases h2 : k < l.length
      · rw [if_pos h2, if_pos ⟨by omega, h2⟩]
      · rw [if_neg h2, if_neg (by omega), List.getElem?_eq_none (by omega)]
    · rw [if_neg h]
      by_cases h2 : j < k ∧ j < l.length
      · rw [if_pos h2, if_pos (by omega)]
      · rw [if_neg h2, if_neg (by omega)]
def addS (m l : List UInt8) : List UInt8 := addTo m l l.length
theorem addS_len (m l : List UInt8) : (addS m l).length = l.length := addTo_len _ _ _
theorem addS_get (m l : List UInt8) (j : Nat) (h : j < l.length) : (addS m l)[j]? = some (addB (l.getD j 0) (m.getD j 0)) := by
  rw [addS, addTo_get, if_pos ⟨h, h⟩]

def adE (m l : List UInt8) : Int := if chk2 m l = 0 then (if m.length = l.length then 0 else 11) else chk2 m l
def adV (m l : List UInt8) : List UInt8 := if adE m l = 0 then addS m l else []

theorem add_slot (a b : UInt8) : IntKind.u8.wrap (48 + bits .and .u8 (bits .xor .u8 (a.toNat : Int) (b.toNat : Int)) 1) = ((addB a b).toNat : Int) := by
  have ha := a.toNat_lt
  have hb := b.toNat_lt
  rw [u8_xor_nat _ _ (by omega) (by omega)]
  have hx : a.toNat ^^^ b.toNat < 2 ^ 8 := Nat.xor_lt_two_pow (by omega) (by omega)
  rw [show (1 : Int) = ((1 : Nat) : Int) from rfl, u8_and_nat _ _ (by omega) (by omega)]
  rw [addB, UInt8.toNat_add, UInt8.toNat_and, UInt8.toNat_xor, IntKind.wrap_u8]
  have e : (48 : UInt8).toNat = 48 := rfl
  have e1 : (1 : UInt8).toNat = 1 := rfl
  rw [e, e1]
  omega

set_option maxHeartbeats 1000000 in
set_option maxRecDepth 100000 in
theorem add_ok (m s : ByteArray) (w : World) (h : chk2 m.data.toList s.data.toList = 0) (hl : m.size = s.size) (hs : s.size ≤ 65536) :
    Calls Try.prog 10 #[.string m, .string s] w fun e w' => e = .returned (.tuple #[.string ⟨(addS m.data.toList s.data.toList).toArray⟩, .int .i64 0]) ∧ Below w.heap.size w w' := by
  have hlen := Lib.hid hl
  have hne : ((m.size : Int) != (s.size : Int)) = false := by simp [hl]
  clear hl
  go_enter Try.func10, Try.ntmps10
  go_wp2_with fail
  refine (wcheck_any _ _ _).mono ?_
  rintro e w1 ⟨rfl, n, rfl⟩
  rw [h]
  clear h
  go_wp2_with (refine wpList_bytes _ rfl _ 9 31 5 rfl Try.underlying9 Try.underlying31 Try.underlying5 s rfl ?_)
  intro w2 c hrow hb hz hc
  have HR0 := Lib.hid hrow; clear hrow
  have HB0 := Lib.hid hb; clear hb
  have HZ := Lib.hid hz; clear hz
  go_wp2_with fail
  go_loopw [8, 24] (fun _ i wr => ∃ k : Nat, k ≤ s.size ∧ i = .int .i64 k ∧ RowP wr w.heap.size 5 (bts (addTo m.data.toList s.data.toList k)) ∧ Below w.heap.size w wr) (fun _ i _ => s.size - (intOf i).toNat)
  case atStart => exact ⟨0, by omega, rfl, HR0.out, (below_ofN n).trans HB0.out⟩
  case round =>
    obtain ⟨k, hk, rfl, hrow, hb⟩ := hrel
    by_cases hlt : k < s.size
    · have hkm : k < m.size := by rw [hlen.out]; exact hlt
      have hlk : (bts (addTo m.data.toList s.data.toList k)).length = s.size := by rw [bts_len, addTo_len]; rfl
      have c1 : wr.cell? ⟨w.heap.size, k, none⟩ = some (.int .u8 (s[k].toNat : Int)) := by
        rw [hrow.cell k (by omega), bts_get, addTo_get, if_neg (by omega), List.getElem?_eq_getElem (by simpa using hlt)]; rfl
      have f1 : wr.frozen? ⟨w.heap.size, k, none⟩ = false := hrow.frozen k (by omega)
      have HS := Lib.hid (hrow.set k (.int .u8 ((addB s[k] m[k]).toNat : Int)) (by omega))
      have HB := Lib.hid hb; clear hb hrow hlk
      have hslot := add_slot s[k] m[k]
      go_wp2_with fail
      refine wp_region_quiet_tail 13 (by kernel_rfl) (by kernel_rfl) ?_
      simp only [List.take_succ_cons, List.take_zero, List.drop_succ_cons, List.drop_zero]
      repeat (go_big_quiet_step (fail))
      refine wpQuiet_nil ?_
      rintro _ ⟨nq, rfl⟩
      go_wp2_with fail
      go_roundw
      case rel =>
        refine ⟨k + 1, by omega, by go_num, ?_, (below_drewN HB.out _).setCell (p := ⟨w.heap.size, k, none⟩) (Nat.le_refl _) _⟩
        have := HS.out
        rw [bts_set] at this
        rw [addTo]
        have e1 : s.data.toList.getD k 0 = s[k] := by rw [List.getD_eq_getElem?_getD, List.getElem?_eq_getElem (by simpa using hlt)]; rfl
        have e2 : m.data.toList.getD k 0 = m[k] := by rw [List.getD_eq_getElem?_getD, List.getElem?_eq_getElem (by simpa using hkm)]; rfl
        rw [e1, e2]
        exact this
      case measure => simp [intOf]; omega
    · obtain rfl : k = s.size := by omega
      have hlt' : decide ((s.size : Int) < (s.size : Int)) = false := by simp
      have hcv := run_string_rowP (P := Try.prog) (w := wr) (src := 31) (dst := 9) (c := c) (n := s.size) Try.underlying31 Try.underlying5 Try.underlying9 hrow (by rw [addTo_len]; rfl)
      have HB := Lib.hid hb; clear hb hrow
      go_wp2_with fail
      go_ret2
      exact ⟨rfl, HB.out⟩

end Go.Proofs.Ytdogepiddjoemaa
