/-
  The contracts of Levels and Transitions.
-/
import Derived.Test.YtagelndnhpijfaaRnA
import Derived.Laws.BitsAllLaws
namespace Go.Proofs.Ytagelndnhpijfaa
open Go.RowKit

/-- The letters l, of which the first k are replaced by the letters with the numbers o. -/
def putTo (l : List UInt8) (o : Nat → UInt8) : Nat → List UInt8
  | 0 => l
  | k + 1 => (putTo l o k).set k (48 + o k)
theorem putTo_len (l : List UInt8) (o : Nat → UInt8) : ∀ k, (putTo l o k).length = l.length
  | 0 => rfl
  | k + 1 => by rw [putTo, List.length_set, putTo_len l o k]
theorem putTo_get (l : List UInt8) (o : Nat → UInt8) : ∀ (k j : Nat), (putTo l o k)[j]? = if j < k ∧ j < l.length then some (48 + o j) else l[j]?
  | 0, j => by simp [putTo]
  | k + 1, j => by
    rw [putTo, List.getElem?_set, putTo_len, putTo_get l o k j]
    by_cases h : k = j
    · subst h
      rw [if_pos rfl]
      by_cases h2 : k < l.length
      · rw [if_pos h2, if_pos ⟨by omega, h2⟩]
      · rw [if_neg h2, if_neg (by omega), List.getElem?_eq_none (by omega)]
    · rw [if_neg h]
      by_cases h2 : j < k ∧ j < l.length
      · rw [if_pos h2, if_pos (by omega)]
      · rw [if_neg h2, if_neg (by omega)]
/-- The level behind k letters. -/
def lvS (s : UInt8) (l : List UInt8) : Nat → UInt8
  | 0 => s
  | k + 1 => lvS s l k ^^^ (l.getD k 0 - 48)
/-- The letter ahead of the k-th. -/
def trS (s : UInt8) (l : List UInt8) : Nat → UInt8
  | 0 => s
  | k + 1 => l.getD k 0 - 48
def lvO (s : UInt8) (l : List UInt8) (k : Nat) : UInt8 := lvS s l (k + 1)
def trO (s : UInt8) (l : List UInt8) (k : Nat) : UInt8 := trS s l k ^^^ trS s l (k + 1)
def isZ (c : UInt8) : Bool := c == 0 || c == 1
theorem isZ_of {c : UInt8} (h : isB c = true) : isZ (c - 48) = true := by
  simp only [isB, Bool.or_eq_true, beq_iff_eq] at h
  rcases h with rfl | rfl <;> decide
theorem isZ_xor {a b : UInt8} (h1 : isZ a = true) (h2 : isZ b = true) : isZ (a ^^^ b) = true := by
  simp only [isZ, Bool.or_eq_true, beq_iff_eq] at h1 h2
  rcases h1 with rfl | rfl <;> rcases h2 with rfl | rfl <;> decide
theorem isB_of {c : UInt8} (h : isZ c = true) : isB (48 + c) = true := by
  simp only [isZ, Bool.or_eq_true, beq_iff_eq] at h
  rcases h with rfl | rfl <;> decide
theorem isB_get {l : List UInt8} (h : l.all isB = true) (j : Nat) (hj : j < l.length) : isB (l.getD j 0) = true := by
  rw [List.getD_eq_getElem?_getD, List.getElem?_eq_getElem hj]
  rw [List.all_eq_true] at h
  exact h _ (List.getElem_mem hj)
theorem lvS_z (s : UInt8) (l : List UInt8) (hs : isZ s = true) (hl : l.all isB = true) : ∀ k, k ≤ l.length → isZ (lvS s l k) = true
  | 0, _ => hs
  | k + 1, h => isZ_xor (lvS_z s l hs hl k (by omega)) (isZ_of (isB_get hl k (by omega)))
theorem trS_z (s : UInt8) (l : List UInt8) (hs : isZ s = true) (hl : l.all isB = true) : ∀ k, k ≤ l.length → isZ (trS s l k) = true
  | 0, _ => hs
  | k + 1, h => isZ_of (isB_get hl k (by omega))
theorem isZ_le {c : UInt8} (h : isZ c = true) : c.toNat ≤ 1 := by
  simp only [isZ, Bool.or_eq_true, beq_iff_eq] at h
  rcases h with rfl | rfl <;> decide
theorem add48 {c : UInt8} (h : c.toNat ≤ 1) : ((48 + c).toNat : Int) = 48 + (c.toNat : Int) := by
  rw [UInt8.toNat_add]
  have : (48 : UInt8).toNat = 48 := rfl
  omega
theorem sub48 {c : UInt8} (h : isB c = true) : ((c - 48).toNat : Int) = (c.toNat : Int) - 48 := by
  simp only [isB, Bool.or_eq_true, beq_iff_eq] at h
  rcases h with rfl | rfl <;> rfl
theorem xor_slot (a b : UInt8) : bits .xor .u8 (a.toNat : Int) (b.toNat : Int) = ((a ^^^ b).toNat : Int) := by
  have ha := a.toNat_lt
  have hb := b.toNat_lt
  rw [u8_xor_nat _ _ (by omega) (by omega), UInt8.toNat_xor]
theorem slot48 (a b : UInt8) : (48 + ((a.toNat ^^^ b.toNat : Nat) : Int)) % 256 = ((48 + (a ^^^ b)).toNat : Int) := by
  rw [UInt8.toNat_add, UInt8.toNat_xor]
  have : (48 : UInt8).toNat = 48 := rfl
  rw [this]; omega

set_option maxHeartbeats 400000 in
theorem lev1_any (n s : UInt8) (b : Nat) (w : World) (h : Row w b 5 [.int .u8 (s.toNat : Int)]) :
    Calls Try.prog 43 #[.int .u8 n.toNat, .pointer (some ⟨b, 0, none⟩)] w fun e w' => e = .returned (.int .u8 ((s ^^^ n).toNat : Int)) ∧ w' = w.setCell ⟨b, 0, none⟩ (.int .u8 ((s ^^^ n).toNat : Int)) := by
  have c0 : w.cell? ⟨b, 0, none⟩ = some (.int .u8 (s.toNat : Int)) := h.cell 0
  have f0 := h.frozen 0
  have c1 : (w.setCell ⟨b, 0, none⟩ (.int .u8 ((s ^^^ n).toNat : Int))).cell? ⟨b, 0, none⟩ = some (.int .u8 ((s ^^^ n).toNat : Int)) := (h.set 0 _).cell 0
  have hx := xor_slot s n
  clear h
  go_enter Try.func43, Try.ntmps43
  go_wp2_with fail
  go_ret
  exact ⟨rfl, rfl⟩
set_option maxHeartbeats 400000 in
theorem trn1_any (n s : UInt8) (b : Nat) (w : World) (h : Row w b 5 [.int .u8 (s.toNat : Int)]) :
    Calls Try.prog 48 #[.int .u8 n.toNat, .pointer (some ⟨b, 0, none⟩)] w fun e w' => e = .returned (.int .u8 ((s ^^^ n).toNat : Int)) ∧ w' = w.setCell ⟨b, 0, none⟩ (.int .u8 (n.toNat : Int)) := by
  have c0 : w.cell? ⟨b, 0, none⟩ = some (.int .u8 (s.toNat : Int)) := h.cell 0
  have f0 := h.frozen 0
  have hx := xor_slot s n
  clear h
  go_enter Try.func48, Try.ntmps48
  go_wp2_with fail
  go_ret
  exact ⟨rfl, rfl⟩

set_option maxHeartbeats 1000000 in
set_option maxRecDepth 100000 in
theorem changed_lev (start : Int) (s : ByteArray) (s0 : UInt8) (b : Nat) (w : World) (h : chk 2 s.data.toList = 0) (hst : start = 0 ∨ start = 1) (hb : Row w b 5 [.int .u8 (s0.toNat : Int)]) (hz : isZ s0 = true) :
    Calls Try.prog 42 #[.int .i64 start, .string s, .func (.func 43) #[] #[.pointer (some ⟨b, 0, none⟩)]] w fun e w' => e = .returned (.tuple #[.string ⟨(putTo s.data.toList (lvO s0 s.data.toList) s.size).toArray⟩, .int .i64 0]) ∧ Below b w w' := by
  obtain ⟨hs, ha⟩ := (chk2_iff _).1 h
  have hs' : s.size ≤ 65536 := hs
  have HA := Lib.hid ha
  have HH := Lib.hid h
  have HRB := Lib.hid hb
  have hbl : b < w.heap.size := hb.lt
  have hstr : start = 0 ∨ start = 1 := hst
  clear hs ha h hb hst
  have HST := Lib.hid (show ((start != 0) && (start != 1)) = false by rcases hstr with rfl | rfl <;> rfl)
  rcases hstr with rfl | rfl
  all_goals
    go_enter Try.func42, Try.ntmps42
    go_wp2_with fail
    refine (check_any _ _ _).mono ?_
    rintro e w1 ⟨rfl, n, rfl⟩
    rw [HH.out]
    go_wp2_with (refine wpList_bytes _ rfl _ 9 62 5 rfl Try.underlying9 Try.underlying62 Try.underlying5 s rfl ?_)
    intro w2 c hrow hb2 hz2 hc
    have HR0 := Lib.hid hrow; clear hrow
    have HB0 := Lib.hid hb2
    have HRB2 := Lib.hid ((HRB.out.drewN n).below hb2 (by exact hbl)); clear hb2
    go_wp2_with fail
    go_loopw [27] (fun i wr => ∃ k : Nat, k ≤ s.size ∧ i = .int .i64 k ∧ RowP wr w.heap.size 5 (bts (putTo s.data.toList (lvO s0 s.data.toList) k)) ∧ Row wr b 5 [.int .u8 ((lvS s0 s.data.toList k).toNat : Int)] ∧ Below b w wr) (fun i _ => s.size - (intOf i).toNat)
    case atStart => exact ⟨0, by omega, rfl, HR0.out, HRB2.out, (below_ofN n).trans (HB0.out.mono (Nat.le_of_lt hbl))⟩
    case round =>
      obtain ⟨k, hk, rfl, hrow, hrb, hbb⟩ := hrel
      by_cases hlt : k < s.size
      · have hlk : (bts (putTo s.data.toList (lvO s0 s.data.toList) k)).length = s.size := by rw [bts_len, putTo_len]; rfl
        have c1 : wr.cell? ⟨w.heap.size, k, none⟩ = some (.int .u8 (s[k].toNat : Int)) := by
          rw [hrow.cell k (by omega), bts_get, putTo_get, if_neg (by omega), List.getElem?_eq_getElem (by simpa using hlt)]; rfl
        have HROW := Lib.hid hrow; clear hrow
        have HRB3 := Lib.hid hrb; clear hrb
        have HBB := Lib.hid hbb; clear hbb
        have hib : isB s[k] = true := by have := isB_get HA.out k (by simpa using hlt); rwa [getD_at s k hlt] at this
        have hsub := sub48 hib
        have hb48 : 48 ≤ (s[k].toNat : Int) := by have := isZ_le (isZ_of hib); omega
        have hb49 : (s[k].toNat : Int) ≤ 49 := by have := isZ_le (isZ_of hib); omega
        have hzo : isZ (lvS s0 s.data.toList k ^^^ (s[k] - 48)) = true := isZ_xor (lvS_z s0 s.data.toList hz HA.out k (by have e : s.data.toList.length = s.size := rfl; omega)) (isZ_of hib)
        have hle := isZ_le hzo
        have HST1 := Lib.hid (show lvS s0 s.data.toList (k + 1) = lvS s0 s.data.toList k ^^^ (s[k] - 48) by rw [lvS, getD_at s k hlt])
        have HOU := Lib.hid (show lvO s0 s.data.toList k = lvS s0 s.data.toList k ^^^ (s[k] - 48) by rw [lvO, HST1.out])
        clear hib hzo
        go_wp2_with fail
        rw [← hsub]
        clear hsub
        refine (lev1_any (s[k] - 48) (lvS s0 s.data.toList k) b wr HRB3.out).mono ?_
        rintro e w3 ⟨rfl, rfl⟩
        have hne : b ≠ w.heap.size := by omega
        have f2 : (wr.setCell ⟨b, 0, none⟩ (.int .u8 ((lvS s0 s.data.toList k ^^^ (s[k] - 48)).toNat : Int))).frozen? ⟨w.heap.size, k, none⟩ = false := (HROW.out.set_other ⟨b, 0, none⟩ _ (Ne.symm hne)).frozen k (by omega)
        have c2 : (wr.setCell ⟨b, 0, none⟩ (.int .u8 ((lvS s0 s.data.toList k ^^^ (s[k] - 48)).toNat : Int))).cell? ⟨w.heap.size, k, none⟩ = some (.int .u8 (s[k].toNat : Int)) := by
          rw [(HROW.out.set_other ⟨b, 0, none⟩ (.int .u8 ((lvS s0 s.data.toList k ^^^ (s[k] - 48)).toNat : Int)) (Ne.symm hne)).cell k (by omega), ← c1, HROW.out.cell k (by omega)]
        obtain ⟨wx, hwx⟩ : ∃ wx, wx = wr.setCell ⟨b, 0, none⟩ (.int .u8 ((lvS s0 s.data.toList k ^^^ (s[k] - 48)).toNat : Int)) := ⟨_, rfl⟩
        rw [← hwx] at c2 f2 ⊢
        have HROW2 : Hid (RowP wx w.heap.size 5 (bts (putTo s.data.toList (lvO s0 s.data.toList) k))) := Lib.hid (by rw [hwx]; exact HROW.out.set_other ⟨b, 0, none⟩ _ (Ne.symm hne))
        have HRB4 : Hid (Row wx b 5 [.int .u8 ((lvS s0 s.data.toList (k + 1)).toNat : Int)]) := Lib.hid (by rw [hwx, HST1.out]; exact HRB3.out.set 0 _)
        have HBB2 : Hid (Below b w wx) := Lib.hid (by rw [hwx]; exact HBB.out.setCell (p := ⟨b, 0, none⟩) (Nat.le_refl _) _)
        clear hwx c1
        go_wp2_with fail
        go_roundw
        case rel =>
          refine ⟨k + 1, by omega, by go_num, ?_, HRB4.out.set_other _ _ hne, HBB2.out.setCell (p := ⟨w.heap.size, k, none⟩) (Nat.le_of_lt hbl) _⟩
          have := HROW2.out.set k (.int .u8 ((48 + lvO s0 s.data.toList k).toNat : Int)) (by omega)
          rw [bts_set] at this
          rw [putTo]
          rw [HOU.out] at this
          rw [HOU.out, slot48]
          exact this
        case measure => simp [intOf]; omega
      · obtain rfl : k = s.size := by omega
        have hlt' : decide ((s.size : Int) < (s.size : Int)) = false := by simp
        have hcv := run_string_rowP (P := Try.prog) (w := wr) (src := 62) (dst := 9) (c := c) (n := s.size) Try.underlying62 Try.underlying5 Try.underlying9 hrow (by rw [putTo_len]; rfl)
        have HB := Lib.hid hbb; clear hbb hrow hrb
        go_wp2_with fail
        go_ret2
        exact ⟨rfl, HB.out⟩

set_option maxHeartbeats 1000000 in
set_option maxRecDepth 100000 in
theorem changed_trn (start : Int) (s : ByteArray) (s0 : UInt8) (b : Nat) (w : World) (h : chk 2 s.data.toList = 0) (hst : start = 0 ∨ start = 1) (hb : Row w b 5 [.int .u8 (s0.toNat : Int)]) (hz : isZ s0 = true) :
    Calls Try.prog 42 #[.int .i64 start, .string s, .func (.func 48) #[] #[.pointer (some ⟨b, 0, none⟩)]] w fun e w' => e = .returned (.tuple #[.string ⟨(putTo s.data.toList (trO s0 s.data.toList) s.size).toArray⟩, .int .i64 0]) ∧ Below b w w' := by
  obtain ⟨hs, ha⟩ := (chk2_iff _).1 h
  have hs' : s.size ≤ 65536 := hs
  have HA := Lib.hid ha
  have HH := Lib.hid h
  have HRB := Lib.hid hb
  have hbl : b < w.heap.size := hb.lt
  have hstr : start = 0 ∨ start = 1 := hst
  clear hs ha h hb hst
  have HST := Lib.hid (show ((start != 0) && (start != 1)) = false by rcases hstr with rfl | rfl <;> rfl)
  rcases hstr with rfl | rfl
  all_goals
    go_enter Try.func42, Try.ntmps42
    go_wp2_with fail
    refine (check_any _ _ _).mono ?_
    rintro e w1 ⟨rfl, n, rfl⟩
    rw [HH.out]
    go_wp2_with (refine wpList_bytes _ rfl _ 9 62 5 rfl Try.underlying9 Try.underlying62 Try.underlying5 s rfl ?_)
    intro w2 c hrow hb2 hz2 hc
    have HR0 := Lib.hid hrow; clear hrow
    have HB0 := Lib.hid hb2
    have HRB2 := Lib.hid ((HRB.out.drewN n).below hb2 (by exact hbl)); clear hb2
    go_wp2_with fail
    go_loopw [27] (fun i wr => ∃ k : Nat, k ≤ s.size ∧ i = .int .i64 k ∧ RowP wr w.heap.size 5 (bts (putTo s.data.toList (trO s0 s.data.toList) k)) ∧ Row wr b 5 [.int .u8 ((trS s0 s.data.toList k).toNat : Int)] ∧ Below b w wr) (fun i _ => s.size - (intOf i).toNat)
    case atStart => exact ⟨0, by omega, rfl, HR0.out, HRB2.out, (below_ofN n).trans (HB0.out.mono (Nat.le_of_lt hbl))⟩
    case round =>
      obtain ⟨k, hk, rfl, hrow, hrb, hbb⟩ := hrel
      by_cases hlt : k < s.size
      · have hlk : (bts (putTo s.data.toList (trO s0 s.data.toList) k)).length = s.size := by rw [bts_len, putTo_len]; rfl
        have c1 : wr.cell? ⟨w.heap.size, k, none⟩ = some (.int .u8 (s[k].toNat : Int)) := by
          rw [hrow.cell k (by omega), bts_get, putTo_get, if_neg (by omega), List.getElem?_eq_getElem (by simpa using hlt)]; rfl
        have HROW := Lib.hid hrow; clear hrow
        have HRB3 := Lib.hid hrb; clear hrb
        have HBB := Lib.hid hbb; clear hbb
        have hib : isB s[k] = true := by have := isB_get HA.out k (by simpa using hlt); rwa [getD_at s k hlt] at this
        have hsub := sub48 hib
        have hb48 : 48 ≤ (s[k].toNat : Int) := by have := isZ_le (isZ_of hib); omega
        have hb49 : (s[k].toNat : Int) ≤ 49 := by have := isZ_le (isZ_of hib); omega
        have hzo : isZ (trS s0 s.data.toList k ^^^ (s[k] - 48)) = true := isZ_xor (trS_z s0 s.data.toList hz HA.out k (by have e : s.data.toList.length = s.size := rfl; omega)) (isZ_of hib)
        have hle := isZ_le hzo
        have HST1 := Lib.hid (show trS s0 s.data.toList (k + 1) = (s[k] - 48) by rw [trS, getD_at s k hlt])
        have HOU := Lib.hid (show trO s0 s.data.toList k = trS s0 s.data.toList k ^^^ (s[k] - 48) by rw [trO, HST1.out])
        clear hib hzo
        go_wp2_with fail
        rw [← hsub]
        clear hsub
        refine (trn1_any (s[k] - 48) (trS s0 s.data.toList k) b wr HRB3.out).mono ?_
        rintro e w3 ⟨rfl, rfl⟩
        have hne : b ≠ w.heap.size := by omega
        have f2 : (wr.setCell ⟨b, 0, none⟩ (.int .u8 (((s[k] - 48)).toNat : Int))).frozen? ⟨w.heap.size, k, none⟩ = false := (HROW.out.set_other ⟨b, 0, none⟩ _ (Ne.symm hne)).frozen k (by omega)
        have c2 : (wr.setCell ⟨b, 0, none⟩ (.int .u8 (((s[k] - 48)).toNat : Int))).cell? ⟨w.heap.size, k, none⟩ = some (.int .u8 (s[k].toNat : Int)) := by
          rw [(HROW.out.set_other ⟨b, 0, none⟩ (.int .u8 (((s[k] - 48)).toNat : Int)) (Ne.symm hne)).cell k (by omega), ← c1, HROW.out.cell k (by omega)]
        obtain ⟨wx, hwx⟩ : ∃ wx, wx = wr.setCell ⟨b, 0, none⟩ (.int .u8 (((s[k] - 48)).toNat : Int)) := ⟨_, rfl⟩
        rw [← hwx] at c2 f2 ⊢
        have HROW2 : Hid (RowP wx w.heap.size 5 (bts (putTo s.data.toList (trO s0 s.data.toList) k))) := Lib.hid (by rw [hwx]; exact HROW.out.set_other ⟨b, 0, none⟩ _ (Ne.symm hne))
        have HRB4 : Hid (Row wx b 5 [.int .u8 ((trS s0 s.data.toList (k + 1)).toNat : Int)]) := Lib.hid (by rw [hwx, HST1.out]; exact HRB3.out.set 0 _)
        have HBB2 : Hid (Below b w wx) := Lib.hid (by rw [hwx]; exact HBB.out.setCell (p := ⟨b, 0, none⟩) (Nat.le_refl _) _)
        clear hwx c1
        go_wp2_with fail
        go_roundw
        case rel =>
          refine ⟨k + 1, by omega, by go_num, ?_, HRB4.out.set_other _ _ hne, HBB2.out.setCell (p := ⟨w.heap.size, k, none⟩) (Nat.le_of_lt hbl) _⟩
          have := HROW2.out.set k (.int .u8 ((48 + trO s0 s.data.toList k).toNat : Int)) (by omega)
          rw [bts_set] at this
          rw [putTo]
          rw [HOU.out] at this
          rw [HOU.out, slot48]
          exact this
        case measure => simp [intOf]; omega
      · obtain rfl : k = s.size := by omega
        have hlt' : decide ((s.size : Int) < (s.size : Int)) = false := by simp
        have hcv := run_string_rowP (P := Try.prog) (w := wr) (src := 62) (dst := 9) (c := c) (n := s.size) Try.underlying62 Try.underlying5 Try.underlying9 hrow (by rw [putTo_len]; rfl)
        have HB := Lib.hid hbb; clear hbb hrow hrb
        go_wp2_with fail
        go_ret2
        exact ⟨rfl, HB.out⟩
end Go.Proofs.Ytagelndnhpijfaa
