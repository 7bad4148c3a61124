/-
  The contracts of word.Check and of the reference Check and Digit: each returns what the plain function chk, or digit, computes, for any argument; memory is as it was.
-/
import Derived.Test.YtagelndnhpijfaaRows
import Derived.Test.YtagelndnhpijfaaShelf
import Derived.WalkKit
import Derived.WalkSpells
import Derived.WalkLawsBesides
import Derived.Deep.QuietTactic
import Derived.BigQuiet
import Derived.Lib.Hide
namespace Go.Proofs.Ytagelndnhpijfaa
open Go.RowKit

def letters : List UInt8 := [48, 49, 50, 51, 52, 53, 54, 55, 56, 57, 97, 98, 99, 100, 101, 102]
def digit (c : UInt8) : Int := Lib.indexByte letters c
def isLet (q : Int) (c : UInt8) : Bool := decide (0 ≤ digit c) && decide (digit c < q)
def chk (q : Int) (l : List UInt8) : Int := if q < 1 ∨ 16 < q then 12 else if 65536 < l.length then 4 else if l.all (isLet q) then 0 else 13

theorem indexByte_at (c : UInt8) : ∀ (l : List UInt8) (k : Nat), l[k]? = some c → (∀ j, j < k → l[j]? ≠ some c) → Lib.indexByte l c = k
  | [], k, h, _ => by simp at h
  | b :: l, 0, h, _ => by simp at h; simp [Lib.indexByte, h]
  | b :: l, k + 1, h, h2 => by
    have hb : (b == c) = false := by have := h2 0 (by omega); simpa using this
    have ih := indexByte_at c l k (by simpa using h) (fun j hj => by have := h2 (j + 1) (by omega); simpa using this)
    have : (((k : Nat) : Int) == -1) = false := by rw [beq_eq_false_iff_ne]; omega
    simp [Lib.indexByte, hb, ih, this]
theorem indexByte_none (c : UInt8) : ∀ (l : List UInt8), (∀ j, j < l.length → l[j]? ≠ some c) → Lib.indexByte l c = -1
  | [], _ => rfl
  | b :: l, h => by
    have hb : (b == c) = false := by have := h 0 (by simp); simpa using this
    have ih := indexByte_none c l (fun j hj => by have := h (j + 1) (by simp; omega); simpa using this)
    simp [Lib.indexByte, hb, ih]
theorem indexByte_bd (c : UInt8) : ∀ (l : List UInt8), -1 ≤ Lib.indexByte l c ∧ Lib.indexByte l c < l.length
  | [] => by simp [Lib.indexByte]
  | b :: l => by
    have ih := indexByte_bd c l
    simp only [Lib.indexByte]
    split
    · simp
    · split
      · simp; omega
      · rename_i h; simp at h; simp; omega
theorem indexByte_take (c : UInt8) : ∀ (l : List UInt8) (n : Nat), (Lib.indexByte (l.take n) c < 0) = ¬ (0 ≤ Lib.indexByte l c ∧ Lib.indexByte l c < n)
  | [], n => by simp [Lib.indexByte]
  | b :: l, 0 => by simp [Lib.indexByte]
  | b :: l, n + 1 => by
    have ih := indexByte_take c l n
    have h1 := indexByte_bd c l
    have h2 := indexByte_bd c (l.take n)
    simp only [List.take_succ_cons, Lib.indexByte]
    by_cases hb : (b == c) = true
    · simp [hb]
    · simp only [hb]
      rw [eq_iff_iff] at ih ⊢
      simp only [Bool.false_eq_true, if_false, beq_iff_eq]
      split <;> split <;> omega

theorem all_take_succ (p : UInt8 → Bool) (l : List UInt8) (k : Nat) (h : k < l.length) : (l.take (k + 1)).all p = ((l.take k).all p && p l[k]) := by
  rw [List.take_succ_eq_append_getElem h, List.all_append]; simp

set_option maxHeartbeats 400000 in
theorem known_yes (q : Int) (w : World) (h1 : 1 ≤ q) (h2 : q ≤ 16) :
    Calls Try.prog 57 #[.int .i64 q] w fun e w' => e = .returned (.bool true) ∧ w = w' := by
  go_enter Try.func57, Try.ntmps57
  go_wp2
  go_ret
  exact ⟨rfl, rfl⟩
set_option maxHeartbeats 400000 in
theorem known_no (q : Int) (w : World) (h : q < 1 ∨ 16 < q) :
    Calls Try.prog 57 #[.int .i64 q] w fun e w' => e = .returned (.bool false) ∧ w = w' := by
  rcases h with h | h
  · go_enter Try.func57, Try.ntmps57
    go_wp2
    go_ret
    exact ⟨rfl, rfl⟩
  · have h' : decide (q ≤ 16) = false := by simp; omega
    go_enter Try.func57, Try.ntmps57
    go_wp2
    go_ret
    exact ⟨rfl, rfl⟩

set_option maxHeartbeats 400000 in
theorem digit_any (c : UInt8) (w : World) :
    Calls Try.prog 41 #[.int .u8 c.toNat] w fun e w' => e = .returned (.int .i64 (digit c)) ∧ w = w' := by
  go_enter Try.func41, Try.ntmps41
  go_wp2
  go_loop [3] (fun i => ∃ k : Nat, k ≤ 16 ∧ i = .int .i64 k ∧ ∀ j, j < k → letters[j]? ≠ some c) (fun i => 16 - (intOf i).toNat)
  case atStart => exact ⟨0, by omega, rfl, by intro j hj; omega⟩
  case round =>
    obtain ⟨k, hk, rfl, hl⟩ := hrel
    have HL := Lib.hid hl; clear hl
    by_cases hlt : k < 16
    · go_wp2
      · have h : ((letters[k]'hlt).toNat : Int) == c.toNat := by assumption
        go_ret
        refine ⟨?_, rfl⟩
        have h' : letters[k]? = some c := by
          rw [List.getElem?_eq_getElem hlt]; congr 1; rw [← UInt8.toNat_inj]; have := eq_of_beq h; omega
        rw [digit, indexByte_at c letters k h' HL.out]; rfl
      · have h : (((letters[k]'hlt).toNat : Int) == c.toNat) = false := by assumption
        go_round
        case rel =>
          refine ⟨k + 1, by omega, by go_num, ?_⟩
          intro j hj
          by_cases hjk : j < k
          · exact HL.out j hjk
          · obtain rfl : j = k := by omega
            rw [List.getElem?_eq_getElem hlt]; intro hc; simp only [Option.some.injEq] at hc; rw [hc] at h; simp at h
        case measure => simp [intOf]; omega
    · go_wp2
      go_ret
      have := HL.out
      refine ⟨?_, rfl⟩
      rw [digit, indexByte_none c letters (fun j hj => this j (by simp [letters] at hj; omega))]; rfl

theorem isLet_iff (q : Int) (c : UInt8) : isLet q c = true ↔ 0 ≤ Lib.indexByte letters c ∧ Lib.indexByte letters c < q := by
  unfold isLet digit; rw [Bool.and_eq_true, decide_eq_true_eq, decide_eq_true_eq]
theorem chk_q {q : Int} (l : List UInt8) (h : q < 1 ∨ 16 < q) : chk q l = 12 := by rw [chk, if_pos h]
theorem chk_long {q : Int} {l : List UInt8} (h1 : 1 ≤ q) (h2 : q ≤ 16) (h : 65536 < l.length) : chk q l = 4 := by
  rw [chk, if_neg (by omega), if_pos h]
theorem chk_in {q : Int} {l : List UInt8} (h1 : 1 ≤ q) (h2 : q ≤ 16) (h : l.length ≤ 65536) : chk q l = if l.all (isLet q) then 0 else 13 := by
  rw [chk, if_neg (by omega), if_neg (by omega)]

set_option maxHeartbeats 400000 in
theorem refCheck_any (q : Int) (s : ByteArray) (w : World) :
    Calls Try.prog 20 #[.int .i64 q, .string s] w fun e w' => e = .returned (.int .i64 (chk q s.data.toList)) ∧ w = w' := by
  by_cases hq : q < 1 ∨ 16 < q
  · have hc := Lib.hid (chk_q s.data.toList hq)
    rcases hq with hq | hq
    all_goals
      go_enter Try.func20, Try.ntmps20
      go_wp2
      go_ret
      exact ⟨by rw [hc.out]; rfl, rfl⟩
  · by_cases hs : 65536 < s.size
    · have hc := Lib.hid (chk_long (q := q) (l := s.data.toList) (by omega) (by omega) hs)
      have hq1 : 1 ≤ q := by omega
      have hq2 : q ≤ 16 := by omega
      clear hq
      go_enter Try.func20, Try.ntmps20
      go_wp2
      go_ret
      exact ⟨by rw [hc.out]; rfl, rfl⟩
    · have hc := Lib.hid (chk_in (q := q) (l := s.data.toList) (by omega) (by omega) (by simp; omega))
      have hq1 : 1 ≤ q := by omega
      have hq2 : q ≤ 16 := by omega
      clear hq
      go_enter Try.func20, Try.ntmps20
      go_wp2
      go_loop [5] (fun i => ∃ k : Nat, k ≤ s.size ∧ i = .int .i64 k ∧ (s.data.toList.take k).all (isLet q) = true) (fun i => s.size - (intOf i).toNat)
      case atStart => exact ⟨0, by omega, rfl, rfl⟩
      case round =>
        obtain ⟨k, hk, rfl, hl⟩ := hrel
        have HL := Lib.hid hl; clear hl
        by_cases hlt : k < s.size
        · have hall := Lib.hid (all_take_succ (isLet q) s.data.toList k hlt)
          by_cases hd : isLet q (s[k]'hlt) = true
          · have h1 : 0 ≤ digit (s[k]'hlt) := by simp [isLet] at hd; exact hd.1
            have h2 : digit (s[k]'hlt) < q := by simp [isLet] at hd; exact hd.2
            have HD := Lib.hid hd; clear hd
            go_wp2_with (go_at_call 41; refine (digit_any _ _).mono ?_; rintro e w' ⟨rfl, rfl⟩)
            go_round
            case rel => exact ⟨k + 1, by omega, by go_num, by rw [hall.out, HL.out]; exact HD.out⟩
            case measure => simp [intOf]; omega
          · have HD := Lib.hid hd
            have hfin : Hid (chk q s.data.toList = 13) := Lib.hid (by
              rw [hc.out, if_neg]; intro ha; apply HD.out
              rw [List.all_eq_true] at ha; exact ha _ (List.getElem_mem hlt))
            by_cases h1 : 0 ≤ digit (s[k]'hlt)
            · have h2 : q ≤ digit (s[k]'hlt) := by simp [isLet, h1] at hd; exact hd
              clear hd
              go_wp2_with (go_at_call 41; refine (digit_any _ _).mono ?_; rintro e w' ⟨rfl, rfl⟩)
              go_ret
              exact ⟨by rw [hfin.out]; rfl, rfl⟩
            · have h2 : digit (s[k]'hlt) < 0 := by omega
              clear hd h1
              go_wp2_with (go_at_call 41; refine (digit_any _ _).mono ?_; rintro e w' ⟨rfl, rfl⟩)
              go_ret
              exact ⟨by rw [hfin.out]; rfl, rfl⟩
        · have hfin : Hid (chk q s.data.toList = 0) := Lib.hid (by
            rw [hc.out, if_pos]; have := HL.out; rwa [List.take_of_length_le (by simp; omega)] at this)
          go_wp2
          go_ret
          exact ⟨by rw [hfin.out]; rfl, rfl⟩

set_option maxHeartbeats 400000 in
theorem check_any (q : Int) (s : ByteArray) (w : World) :
    Calls Try.prog 37 #[.int .i64 q, .string s] w fun e w' => e = .returned (.int .i64 (chk q s.data.toList)) ∧ ∃ n, w' = w.drewN n := by
  by_cases hq : q < 1 ∨ 16 < q
  · have hc := Lib.hid (chk_q s.data.toList hq)
    go_enter Try.func37, Try.ntmps37
    go_wp2_with (go_at_call 57; refine (known_no _ _ hq).mono ?_; rintro e w' ⟨rfl, rfl⟩)
    go_ret
    exact ⟨by rw [hc.out]; rfl, 0, rfl⟩
  · by_cases hs : 65536 < s.size
    · have hc := Lib.hid (chk_long (q := q) (l := s.data.toList) (by omega) (by omega) hs)
      have hq1 : 1 ≤ q := by omega
      have hq2 : q ≤ 16 := by omega
      clear hq
      go_enter Try.func37, Try.ntmps37
      go_wp2_with (go_at_call 57; refine (known_yes _ _ hq1 hq2).mono ?_; rintro e w' ⟨rfl, rfl⟩)
      go_ret
      exact ⟨by rw [hc.out]; rfl, 0, rfl⟩
    · have hc := Lib.hid (chk_in (q := q) (l := s.data.toList) (by omega) (by omega) (by simp; omega))
      have hq1 : 1 ≤ q := by omega
      have hq2 : q ≤ 16 := by omega
      clear hq
      go_enter Try.func37, Try.ntmps37
      go_wp2_with (go_at_call 57; refine (known_yes _ _ hq1 hq2).mono ?_; rintro e w' ⟨rfl, rfl⟩)
      go_loopw [16] (fun i wr => ∃ k : Nat, k ≤ s.size ∧ i = .int .i64 k ∧ (s.data.toList.take k).all (isLet q) = true ∧ ∃ n, wr = w.drewN n) (fun i _ => s.size - (intOf i).toNat)
      case atStart => exact ⟨0, by omega, rfl, rfl, 0, rfl⟩
      case round =>
        obtain ⟨k, hk, rfl, hl, hw⟩ := hrel
        have HL := Lib.hid hl; clear hl
        have HW := Lib.hid hw; clear hw
        by_cases hlt : k < s.size
        · have hall := Lib.hid (all_take_succ (isLet q) s.data.toList k hlt)
          have hit := Lib.hid (indexByte_take (s[k]'hlt) letters q.toNat)
          by_cases hd : isLet q (s[k]'hlt) = true
          · have h1 : ¬ Lib.indexByte (List.take q.toNat letters) (s[k]'hlt) < 0 := by
              rw [hit.out]; rw [isLet_iff] at hd; omega
            have h1' : Hid (¬ Lib.indexByte (List.take q.toNat letters) (s[k]'hlt) < 0) := Lib.hid h1
            have HD := Lib.hid hd; clear hd h1
            go_wp2_with fail
            go_quiet ((go_at_call 58; exact Calls.quiet_of_same (Try.strings_IndexByte _ _ _)))
            go_wp2
            · have h2 : Lib.indexByte (List.take q.toNat letters) (s[k]'hlt) < 0 := by assumption
              have := h1'.out
              omega
            · go_roundw
              case rel =>
                obtain ⟨n, hn⟩ := HW.out
                exact ⟨k + 1, by omega, by go_num, by rw [hall.out, HL.out]; exact HD.out, _, by rw [hn, World.drewN_drewN]⟩
              case measure => simp [intOf]; omega
          · have hfin : Hid (chk q s.data.toList = 13) := Lib.hid (by
              rw [hc.out, if_neg]; intro ha; apply hd
              rw [List.all_eq_true] at ha; exact ha _ (List.getElem_mem hlt))
            have h1 : Hid (Lib.indexByte (List.take q.toNat letters) (s[k]'hlt) < 0) := Lib.hid (by
              rw [hit.out]; rw [isLet_iff] at hd; omega)
            clear hd
            go_wp2_with fail
            go_quiet ((go_at_call 58; exact Calls.quiet_of_same (Try.strings_IndexByte _ _ _)))
            go_wp2
            · go_ret
              obtain ⟨n, hn⟩ := HW.out
              exact ⟨by rw [hfin.out]; rfl, _, by rw [hn, World.drewN_drewN]⟩
            · have h2 : 0 ≤ Lib.indexByte (List.take q.toNat letters) (s[k]'hlt) := by assumption
              have := h1.out
              omega
        · have hfin : Hid (chk q s.data.toList = 0) := Lib.hid (by
            rw [hc.out, if_pos]; have := HL.out; rwa [List.take_of_length_le (by simp; omega)] at this)
          go_wp2
          go_ret
          exact ⟨by rw [hfin.out]; rfl, HW.out⟩
end Go.Proofs.Ytagelndnhpijfaa
