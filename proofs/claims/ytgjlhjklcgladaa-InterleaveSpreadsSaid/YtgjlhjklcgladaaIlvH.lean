/-
  InterleavePositions returns true for every input: the walk.
-/
import Derived.Test.YtgjlhjklcgladaaIlvP
import Derived.OpenShut
namespace Go.Proofs.Ytgjlhjklcgladaa
open Go.RowKit

/-- What the letters' places are, for a word that can be written into rows. -/
structure Places (rows : Int) (l : List UInt8) (P : Nat → Nat) : Prop where
  lt : ∀ i, i < l.length → P i < l.length
  inj : ∀ i, i < l.length → ∀ j, j < l.length → P i = P j → i = j
  letter : ∀ i, i < l.length → (blkS rows l)[P i]? = l[i]?
  posE : ∀ i : Nat, i < l.length → posE rows l.length i = 0
  posV : ∀ i : Nat, i < l.length → posV rows l.length i = (P i : Nat)

theorem places_mk (rows : Int) (l : List UInt8) (hc : ckBlock rows l = 0) (hl : 1 ≤ l.length) : Places rows l (posn (l.length / rows.toNat) rows.toNat) := by
  obtain ⟨h1, h2, h3, h4⟩ := ckBlock_ok hc
  obtain ⟨r, rfl⟩ := Int.eq_ofNat_of_zero_le (show 0 ≤ rows by omega)
  obtain ⟨p1, p2⟩ := div_parts hl h4
  have hr : 1 ≤ r := by omega
  have hlen := chk_len h1
  have b2 : ∀ j, j < l.length → posn (l.length / r) r j < l.length := fun j hj => posn_le _ _ _ _ p1 p2 hj
  have i1 : ∀ j, j < l.length → posn r (l.length / r) (posn (l.length / r) r j) = j := fun j hj => posn_inv _ _ _ p1 hr (by rw [← p2]; exact hj)
  have hf : fitsE (r : Int) (l.length : Int) = 0 := by
    rw [fitsE, if_neg (by omega), if_neg (by simp [h4])]
  have hE : ∀ i : Nat, i < l.length → Go.Proofs.Ytgjlhjklcgladaa.posE (r : Int) l.length i = 0 := by
    intro i hi
    rw [Go.Proofs.Ytgjlhjklcgladaa.posE, if_neg (by simp [hf]), if_neg (by omega)]
  refine ⟨b2, fun i hi j hj h => ?_, fun i hi => ?_, hE, fun i hi => ?_⟩
  · have := congrArg (posn r (l.length / r)) h
    simp only [Int.toNat_natCast] at this
    rwa [i1 i hi, i1 j hj] at this
  · rw [(blkS_eq r l hc hl).1]
    simp only [Int.toNat_natCast]
    have hb := b2 i hi
    have hi1 := i1 i hi
    simp only [takeL, List.getElem?_map, List.getElem?_range hb, Option.map_some, hi1]
    rw [List.getD_eq_getElem?_getD, List.getElem?_eq_getElem hi]; rfl
  · rw [Go.Proofs.Ytgjlhjklcgladaa.posV, if_neg (by rw [hE i hi]; decide)]
    simp only [Int.toNat_natCast]

def seenL (P : Nat → Nat) (n k : Nat) : List Value := (List.range n).map fun j => Value.bool ((List.range k).any fun i => P i == j)
theorem seenL_len (P : Nat → Nat) (n k : Nat) : (seenL P n k).length = n := by simp [seenL]
theorem seenL_zero (P : Nat → Nat) (n : Nat) : seenL P n 0 = List.replicate n (.bool false) := by
  apply List.ext_getElem?
  intro j
  by_cases hj : j < n <;> simp [seenL, hj]
theorem seenL_get (P : Nat → Nat) (n k : Nat) (h : P k < n) (hi : ∀ i, i < k → P i ≠ P k) : (seenL P n k)[P k]? = some (.bool false) := by
  simp only [seenL, List.getElem?_map, List.getElem?_range h, Option.map_some]
  congr 2
  rw [List.any_eq_false]
  intro i hik
  simpa using hi i (List.mem_range.1 hik)
theorem seenL_set (P : Nat → Nat) (n k : Nat) (h : P k < n) : (seenL P n k).set (P k) (.bool true) = seenL P n (k + 1) := by
  apply List.ext_getElem?
  intro j
  rw [List.getElem?_set]
  by_cases hj : j < n
  · simp only [seenL, List.getElem?_map, List.getElem?_range hj, Option.map_some, List.length_map, List.length_range, List.range_succ, List.any_append]
    by_cases hk : P k = j
    · subst hk; simp [h]
    · simp [hk]
  · rw [if_neg (by intro h2; omega)]
    rw [List.getElem?_eq_none (by rw [seenL_len]; omega), List.getElem?_eq_none (by rw [seenL_len]; omega)]

set_option maxHeartbeats 1000000 in
theorem law_interleavePositions (a0 : Int) (s : ByteArray) (w0 : (Lit.int .u8 a0).wf = true) (hs : s.size ≤ maxLen) (w : World) :
    Calls Try.prog 4 #[.int .u8 a0, .string s] w fun e w' => e = .returned (.bool true) ∧ Below w.heap.size w w' := by
  have hbd := bounds_u8 w0
  have hs' := hs
  unfold maxLen at hs'
  obtain ⟨h0, h255⟩ := hbd
  have r1 : 1 ≤ 1 + a0 % 12 := by omega
  have r2 : 1 + a0 % 12 ≤ 12 := by omega
  by_cases hf : fineB s.data.toList = true
  · have HF := Lib.hid hf; clear hf
    by_cases hl : s.size = 0
    · have hl' : ((s.size : Int) == 0) = true := by simp [hl]
      clear hl w0
      go_enter Try.func4, Try.ntmps4
      go_wp2_with (first | (go_at_call 10; refine (fine_yes _ _ HF.out).mono ?_; rintro e w' ⟨rfl, rfl⟩) | (go_at_call 11; refine (awake_any _).mono ?_; rintro e w' ⟨rfl, hb⟩))
      go_ret
      exact ⟨rfl, hb⟩
    · have hl' : ((s.size : Int) == 0) = false := by simp [hl]
      by_cases hm : (s.size : Int) % (1 + a0 % 12) = 0
      · have hm' : ((s.size : Int) % (1 + a0 % 12) != 0) = false := by simp [hm]
        have hf := HF.out
        unfold fineB at hf
        rw [Bool.and_eq_true, decide_eq_true_eq, beq_iff_eq] at hf
        obtain ⟨f1, f2⟩ := hf
        have hsz : s.size ≤ 60 := f1
        obtain ⟨k1, n1, -⟩ := inv_all (1 + a0 % 12) s.data.toList f2 (show 1 ≤ s.size by omega) r1 (by omega) hm
        have hpl := places_mk (1 + a0 % 12) s.data.toList k1 (show 1 ≤ s.size by omega)
        generalize posn (s.data.toList.length / (1 + a0 % 12).toNat) (1 + a0 % 12).toNat = P at hpl
        obtain ⟨q1, q2, q3, q4, q5⟩ := hpl
        rw [nz_len] at q1 q2 q3 q4 q5
        obtain ⟨a, ha⟩ : ∃ a : ByteArray, a = ⟨(blkS (1 + a0 % 12) s.data.toList).toArray⟩ := ⟨_, rfl⟩
        have hal : a.data.toList = blkS (1 + a0 % 12) s.data.toList := by rw [ha]
        have hasz : a.size = s.size := by
          show a.data.size = _
          rw [← Array.length_toList, hal, n1]; rfl
        have c1 := fun w => blockB_any (1 + a0 % 12) s w hs
        simp only [k1, ← ha] at c1
        have c2 : ∀ (i : Nat) (w : World), i < s.size → Calls Try.prog 14 #[.int .i64 (1 + a0 % 12), .int .i64 s.size, .int .i64 i] w fun e w' => e = .returned (.tuple #[.int .i64 (P i : Nat), .int .i64 0]) ∧ Below w.heap.size w w' := by
          intro i w hi
          have := position_any (1 + a0 % 12) s.size i w
          rw [q4 i hi, q5 i hi] at this
          exact this
        have q3' : ∀ i (hi : i < s.size) (hp : P i < a.size), (((a[P i]'hp).toNat : Int) != ((s[i]'hi).toNat : Int)) = false := by
          intro i hi hp
          have h := q3 i hi
          rw [← hal] at h
          have e1 : a.data.toList[P i]? = some (a[P i]'hp) := List.getElem?_eq_getElem hp
          have e2 : s.data.toList[i]? = some (s[i]'hi) := List.getElem?_eq_getElem hi
          rw [e1, e2] at h
          rw [Option.some.inj h]; simp
        have C1 := Lib.hid c1; have C2 := Lib.hid c2; have Q1 := Lib.hid q1; have Q2 := Lib.hid q2; have Q3 := Lib.hid q3'
        have HA := Lib.hid hasz
        have hne : ((a.size : Int) != (s.size : Int)) = false := by rw [hasz]; simp
        clear hl hm k1 n1 ha hal c1 c2 q1 q2 q3 q4 q5 q3' f1 f2 w0 hasz
        go_enter Try.func4, Try.ntmps4
        go_wp2_with (go_at_call 10; refine (fine_yes _ _ HF.out).mono ?_; rintro e w' ⟨rfl, rfl⟩)
        refine (C1.out _).mono ?_
        rintro e w1 ⟨rfl, h1⟩
        have H1 := Lib.hid h1; clear h1
        go_wp2_with (at_make; refine wpList_mkrow _ rfl _ _ rfl 4 (.bool false) 1 Try.underlying28 (by kernel_rfl) rfl _ s.size rfl rfl (by omega) (by omega) ?_; intro w2 hrow2 hb2 hsz2)
        have HB2 := Lib.hid hb2; clear hb2
        have HR2 := Lib.hid hrow2; clear hrow2
        clear hsz2
        go_loopw [52] (fun i wr => ∃ k : Nat, k ≤ s.size ∧ i = .int .i64 k ∧ Row wr w1.heap.size 4 (seenL P s.size k) ∧ Below w.heap.size w wr) (fun i _ => s.size - (intOf i).toNat)
        case atStart => exact ⟨0, by omega, rfl, by rw [seenL_zero]; exact HR2.out, ext_trans H1.out HB2.out⟩
        case round =>
          obtain ⟨k, hk, rfl, hrow, hb⟩ := hrel
          have HR := Lib.hid hrow; clear hrow
          have HB := Lib.hid hb; clear hb
          by_cases hlt : k < s.size
          · have hp := Q1.out k hlt
            have hpa : P k < a.size := by rw [HA.out]; exact hp
            have hlet := Q3.out k hlt hpa
            have hin := HA.out
            have HA2 := Lib.hid hin; clear hin
            go_wp2_with fail
            refine (C2.out k _ hlt).mono ?_
            rintro e w3 ⟨rfl, h3⟩
            have hrow3 := HR.out.below h3 HR.out.lt
            have hcell : w3.cell? ⟨w1.heap.size, P k, none⟩ = some (.bool false) := by
              rw [hrow3.cell]; exact seenL_get P _ k hp (fun i hi h => by have := Q2.out i (by omega) k hlt h; omega)
            have hfz := hrow3.frozen (P k)
            have HR3 := Lib.hid hrow3; clear hrow3
            have H3 := Lib.hid h3; clear h3
            go_wp2_with fail
            go_quiet (fail)
            go_wp2_with fail
            go_roundw
            case rel =>
              refine ⟨k + 1, by omega, by go_num, ?_, ?_⟩
              · rw [← seenL_set P _ k hp]; exact HR3.out.set _ _
              · exact below_drewN ((ext_trans HB.out H3.out).setCell H1.out.size _) _
            case measure => simp [intOf]; omega
          · obtain rfl : k = s.size := by omega
            go_wp2_with fail
            refine (awake_any _).mono ?_
            rintro e w4 ⟨rfl, h4⟩
            have H4 := Lib.hid h4; clear h4
            go_wp2_with fail
            go_ret
            exact ⟨rfl, ext_trans HB.out H4.out⟩
      · have hm' : ((s.size : Int) % (1 + a0 % 12) != 0) = true := by simp [hm]
        clear hl hm w0
        go_enter Try.func4, Try.ntmps4
        go_wp2_with (first | (go_at_call 10; refine (fine_yes _ _ HF.out).mono ?_; rintro e w' ⟨rfl, rfl⟩) | (go_at_call 11; refine (awake_any _).mono ?_; rintro e w' ⟨rfl, hb⟩))
        go_ret
        exact ⟨rfl, hb⟩
  · have hf' : fineB s.data.toList = false := by simpa using hf
    have HF := Lib.hid hf'; clear hf hf' w0
    go_enter Try.func4, Try.ntmps4
    go_wp2_with (first | (go_at_call 10; refine (fine_no _ _ HF.out).mono ?_; rintro e w' ⟨rfl, rfl⟩) | (go_at_call 11; refine (awake_any _).mono ?_; rintro e w' ⟨rfl, hb⟩))
    go_ret
    exact ⟨rfl, hb⟩
end Go.Proofs.Ytgjlhjklcgladaa
