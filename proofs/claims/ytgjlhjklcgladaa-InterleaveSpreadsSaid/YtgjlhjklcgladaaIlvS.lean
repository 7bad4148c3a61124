/-
  The contracts of the reference for interleaving: put, Block, Unblock.
-/
import Derived.Test.YtgjlhjklcgladaaIlvR
namespace Go.Proofs.Ytgjlhjklcgladaa
open Go.RowKit

/-- A list of numbers as put reads it. -/
def Reads (w : World) (tv : Value) (n : Nat) (to : Nat → Nat) : Prop :=
  n = 0 ∨ ∃ g cap, tv = .slice (some ⟨g, 0, none⟩) n cap ∧ g < w.heap.size ∧ ∀ j : Nat, j < n → w.cell? ⟨g, j, none⟩ = some (.int .i64 ((to j : Nat) : Int))
theorem reads_own {w : World} {base : Nat} {v : Value} {n : Nat} {to : Nat → Nat} (h : Own w base 3 v (places to n)) : Reads w v n to := by
  rcases h.cases with ⟨_, h2⟩ | ⟨g, cap, h1, h2, h3, h4, h5, h6⟩
  · left
    have := congrArg List.length h2
    rw [places_len] at this; exact this
  · right
    rw [places_len] at h1 h5
    exact ⟨g, cap, h1, h3, fun j hj => by rw [h5 j hj, places_get to n j hj]⟩

set_option maxHeartbeats 800000 in
theorem refPut_any (s : ByteArray) (n : Nat) (tv : Value) (to : Nat → Nat) (w : World) (hs : s.size ≤ n) (hn : n ≤ 70000) (hto : ∀ i, i < s.size → to i < n) (htv : Reads w tv s.size to) :
    Calls Try.prog 35 #[.string s, .int .i64 n, tv] w fun e w' => e = .returned (.string ⟨(putL s.data.toList n to).toArray⟩) ∧ Below w.heap.size w w' := by
  have Hto := Lib.hid hto; clear hto
  have HT := Lib.hid htv; clear htv
  go_enter Try.func35, Try.ntmps35
  go_wp2_with (at_make; refine wpList_mkrow _ rfl _ _ rfl 5 (.int .u8 0) 1 Try.underlying46 (by kernel_rfl) rfl _ n rfl rfl (by omega) (by omega) ?_; intro w1 hrow1 hb1 hsz1)
  go_loopw [8] (fun i wr => ∃ k : Nat, k ≤ n ∧ i = .int .i64 k ∧ Row wr w.heap.size 5 (bts (List.replicate k 48 ++ List.replicate (n - k) 0)) ∧ Below w.heap.size w wr) (fun i _ => n - (intOf i).toNat)
  case atStart =>
    refine ⟨0, by omega, rfl, ?_, hb1⟩
    have h := bts_rep n 0
    simp only [UInt8.toNat_zero, Int.natCast_zero] at h
    rw [List.replicate_zero, List.nil_append, Nat.sub_zero, ← h]; exact hrow1
  case round =>
    obtain ⟨k, hk, rfl, hrow, hb⟩ := hrel
    by_cases hlt : k < n
    · have hcell : ∃ v, wr.cell? ⟨w.heap.size, k, none⟩ = some v := by
        rw [hrow.cell]; rw [List.getElem?_eq_getElem (by simp [bts_len]; omega)]; exact ⟨_, rfl⟩
      obtain ⟨v0, hv0⟩ := hcell
      have hfz := hrow.frozen k
      go_wp2_with fail
      go_roundw
      case rel =>
        refine ⟨k + 1, by omega, by go_num, ?_, hb.setCell (Nat.le_refl _) _⟩
        have h := hrow.set k (.int .u8 ((48 : UInt8).toNat : Int))
        rw [bts_set, zeros_set n k hlt] at h
        exact h
      case measure => simp [intOf]; omega
    · obtain rfl : k = n := by omega
      rw [Nat.sub_self, List.replicate_zero, List.append_nil] at hrow
      go_wp2_with fail
      have HR := Lib.hid hrow; clear hrow
      have HB := Lib.hid hb; clear hb
      obtain ⟨n', hn'⟩ : ∃ n' : Nat, n' = k := ⟨k, rfl⟩
      subst hn'
      go_loopw [9] (fun i wr2 => ∃ j : Nat, j ≤ s.size ∧ i = .int .i64 j ∧ Row wr2 w.heap.size 5 (bts (putK s.data.toList to j (List.replicate n' 48))) ∧ Below w.heap.size w wr2) (fun i _ => s.size - (intOf i).toNat)
      case atStart => exact ⟨0, by omega, rfl, HR.out, HB.out⟩
      case round =>
        obtain ⟨j, hj, rfl, hrow, hb⟩ := hrel
        have hlen := putK_len s.data.toList to j (List.replicate n' 48)
        rw [List.length_replicate] at hlen
        have HL := Lib.hid hlen; clear hlen
        by_cases hlt : j < s.size
        · have hp := Hto.out j hlt
          have hcell : ∃ v, wr.cell? ⟨w.heap.size, to j, none⟩ = some v := by
            rw [hrow.cell]; rw [List.getElem?_eq_getElem (by rw [bts_len, HL.out]; exact hp)]; exact ⟨_, rfl⟩
          obtain ⟨v0, hv0⟩ := hcell
          have hfz := hrow.frozen (to j)
          rcases HT.out with h0 | ⟨g, cap, rfl, hg, hc⟩
          · exact absurd hlt (by omega)
          · have hcg : wr.cell? ⟨g, j, none⟩ = some (.int .i64 ((to j : Nat) : Int)) := by rw [hb.cell (p := ⟨g, j, none⟩) hg]; exact hc j hlt
            have HC := Lib.hid hc; clear hc
            have HRW := Lib.hid hrow; clear hrow
            have HBB := Lib.hid hb; clear hb
            go_wp2_with fail
            go_region
            all_goals
              go_wp2_with fail
              go_roundw
              case rel =>
                refine ⟨j + 1, by omega, by go_num, ?_, ?_⟩
                · have h := HRW.out.set (to j) (.int .u8 (((s.data.toList.getD j 0).toNat : Nat) : Int))
                  rw [bts_set] at h
                  have e : s.data.toList.getD j 0 = s[j] := by
                    rw [List.getD_eq_getElem?_getD, List.getElem?_eq_getElem hlt]; rfl
                  rw [e] at h
                  rw [putK, e]
                  exact h
                · exact (HBB.out.setCell (Nat.le_refl _) _).drew
              case measure => simp [intOf]; omega
        · obtain rfl : j = s.size := by omega
          have hcv := run_string_row (P := Try.prog) (w := wr) (src := 46) (dst := 9) (c := n') Try.underlying46 Try.underlying5 Try.underlying9 hrow HL.out
          go_wp2_with fail
          go_ret
          exact ⟨rfl, hb⟩

theorem nz_len' (s : ByteArray) : s.data.toList.length = s.size := rfl
theorem ckBlock_ref (rows : Int) (l : List UInt8) : ckBlock rows l = if chk 16 l ≠ 0 then chk 16 l else refFits rows l.length := rfl

set_option maxHeartbeats 400000 in
theorem refBlock_any (rows : Int) (s : ByteArray) (w : World) (hs : s.size ≤ maxLen) :
    Calls Try.prog 17 #[.int .i64 rows, .string s] w fun e w' =>
      e = .returned (.tuple #[.string ⟨(blkS rows s.data.toList).toArray⟩, .int .i64 (ckBlock rows s.data.toList)]) ∧ Below w.heap.size w w' := by
  unfold maxLen at hs
  by_cases hk : chk 16 s.data.toList = 0
  · have hck := ckBlock_ref rows s.data.toList
    rw [if_neg (by simp [hk]), nz_len'] at hck
    have hk' : (chk 16 s.data.toList != 0) = false := by simp [hk]
    by_cases hc : ckBlock rows s.data.toList = 0
    · obtain ⟨_, hr1, hr2, hm⟩ := ckBlock_ok hc
      have hlen : s.size ≤ 65536 := chk_len hk
      have hb : blkS rows s.data.toList = putL s.data.toList s.size (posn (s.size / rows.toNat) rows.toNat) := by rw [blkS, if_neg (by simp [hc])]; rfl
      have HB := Lib.hid hb; clear hb
      have HC := Lib.hid hc
      have hc' : (refFits rows s.size != 0) = false := by rw [← hck]; simp [hc]
      clear hc hck hk
      obtain ⟨r, rfl⟩ := Int.eq_ofNat_of_zero_le (show 0 ≤ rows by omega)
      have hp : s.size = 0 ∨ (1 ≤ s.size / r ∧ s.size = s.size / r * r) := by
        rcases Nat.eq_zero_or_pos s.size with h | h
        · exact .inl h
        · exact .inr (div_parts (n := s.size) (r := r) h hm)
      have HP := Lib.hid hp; clear hp hm
      go_enter Try.func17, Try.ntmps17
      go_wp2_with (first | (go_at_call 27; refine (refCheck_any _ _ _).mono ?_; rintro e w' ⟨rfl, rfl⟩) | (go_at_call 34; refine (refFits_any _ _ _ (by omega)).mono ?_; rintro e w' ⟨rfl, rfl⟩))
      refine (positions_any r s.size _ (by omega) (by omega) hlen (HP.out.imp id And.left)).mono ?_
      rintro e w1 ⟨v, rfl, hown, hb1⟩
      have HRd := Lib.hid (reads_own hown); clear hown
      have HB1 := Lib.hid hb1; clear hb1
      go_wp2_with fail
      refine (refPut_any s s.size v (posn (s.size / r) r) _ (Nat.le_refl _) (by omega) ?_ HRd.out).mono ?_
      · intro i hi
        rcases HP.out with h | h
        · omega
        · exact posn_le _ _ _ _ h.1 h.2 hi
      rintro e w2 ⟨rfl, hb2⟩
      have HB2 := Lib.hid hb2; clear hb2
      go_wp2_with fail
      go_ret2
      exact ⟨by rw [HC.out, HB.out]; rfl, ext_trans HB1.out HB2.out⟩
    · have hc' : (refFits rows s.size != 0) = true := by rw [← hck]; simp [hc]
      have H := Lib.hid (show blkS rows s.data.toList = [] by rw [blkS, if_pos hc])
      have HCK := Lib.hid hck
      clear hc hck hk
      go_enter Try.func17, Try.ntmps17
      go_wp2_with (first | (go_at_call 27; refine (refCheck_any _ _ _).mono ?_; rintro e w' ⟨rfl, rfl⟩) | (go_at_call 34; refine (refFits_any _ _ _ (by omega)).mono ?_; rintro e w' ⟨rfl, rfl⟩))
      go_ret2
      exact ⟨by rw [H.out, HCK.out]; rfl, Below.refl _ _⟩
  · have hc : ckBlock rows s.data.toList = chk 16 s.data.toList := by rw [ckBlock, if_pos hk]
    have H := Lib.hid (show blkS rows s.data.toList = [] by rw [blkS, if_pos (by rw [hc]; exact hk)])
    have HC := Lib.hid hc; clear hc
    have hk' : (chk 16 s.data.toList != 0) = true := by simp [hk]
    clear hk
    go_enter Try.func17, Try.ntmps17
    go_wp2_with (go_at_call 27; refine (refCheck_any _ _ _).mono ?_; rintro e w' ⟨rfl, rfl⟩)
    go_ret2
    exact ⟨by rw [H.out, HC.out]; rfl, Below.refl _ _⟩
end Go.Proofs.Ytgjlhjklcgladaa
