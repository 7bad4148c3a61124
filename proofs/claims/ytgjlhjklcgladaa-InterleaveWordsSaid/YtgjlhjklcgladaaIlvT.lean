/-
  The contract of the reference's Unblock.
-/
import Derived.Test.YtgjlhjklcgladaaIlvS
namespace Go.Proofs.Ytgjlhjklcgladaa
open Go.RowKit

set_option maxHeartbeats 400000 in
theorem refUnblock_any (rows : Int) (s : ByteArray) (w : World) (hs : s.size ≤ maxLen) :
    Calls Try.prog 18 #[.int .i64 rows, .string s] w fun e w' =>
      e = .returned (.tuple #[.string ⟨(ublS rows s.data.toList).toArray⟩, .int .i64 (ckBlock rows s.data.toList)]) ∧ Below w.heap.size w w' := by
  unfold maxLen at hs
  by_cases hk : chk 16 s.data.toList = 0
  · have hck := ckBlock_ref rows s.data.toList
    rw [if_neg (by simp [hk]), nz_len'] at hck
    have hk' : (chk 16 s.data.toList != 0) = false := by simp [hk]
    by_cases hc : ckBlock rows s.data.toList = 0
    · obtain ⟨_, hr1, hr2, hm⟩ := ckBlock_ok hc
      have hlen : s.size ≤ 65536 := chk_len hk
      have hb : ublS rows s.data.toList = takeL s.data.toList (posn (s.size / rows.toNat) rows.toNat) s.size := by rw [ublS, if_neg (by simp [hc])]; rfl
      have HB := Lib.hid hb; clear hb
      have HC := Lib.hid hc
      have hc' : (refFits rows s.size != 0) = false := by rw [← hck]; simp [hc]
      clear hc hck hk
      obtain ⟨r, rfl⟩ := Int.eq_ofNat_of_zero_le (show 0 ≤ rows by omega)
      have hp : s.size = 0 ∨ (1 ≤ s.size / r ∧ s.size = s.size / r * r) := by
        rcases Nat.eq_zero_or_pos s.size with h | h
        · exact .inl h
        · exact .inr (div_parts (n := s.size) (r := r) h hm)
      have HP := Lib.hid hp; clear hp hm
      go_enter Try.func18, Try.ntmps18
      have HS := hlen
      go_wp2_with (first | (go_at_call 27; refine (refCheck_any _ _ _).mono ?_; rintro e w' ⟨rfl, rfl⟩) | (go_at_call 34; refine (refFits_any _ _ _ (by omega)).mono ?_; rintro e w' ⟨rfl, rfl⟩) | (at_make; refine wpList_mkrow _ rfl _ _ rfl 5 (.int .u8 0) 1 Try.underlying46 (by kernel_rfl) rfl _ s.size rfl rfl (by omega) (by omega) ?_; intro w0 hrow0 hb0 hsz0))
      have HR0 := Lib.hid hrow0; clear hrow0
      have HB0 := Lib.hid hb0; clear hb0
      clear hsz0
      refine (positions_any r s.size _ (by omega) (by omega) hlen (HP.out.imp id And.left)).mono ?_
      rintro e w1 ⟨v, rfl, hown, hb1⟩
      have HRd := Lib.hid (reads_own hown); clear hown
      have hr1 := HR0.out.below hb1 HR0.out.lt
      have HR1 := Lib.hid hr1; clear hr1
      have hb1' := ext_trans HB0.out hb1
      have HB1 := Lib.hid hb1'; clear hb1 hb1'
      go_wp2_with fail
      go_loopw [10] (fun i wr => ∃ j : Nat, j ≤ s.size ∧ i = .int .i64 j ∧ Row wr w.heap.size 5 (bts (takeL s.data.toList (posn (s.size / r) r) j ++ List.replicate (s.size - j) 0)) ∧ Reads wr v s.size (posn (s.size / r) r) ∧ (∀ g cap, v = .slice (some ⟨g, 0, none⟩) s.size cap → g ≠ w.heap.size ∨ s.size = 0) ∧ Below w.heap.size w wr) (fun i _ => s.size - (intOf i).toNat)
      case atStart =>
        refine ⟨0, by omega, rfl, ?_, HRd.out, ?_, HB1.out⟩
        · have h := bts_rep s.size 0
          simp only [UInt8.toNat_zero, Int.natCast_zero] at h
          rw [takeL_zero, List.nil_append, Nat.sub_zero, ← h]; exact HR1.out
        · intro g cap hv
          rcases HRd.out with h0 | ⟨g', cap', hv', hg', hc'⟩
          · exact .inr h0
          · rw [hv'] at hv
            simp only [Value.slice.injEq, Option.some.injEq, Addr.mk.injEq] at hv
            obtain ⟨⟨rfl, -⟩, -⟩ := hv
            by_cases hg : g' = w.heap.size
            · right
              rcases Nat.eq_zero_or_pos s.size with h | h
              · exact h
              · exfalso
                have h2 := hc' 0 h
                rw [hg, HR1.out.cell, List.getElem?_replicate, if_pos h] at h2
                cases h2
            · exact .inl hg
      case round =>
        obtain ⟨j, hj, rfl, hrow, hrd, hne, hb⟩ := hrel
        have HRW := Lib.hid hrow; clear hrow
        have HRD := Lib.hid hrd; clear hrd
        have HNE := Lib.hid hne; clear hne
        have HBB := Lib.hid hb; clear hb
        have hlen2 := takeL_len s.data.toList (posn (s.size / r) r) j
        have HL := Lib.hid hlen2; clear hlen2
        by_cases hlt : j < s.size
        · rcases HRD.out with h0 | ⟨g, cap, hv, hg, hc⟩
          · exact absurd hlt (by omega)
          · subst hv
            have hcg := hc j hlt
            have HC2 := Lib.hid hc; clear hc
            have hp : posn (s.size / r) r j < s.size := by
              rcases HP.out with h | h
              · omega
              · exact posn_le _ _ _ _ h.1 h.2 hlt
            have hcell : ∃ v, wr.cell? ⟨w.heap.size, j, none⟩ = some v := by
              rw [HRW.out.cell]; rw [List.getElem?_eq_getElem (by rw [bts_len, List.length_append, HL.out, List.length_replicate]; omega)]; exact ⟨_, rfl⟩
            obtain ⟨v0, hv0⟩ := hcell
            have hfz := HRW.out.frozen j
            go_wp2_with fail
            go_roundw
            case rel =>
              refine ⟨j + 1, by omega, by go_num, ?_, ?_, HNE.out, HBB.out.setCell (Nat.le_refl _) _⟩
              · have h := HRW.out.set j (.int .u8 (((s.data.toList.getD (posn (s.size / r) r j) 0).toNat : Nat) : Int))
                rw [bts_set, takeL_set _ _ _ _ hlt] at h
                have e : s.data.toList.getD (posn (s.size / r) r j) 0 = s[posn (s.size / r) r j] := by
                  rw [List.getD_eq_getElem?_getD, List.getElem?_eq_getElem hp]; rfl
                rw [e] at h
                exact h
              · right
                refine ⟨g, cap, rfl, by simpa using hg, fun k hk => ?_⟩
                have hgne : g ≠ w.heap.size := (HNE.out g cap rfl).resolve_right (by omega)
                rw [World.cell?_setCell_other _ _ _ _ (by intro h; simp only [Addr.mk.injEq] at h; exact hgne h.1.symm)]
                exact HC2.out k hk
            case measure => simp [intOf]; omega
        · obtain rfl : j = s.size := by omega
          have hrow := HRW.out
          rw [Nat.sub_self, List.replicate_zero, List.append_nil] at hrow
          have hcv := run_string_row (P := Try.prog) (w := wr) (src := 46) (dst := 9) (c := s.size) Try.underlying46 Try.underlying5 Try.underlying9 hrow HL.out
          clear hrow
          go_wp2_with fail
          go_ret2
          exact ⟨by rw [HC.out, HB.out]; rfl, HBB.out⟩
    · have hc' : (refFits rows s.size != 0) = true := by rw [← hck]; simp [hc]
      have H := Lib.hid (show ublS rows s.data.toList = [] by rw [ublS, if_pos hc])
      have HCK := Lib.hid hck
      clear hc hck hk
      go_enter Try.func18, Try.ntmps18
      go_wp2_with (first | (go_at_call 27; refine (refCheck_any _ _ _).mono ?_; rintro e w' ⟨rfl, rfl⟩) | (go_at_call 34; refine (refFits_any _ _ _ (by omega)).mono ?_; rintro e w' ⟨rfl, rfl⟩))
      go_ret2
      exact ⟨by rw [H.out, HCK.out]; rfl, Below.refl _ _⟩
  · have hc : ckBlock rows s.data.toList = chk 16 s.data.toList := by rw [ckBlock, if_pos hk]
    have H := Lib.hid (show ublS rows s.data.toList = [] by rw [ublS, if_pos (by rw [hc]; exact hk)])
    have HC := Lib.hid hc; clear hc
    have hk' : (chk 16 s.data.toList != 0) = true := by simp [hk]
    clear hk
    go_enter Try.func18, Try.ntmps18
    go_wp2_with (go_at_call 27; refine (refCheck_any _ _ _).mono ?_; rintro e w' ⟨rfl, rfl⟩)
    go_ret2
    exact ⟨by rw [H.out, HC.out]; rfl, Below.refl _ _⟩
end Go.Proofs.Ytgjlhjklcgladaa
