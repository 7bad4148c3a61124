/-
  InterleaveOrder returns true for every input: the walk.
-/
import Derived.Test.YtgjlhjklcgladaaIlvO
namespace Go.Proofs.Ytgjlhjklcgladaa
open Go.RowKit

theorem range_set (n k : Nat) (hk : k < n) : (List.range k ++ List.replicate (n - k) 0).set k k = List.range (k + 1) ++ List.replicate (n - (k + 1)) 0 := by
  rw [List.set_append]
  simp only [List.length_range, Nat.lt_irrefl, if_false, Nat.sub_self]
  obtain ⟨m, hm⟩ : ∃ m, n - k = m + 1 := ⟨n - k - 1, by omega⟩
  rw [hm, show n - (k + 1) = m by omega, List.replicate_succ, List.set_cons_zero, List.range_succ, List.append_assoc]
  rfl
theorem beq_cast (a b : Nat) : ((a : Int) == (b : Int)) = (a == b) := by
  rw [Bool.eq_iff_iff, beq_iff_eq, beq_iff_eq]; omega

set_option maxRecDepth 100000 in
set_option maxHeartbeats 2000000 in
theorem order_main (a0 : Int) (s : ByteArray) (h0 : 0 ≤ a0) (h255 : a0 ≤ 255) (hs : s.size ≤ maxLen) (w : World) (HF : Hid (fineB s.data.toList = true)) (hl : 1 ≤ s.size) (hm : (s.size : Int) % (1 + a0 % 12) = 0) :
    Calls Try.prog 5 #[.int .u8 a0, .string s] w fun e w' => e = .returned (.bool true) ∧ Below w.heap.size w w' := by
  have hs' := hs
  unfold maxLen at hs'
  have r1 : 1 ≤ 1 + a0 % 12 := by omega
  have r2 : 1 + a0 % 12 ≤ 12 := by omega
  have hl' : ((s.size : Int) == 0) = false := by rw [beq_eq_false_iff_ne]; omega
  have hm' : ((s.size : Int) % (1 + a0 % 12) != 0) = false := by simp [hm]
  have hf := HF.out
  unfold fineB at hf
  rw [Bool.and_eq_true, decide_eq_true_eq, beq_iff_eq] at hf
  obtain ⟨f1, f2⟩ := hf
  have hsz : s.size ≤ 60 := f1
  obtain ⟨R, hR⟩ : ∃ R : Nat, 1 + a0 % 12 = (R : Int) := ⟨(1 + a0 % 12).toNat, by omega⟩
  have hRn : (1 + a0 % 12).toNat = R := by omega
  have hd : s.size % R = 0 := by rw [hR] at hm; exact_mod_cast hm
  obtain ⟨o1, o2, o3, o4⟩ := ord_facts R s.size (by omega) (by omega) hl hsz hd
  have hfit : fitsE (1 + a0 % 12) s.size = 0 := by rw [fitsE, if_neg (by omega), if_neg (by simp [hm])]
  have c0 := fun w => order_ok R s.size w (by rw [← hR]; exact hfit) (by omega) o3
  simp only [← hR] at c0
  have hX := xK_ok (1 + a0 % 12) s.data.toList f2 hl r1 (by omega) hm
  obtain ⟨P, hP⟩ : ∃ P, P = posn (s.data.toList.length / (1 + a0 % 12).toNat) (1 + a0 % 12).toNat := ⟨_, rfl⟩
  have hPn : posn (s.size / R) R = P := by rw [hP, hRn]; rfl
  have hLt := xK_letters (1 + a0 % 12) s.data.toList f2 hl r1 (by omega) hm P hP
  have hBk := xK_back (1 + a0 % 12) s.data.toList f2 hl r1 (by omega) hm P hP
  have k1 := ckBlock_mk (rows := 1 + a0 % 12) f2 r1 (by omega) hm
  have hpl := places_mk (1 + a0 % 12) s.data.toList k1 hl
  rw [← hP] at hpl
  rw [hPn] at o4
  rw [nz_len] at hLt hBk hX
  generalize ordR R s.size = N at *
  have c2 : ∀ (i : Nat) (w : World), i < s.size → Calls Try.prog 14 #[.int .i64 (1 + a0 % 12), .int .i64 s.size, .int .i64 i] w fun e w' => e = .returned (.tuple #[.int .i64 (P i : Nat), .int .i64 0]) ∧ Below w.heap.size w w' := by
    intro i w hi
    have h := position_any (1 + a0 % 12) s.size i w
    have q4 := hpl.posE i hi
    have q5 := hpl.posV i hi
    rw [nz_len] at q4 q5
    rw [q4, q5] at h
    exact h
  have c1 : ∀ (x : ByteArray) (k : Nat) (w : World), x.data.toList = xK (1 + a0 % 12) s.data.toList k → ∃ y : ByteArray, y.data.toList = xK (1 + a0 % 12) s.data.toList (k + 1) ∧ Calls Try.prog 12 #[.int .i64 (1 + a0 % 12), .string x] w fun e w' => e = .returned (.tuple #[.string y, .int .i64 0]) ∧ Below w.heap.size w w' := by
    intro x k w hx
    refine ⟨⟨(xK (1 + a0 % 12) s.data.toList (k + 1)).toArray⟩, by simp, ?_⟩
    have hxs : x.size ≤ maxLen := by
      have h1 : x.size = (xK (1 + a0 % 12) s.data.toList k).length := by rw [← hx]; rfl
      have h2 := (hX k).2.2
      unfold maxLen; omega
    have h := blockB_any (1 + a0 % 12) x w hxs
    rw [hx, (hX k).2.1] at h
    exact h
  have C0 := Lib.hid c0; have C1 := Lib.hid c1; have C2 := Lib.hid c2; have O4 := Lib.hid o4; have LT := Lib.hid hLt; have BK := Lib.hid hBk; have PLT := Lib.hid hpl.lt
  have o1' : ¬ (N : Int) < 1 := by omega
  have o2' : (N : Int) ≤ (s.size : Int) := by omega
  clear hm hR hRn hd o3 o4 hfit c0 hX hP hPn hLt hBk k1 hpl c1 c2 f1 f2
  go_enter Try.func5, Try.ntmps5
  go_wp2_with (go_at_call 10; refine (fine_yes _ _ HF.out).mono ?_; rintro e w' ⟨rfl, rfl⟩)
  refine (C0.out _).mono ?_
  rintro e w1 ⟨rfl, h1⟩
  have H1 := Lib.hid h1; clear h1
  go_wp2_with (at_make; refine wpList_mkrow _ rfl _ _ rfl 3 (.int .i64 0) 8 Try.underlying32 (by kernel_rfl) rfl _ s.size rfl rfl (by omega) (by omega) ?_; intro w2 hrow2 hb2 hsz2)
  have HB2 := Lib.hid hb2; clear hb2
  have HR2 := Lib.hid hrow2; clear hrow2
  clear hsz2
  go_loopw [64] (fun i wr => ∃ k : Nat, k ≤ s.size ∧ i = .int .i64 k ∧ Row wr w1.heap.size 3 (nats (List.range k ++ List.replicate (s.size - k) 0)) ∧ Below w.heap.size w wr) (fun i _ => s.size - (intOf i).toNat)
  case atStart =>
    refine ⟨0, by omega, rfl, ?_, ext_trans H1.out HB2.out⟩
    have := HR2.out
    simpa [nats] using this
  case round =>
    obtain ⟨k, hk, rfl, hrow, hb⟩ := hrel
    by_cases hlt : k < s.size
    · have hcell : ∃ v, wr.cell? ⟨w1.heap.size, k, none⟩ = some v := by
        rw [hrow.cell]; rw [List.getElem?_eq_getElem (by simp [nats]; omega)]; exact ⟨_, rfl⟩
      obtain ⟨v0, hv0⟩ := hcell
      have hfz := hrow.frozen k
      have HR := Lib.hid hrow; clear hrow
      have HB := Lib.hid hb; clear hb
      go_wp2_with fail
      go_roundw
      case rel =>
        refine ⟨k + 1, by omega, by go_num, ?_, HB.out.setCell H1.out.size _⟩
        rw [← range_set _ _ hlt, ← nats_set]; exact HR.out.set _ _
      case measure => simp [intOf]; omega
    · obtain rfl : k = s.size := by omega
      have hrow' : Row wr w1.heap.size 3 (nats (atK P s.size 0)) := by
        have := hrow
        rwa [Nat.sub_self, List.replicate_zero, List.append_nil] at this
      have HR := Lib.hid hrow'; clear hrow hrow'
      have HB := Lib.hid hb; clear hb
      go_wp2_with fail
      clear HR2 HB2
      go_loopw [8, 73] (fun x i wr2 => ∃ (k : Nat) (xs : ByteArray), k ≤ N ∧ i = .int .i64 k ∧ x = .string xs ∧ xs.data.toList = xK (1 + a0 % 12) s.data.toList k ∧ Row wr2 w1.heap.size 3 (nats (atK P s.size k)) ∧ Below w.heap.size w wr2) (fun _ i _ => N - (intOf i).toNat)
      case atStart => exact ⟨0, s, by omega, rfl, rfl, rfl, HR.out, HB.out⟩
      case round =>
        clear HR HB
        obtain ⟨k, xs, hk, rfl, rfl, hxs, hrow, hb⟩ := hrel
        have HX := Lib.hid hxs; clear hxs
        have HR := Lib.hid hrow; clear hrow
        have HB := Lib.hid hb; clear hb
        obtain ⟨wo, hwo⟩ : ∃ wo : World, wo = wr := ⟨_, rfl⟩
        subst hwo
        by_cases hlt : k < N
        · go_wp2_with fail
          obtain ⟨y, hy, hcall⟩ := C1.out xs k wo HX.out
          have HY := Lib.hid hy; clear hy
          refine hcall.mono ?_
          clear hcall
          rintro e w3 ⟨rfl, h3⟩
          have hrow3 := HR.out.below h3 HR.out.lt
          have HR3 := Lib.hid hrow3; clear hrow3
          have hb3 := ext_trans HB.out h3
          have HB3 := Lib.hid hb3; clear hb3 h3
          go_wp2_with fail
          go_loopw [14, 87] (fun b i wr3 => ∃ j : Nat, j ≤ s.size ∧ i = .int .i64 j ∧ b = .bool (backK P s.size k j) ∧ Row wr3 w1.heap.size 3 (nats (midK P s.size k j)) ∧ Below w.heap.size w wr3) (fun _ i _ => s.size - (intOf i).toNat)
          case atStart => exact ⟨0, by omega, rfl, rfl, by rw [midK_zero]; exact HR3.out, HB3.out⟩
          case round =>
            clear HR HB HR3 HB3
            obtain ⟨j, hj, rfl, rfl, hrow, hb⟩ := hrel
            have HR := Lib.hid hrow; clear hrow
            have HB := Lib.hid hb; clear hb
            by_cases hlt2 : j < s.size
            · obtain ⟨v, v1, v2, -⟩ := LT.out k j hlt2
              have V1 := Lib.hid v1; clear v1
              have hcell : wr.cell? ⟨w1.heap.size, j, none⟩ = some (.int .i64 v) := by
                rw [HR.out.cell, nats_get, midK_get _ _ _ _ hlt2, V1.out]; rfl
              have hfz := HR.out.frozen j
              by_cases hbk : backK P s.size k j = true
              · go_wp2_with fail
                refine (C2.out v _ v2).mono ?_
                rintro e w4 ⟨rfl, h4⟩
                have hcell4 : w4.cell? ⟨w1.heap.size, j, none⟩ = some (.int .i64 v) := by
                  rw [h4.cell (p := ⟨w1.heap.size, j, none⟩) HR.out.lt]; exact hcell
                have hfz4 : w4.frozen? ⟨w1.heap.size, j, none⟩ = false := by
                  rw [h4.frozen (p := ⟨w1.heap.size, j, none⟩) HR.out.lt]; exact hfz
                have hrow4 := HR.out.below h4 HR.out.lt
                have HR4 := Lib.hid hrow4; clear hrow4
                have hb4 := ext_trans HB.out h4
                have HB4 := Lib.hid hb4; clear hb4 h4
                go_wp2_with fail
                go_roundw
                case rel =>
                  refine ⟨j + 1, by omega, by go_num, ?_, ?_, HB4.out.setCell H1.out.size _⟩
                  · rw [backK_succ P _ k j v V1.out, hbk, Bool.true_and, beq_cast]
                  · rw [← midK_set P _ k j v hlt2 V1.out, ← nats_set]; exact HR4.out.set _ _
                case measure => simp [intOf]; omega
              · have hbk' : backK P s.size k j = false := by simpa using hbk
                clear hbk
                go_wp2_with fail
                refine (C2.out v _ v2).mono ?_
                rintro e w4 ⟨rfl, h4⟩
                have hcell4 : w4.cell? ⟨w1.heap.size, j, none⟩ = some (.int .i64 v) := by
                  rw [h4.cell (p := ⟨w1.heap.size, j, none⟩) HR.out.lt]; exact hcell
                have hfz4 : w4.frozen? ⟨w1.heap.size, j, none⟩ = false := by
                  rw [h4.frozen (p := ⟨w1.heap.size, j, none⟩) HR.out.lt]; exact hfz
                have hrow4 := HR.out.below h4 HR.out.lt
                have HR4 := Lib.hid hrow4; clear hrow4
                have hb4 := ext_trans HB.out h4
                have HB4 := Lib.hid hb4; clear hb4 h4
                go_wp2_with fail
                go_roundw
                case rel =>
                  refine ⟨j + 1, by omega, by go_num, ?_, ?_, HB4.out.setCell H1.out.size _⟩
                  · rw [backK_succ P _ k j v V1.out, hbk', Bool.false_and]
                  · rw [← midK_set P _ k j v hlt2 V1.out, ← nats_set]; exact HR4.out.set _ _
                case measure => simp [intOf]; omega
            · obtain rfl : j = s.size := by omega
              have hsame : backK P s.size k s.size = decide (k + 1 = N) := O4.out k hlt
              have hrow' : Row wr w1.heap.size 3 (nats (atK P s.size (k + 1))) := by
                have := HR.out; rwa [midK_all] at this
              have HR' := Lib.hid hrow'; clear hrow' HR
              by_cases hkN : k + 1 = N
              · have e1 : backK P s.size k s.size = true := by rw [hsame]; simp [hkN]
                have hk2 : ((k : Int) == (N : Int) - 1) = true := by rw [beq_iff_eq]; omega
                have hk3 : N ≤ k + 1 := by omega
                clear hkN hsame
                go_wp2_with fail
                go_roundw
                case rel => exact ⟨k + 1, y, by omega, by go_num, rfl, HY.out, HR'.out, HB.out⟩
                case measure => simp [intOf]; omega
              · have e1 : backK P s.size k s.size = false := by rw [hsame]; simp [hkN]
                have hk2 : k + 1 < N := by omega
                clear hkN hsame
                go_wp2_with fail
                go_roundw
                case rel => exact ⟨k + 1, y, by omega, by go_num, rfl, HY.out, HR'.out, HB.out⟩
                case measure => simp [intOf]; omega
        · obtain rfl : k = N := by omega
          have hback : xK (1 + a0 % 12) s.data.toList k = s.data.toList := by
            obtain ⟨k', rfl⟩ : ∃ k', k = k' + 1 := ⟨k - 1, by omega⟩
            refine BK.out (k' + 1) ?_
            have := O4.out k' (by omega)
            rw [nz_len] at *
            rw [this]; simp
          have hxs : xs = s := by
            have h1 := HX.out
            rw [hback] at h1
            cases xs; cases s
            congr 1
            exact Array.toList_inj.1 h1
          subst hxs
          go_wp2_with fail
          refine (awake_any _).mono ?_
          rintro e w4 ⟨rfl, h4⟩
          have H4 := Lib.hid h4; clear h4
          go_wp2_with fail
          go_ret
          exact ⟨rfl, ext_trans HB.out H4.out⟩

set_option maxHeartbeats 1000000 in
theorem law_interleaveOrder (a0 : Int) (s : ByteArray) (w0 : (Lit.int .u8 a0).wf = true) (hs : s.size ≤ maxLen) (w : World) :
    Calls Try.prog 5 #[.int .u8 a0, .string s] w fun e w' => e = .returned (.bool true) ∧ Below w.heap.size w w' := by
  have hbd := bounds_u8 w0
  have hs' := hs
  unfold maxLen at hs'
  obtain ⟨h0, h255⟩ := hbd
  by_cases hf : fineB s.data.toList = true
  · have HF := Lib.hid hf; clear hf
    by_cases hl : s.size = 0
    · have hl' : ((s.size : Int) == 0) = true := by simp [hl]
      clear hl w0
      go_enter Try.func5, Try.ntmps5
      go_wp2_with (first | (go_at_call 10; refine (fine_yes _ _ HF.out).mono ?_; rintro e w' ⟨rfl, rfl⟩) | (go_at_call 11; refine (awake_any _).mono ?_; rintro e w' ⟨rfl, hb⟩))
      go_ret
      exact ⟨rfl, hb⟩
    · have hl' : ((s.size : Int) == 0) = false := by simp [hl]
      by_cases hm : (s.size : Int) % (1 + a0 % 12) = 0
      · exact order_main a0 s h0 h255 hs w HF (by omega) hm
      · have r1 : 1 ≤ 1 + a0 % 12 := by omega
        have hm' : ((s.size : Int) % (1 + a0 % 12) != 0) = true := by simp [hm]
        clear hl hm w0
        go_enter Try.func5, Try.ntmps5
        go_wp2_with (first | (go_at_call 10; refine (fine_yes _ _ HF.out).mono ?_; rintro e w' ⟨rfl, rfl⟩) | (go_at_call 11; refine (awake_any _).mono ?_; rintro e w' ⟨rfl, hb⟩))
        go_ret
        exact ⟨rfl, hb⟩
  · have hf' : fineB s.data.toList = false := by simpa using hf
    have HF := Lib.hid hf'; clear hf hf' w0
    go_enter Try.func5, Try.ntmps5
    go_wp2_with (first | (go_at_call 10; refine (fine_no _ _ HF.out).mono ?_; rintro e w' ⟨rfl, rfl⟩) | (go_at_call 11; refine (awake_any _).mono ?_; rintro e w' ⟨rfl, hb⟩))
    go_ret
    exact ⟨rfl, hb⟩
end Go.Proofs.Ytgjlhjklcgladaa
