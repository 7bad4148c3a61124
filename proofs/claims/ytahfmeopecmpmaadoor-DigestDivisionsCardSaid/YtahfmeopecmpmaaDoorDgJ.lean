/-
  The contract of Detects.
-/
import Derived.Test.YtahfmeopecmpmaaDoorDgF
import Derived.WalkMore
namespace Go.Proofs.YtahfmeopecmpmaaDoor
open Go.RowKit

theorem vlF_app (n : Nat) (l m : List UInt8) : vlF n (l ++ m) = vlF (vlF n l) m := List.foldl_append
theorem rmF_app (k G n : Nat) (l m : List UInt8) : rmF k G n (l ++ m) = rmF k G (rmF k G n l) m := List.foldl_append
theorem rmF_small (k G : Nat) : ∀ (l : List UInt8) (n : Nat), vlF n l < 2 ^ k → rmF k G n l = vlF n l
  | [], _, _ => rfl
  | a :: l, n, h => by
    have h1 := vlF_ge l (2 * n + bt a)
    have h2 : 2 * n + bt a < 2 ^ k := Nat.lt_of_le_of_lt (Nat.le_trans (Nat.le_mul_of_pos_right _ (Nat.two_pow_pos _)) h1) h
    have e : st1 k G (2 * n + bt a) = 2 * n + bt a := by rw [st1, if_neg (by rw [Nat.testBit_lt_two_pow h2]; simp)]
    show rmF k G (st1 k G (2 * n + bt a)) l = _
    rw [e]
    exact rmF_small k G l _ h
theorem bt_bin {c : UInt8} (h : isB c = true) : c = if bt c = 1 then 49 else 48 := by
  have : c = 48 ∨ c = 49 := by simpa [isB] using h
  rcases this with rfl | rfl <;> rfl
theorem tx_succ (r n : Nat) : tx r (n + 1) = tx (r / 2) n ++ [if r.testBit 0 then 49 else 48] := by
  unfold tx
  rw [List.range_succ, List.map_append]
  congr 1
  · apply List.map_congr_left
    intro i hi
    have hi' : i < n := List.mem_range.1 hi
    rw [show n + 1 - 1 - i = (n - 1 - i) + 1 by omega, Nat.testBit_succ]
  · simp
theorem tx_vl : ∀ (n : Nat) (l : List UInt8), l.length = n → l.all isB = true → tx (vl l) n = l
  | 0, l, h, _ => by rw [List.eq_nil_of_length_eq_zero h]; rfl
  | n + 1, l, h, hb => by
    obtain ⟨m, c, rfl⟩ : ∃ m c, l = m ++ [c] := by
      rcases List.eq_nil_or_concat l with h0 | ⟨m, c, h0⟩
      · rw [h0] at h; simp at h
      · exact ⟨m, c, by rw [h0, List.concat_eq_append]⟩
    rw [List.all_append, Bool.and_eq_true] at hb
    have hm := tx_vl n m (by simpa using h) hb.1
    have hc : isB c = true := by simpa using hb.2
    have e : vl (m ++ [c]) = 2 * vl m + bt c := vlF_app 0 m [c]
    have hcl := bt_le c
    have hbit : (if (2 * vl m + bt c).testBit 0 = true then (49 : UInt8) else 48) = c := by
      have h2 : (2 * vl m + bt c) % 2 = bt c := by omega
      rw [Nat.testBit_zero, h2]
      have : c = 48 ∨ c = 49 := by simpa [isB] using hc
      rcases this with rfl | rfl <;> rfl
    rw [tx_succ, e, show (2 * vl m + bt c) / 2 = vl m by omega, hm, hbit]
/-- The generator between its first and its last letter. -/
theorem Gen.mid {l : List UInt8} (h : Gen l) : ∃ m, l = 49 :: (m ++ [49]) ∧ m.length + 1 = deg l ∧ m.all isB = true := by
  obtain ⟨t, rfl⟩ := h.cons
  have hlo := h.lo
  obtain ⟨m, c, rfl⟩ : ∃ m c, t = m ++ [c] := by
    rcases List.eq_nil_or_concat t with h0 | ⟨m, c, h0⟩
    · rw [h0] at hlo; simp at hlo
    · exact ⟨m, c, by rw [h0, List.concat_eq_append]⟩
  have hl := h.lst
  have hb := h.bin
  have e : (49 :: (m ++ [c])).getD ((49 :: (m ++ [c])).length - 1) 0 = c := by
    simp [List.getD_eq_getElem?_getD]
  rw [e] at hl
  subst hl
  simp only [List.all_cons, List.all_append, Bool.and_eq_true] at hb
  exact ⟨m, rfl, by simp [deg], hb.2.1⟩
theorem Gen.self {l : List UInt8} (h : Gen l) : rm (deg l) (vl l) l = 0 := by
  obtain ⟨m, hm, hl, hb⟩ := h.mid
  have hr := h.rng
  obtain ⟨k, hk⟩ : ∃ k, deg l = k := ⟨_, rfl⟩
  obtain ⟨G, hG⟩ : ∃ G, vl l = G := ⟨_, rfl⟩
  rw [hk, hG] at hr ⊢
  have e : G = 2 * vlF 0 (49 :: m) + 1 := by
    rw [← hG, hm, show (49 :: (m ++ [49]) : List UInt8) = (49 :: m) ++ [49] from rfl]
    exact vlF_app 0 (49 :: m) [49]
  have h1 : vlF 0 (49 :: m) < 2 ^ k := by have := hr.1; rw [Nat.pow_succ] at this; omega
  have h2 : rm k G l = st1 k G (2 * vlF 0 (49 :: m) + 1) := by
    rw [rm, hm, show (49 :: (m ++ [49]) : List UInt8) = (49 :: m) ++ [49] from rfl, rmF_app, rmF_small k G _ _ h1]
    rfl
  rw [h2, ← e, st1, if_pos (by rw [testBit_ge hr.1]; simpa using hr.2), Nat.xor_self]
def dtV (g : List UInt8) (n : Int) : Int := if gck g = 0 ∧ g.length ≤ 13 ∧ 0 ≤ n ∧ n ≤ 64 then min n (deg g : Int) else 0
def dtE (g : List UInt8) (n : Int) : Int := if gck g = 0 then (if g.length ≤ 13 then (if 0 ≤ n ∧ n ≤ 64 then 0 else 2) else 4) else gck g

set_option maxHeartbeats 1000000 in
set_option maxRecDepth 100000 in
theorem detects_in (g : ByteArray) (N : Nat) (w : World) (hg : Gen g.data.toList) (h13 : g.size ≤ 13) (hN : N ≤ 64) :
    Calls Tryd.prog 31 #[.string g, .int .i64 (N : Int)] w fun e w' => e = .returned (.tuple #[.int .i64 ((min N (deg g.data.toList) : Nat) : Int), .int .i64 0]) ∧ Below w.heap.size w w' := by
  obtain ⟨m, hm, hml, hmb⟩ := hg.mid
  have hlo := hg.lo
  have e0 : g.data.toList.length = g.size := rfl
  have hself := hg.self
  have HREM := Lib.hid (fun s w hs hb => rem_any g s w hg hs hb)
  have HGC := Lib.hid ((gck_iff _).2 hg)
  have hz : g.size = deg g.data.toList + 1 := by unfold deg; omega
  have hvm := vlF_lt m 0
  have htx := tx_vl m.length m rfl hmb
  obtain ⟨I, hI⟩ : ∃ I, vl m = I := ⟨_, rfl⟩
  obtain ⟨k, hk⟩ : ∃ k, deg g.data.toList = k := ⟨_, rfl⟩
  rw [hk] at hz hml
  rw [hI] at htx
  have hvm' : vlF 0 m < 2 ^ m.length := by simpa using hvm
  have HIm := Lib.hid (show I < 2 ^ m.length by rw [← hI]; exact hvm')
  clear hvm'
  obtain ⟨M, hM⟩ : ∃ M, m.length = M := ⟨_, rfl⟩
  rw [hM] at htx HIm hml
  subst hml
  have HZ := Lib.hid hz
  have HG := Lib.hid hg
  have HK := Lib.hid hk
  have HSELF := Lib.hid (show rm (M + 1) (vl g.data.toList) (49 :: (tx I M ++ [49])) = 0 by rw [htx, ← hm, ← hk]; exact hself)
  rw [hk] at HREM ⊢
  have hM11 : M ≤ 11 := by omega
  have hgs : (g.size : Int) = (M : Int) + 2 := by omega
  have hpow : (2 : Int) ^ M = ((2 ^ M : Nat) : Int) := by simp
  have hpl : 2 ^ M ≤ 2048 := Nat.le_trans (Nat.pow_le_pow_right (by omega) hM11) (by decide)
  obtain ⟨L, hL⟩ : ∃ L, 2 ^ M = L := ⟨_, rfl⟩
  rw [hL] at hpow hpl HIm
  have hL0 : 0 < L := by rw [← hL]; exact Nat.two_pow_pos _
  clear hm hmb hlo e0 hself hvm htx hI hk hM hz hg hL
  go_enter Tryd.func31, Tryd.ntmps31
  go_wp2
  go_step3
  go_wp2_with fail
  refine (gCheck_any _ _).mono ?_
  rintro e w1 ⟨rfl, rfl⟩
  rw [HGC.out]
  go_wp2_with fail
  go_step3
  go_wp2_with fail
  go_loopw [7, 8] (fun out b wr => ∃ B : Nat, 1 ≤ B ∧ B ≤ N + 1 ∧ B ≤ M + 2 ∧ b = .int .i64 (B : Int) ∧ out = .int .i64 ((B : Int) - 1) ∧ Below w.heap.size w wr) (fun _ b _ => N + 1 - (intOf b).toNat)
  case atStart => exact ⟨1, by omega, by omega, by omega, rfl, rfl, Below.refl _ _⟩
  case round =>
    obtain ⟨B, hB1, hB2, hB3, rfl, rfl, hb⟩ := hrel
    have HB := Lib.hid hb; clear hb
    by_cases hlt : B ≤ N
    · by_cases hs : B < M + 2
      · go_wp2_with fail
        go_roundw
        case rel => exact ⟨B + 1, by omega, by omega, by omega, by go_num, by rw [show ((B + 1 : Nat) : Int) - 1 = (B : Int) by omega], HB.out⟩
        case measure => simp [intOf]; omega
      · obtain rfl : B = M + 2 := by omega
        rw [show ((M + 2 : Nat) : Int) = (M : Int) + 2 from by omega]
        have hbN : decide ((M : Int) + 2 ≤ (N : Int)) = true := by rw [decide_eq_true_iff]; omega
        have hmin := Lib.hid (show min N (M + 1) = M + 1 by omega)
        have HIL := Lib.hid (show I < L from HIm.out)
        go_wp2_with fail
        go_loopw [38] (fun i wq => ∃ J : Nat, J ≤ I ∧ i = .int .u64 (J : Int) ∧ Below w.heap.size w wq) (fun i _ => I + 1 - (intOf i).toNat)
        case atStart => exact ⟨0, by omega, rfl, HB.out⟩
        case round =>
          obtain ⟨J, hJ, rfl, hb⟩ := hrel
          have HBB := Lib.hid hb; clear hb
          have hJL : J < L := by have := HIL.out; omega
          have hJL' : decide ((J : Int) < (L : Int)) = true := by simp; omega
          go_wp2_with fail
          refine (text_any J M _ (by omega) (by omega)).mono ?_
          rintro e w2 ⟨rfl, h2⟩
          have HB2 := Lib.hid (HBB.out.trans (h2.mono HBB.out.size)); clear h2
          obtain ⟨T, hT⟩ : ∃ T : ByteArray, (⟨(tx J M).toArray⟩ : ByteArray) = T := ⟨_, rfl⟩
          rw [hT]
          have hTs : T.size = M := by rw [← hT]; simp [ByteArray.size, tx_len]
          have HX := Lib.hid (show ((⟨#[49]⟩ : ByteArray) ++ T ++ ⟨#[49]⟩).data.toList = 49 :: (tx J M ++ [49]) by rw [Go.Joins.data_append, Go.Joins.data_append, ← hT]; simp)
          have HXS := Lib.hid (show ((⟨#[49]⟩ : ByteArray) ++ T ++ ⟨#[49]⟩).size ≤ 140000 by rw [ByteArray.size_append, ByteArray.size_append, hTs]; show 1 + M + 1 ≤ _; omega)
          have hov : ¬ 9223372036854775807 < 1 + T.size := by omega
          have hov1 : ¬ 9223372036854775807 < 1 + M := by omega
          have hov2 : ¬ 9223372036854775807 < 1 + T.size + 1 := by omega
          have hov3 : ¬ 9223372036854775807 < 1 + M + 1 := by omega
          clear hT
          go_wp2_with fail
          refine (HREM.out _ _ HXS.out (by rw [HX.out, List.all_cons, List.all_append, tx_bin]; decide)).mono ?_
          rintro e w3 ⟨rfl, h3⟩
          rw [HX.out]
          have HB3 := Lib.hid (HB2.out.trans (h3.mono HB2.out.size)); clear h3
          obtain ⟨R, hR⟩ : ∃ R, rm (M + 1) (vl g.data.toList) (49 :: (tx J M ++ [49])) = R := ⟨_, rfl⟩
          rw [hR]
          by_cases hz : R = 0
          · subst hz
            clear hR
            go_wp2_with fail
            rw [Exit.noGoto_ret]
            go_ret2
            exact ⟨by rw [hmin.out, show (M : Int) + 2 - 1 = ((M + 1 : Nat) : Int) by omega]; rfl, HB3.out⟩
          · have hzz : ((R : Int) == 0) = false := by simp; omega
            have HJI := Lib.hid (show J + 1 ≤ I by
              have : J ≠ I := fun e => hz (by rw [← hR, e]; exact HSELF.out)
              omega)
            clear hz hR
            go_wp2_with fail
            go_roundw
            case rel => exact ⟨J + 1, HJI.out, by go_num, HB3.out⟩
            case measure => have := HJI.out; simp [intOf]; omega
    · obtain rfl : B = N + 1 := by omega
      have hmin := Lib.hid (show min N (M + 1) = N by omega)
      go_wp2_with fail
      rw [Exit.noGoto_ret]
      go_ret2
      exact ⟨by rw [hmin.out, show ((N + 1 : Nat) : Int) - 1 = (N : Int) by omega]; rfl, HB.out⟩

set_option maxHeartbeats 1000000 in
set_option maxRecDepth 100000 in
theorem Detects_any (g : ByteArray) (n : Int) (w : World) :
    Calls Tryd.prog 31 #[.string g, .int .i64 n] w fun e w' => e = .returned (.tuple #[.int .i64 (dtV g.data.toList n), .int .i64 (dtE g.data.toList n)]) ∧ Below w.heap.size w w' := by
  by_cases h : gck g.data.toList = 0
  · have e0 : g.data.toList.length = g.size := rfl
    by_cases h13 : g.size ≤ 13
    · by_cases hn : 0 ≤ n ∧ n ≤ 64
      · obtain ⟨N, rfl⟩ : ∃ N : Nat, n = N := ⟨n.toNat, by omega⟩
        refine (detects_in g N w ((gck_iff _).1 h) h13 (by omega)).mono fun e w' ⟨h1, h2⟩ => ⟨?_, h2⟩
        rw [h1, dtV, if_pos ⟨h, by omega, hn.1, hn.2⟩, dtE, if_pos h, if_pos (by omega), if_pos hn]
        congr 5
        omega
      · have HV := Lib.hid (show dtV g.data.toList n = 0 by rw [dtV, if_neg (fun h => hn h.2.2)])
        have HE := Lib.hid (show dtE g.data.toList n = 2 by rw [dtE, if_pos h, if_pos (by omega), if_neg hn])
        have H := Lib.hid h; clear h
        have hlen : decide ((13 : Int) < (g.size : Int)) = false := by simp; omega
        by_cases h0 : n < 0
        · go_enter Tryd.func31, Tryd.ntmps31
          go_wp2
          go_step3
          go_wp2_with fail
          refine (gCheck_any _ _).mono ?_
          rintro e w1 ⟨rfl, rfl⟩
          rw [H.out]
          go_wp2_with fail
          rw [Exit.noGoto_ret]
          go_ret2
          exact ⟨by rw [HV.out, HE.out]; rfl, Below.refl _ _⟩
        · have h64 : 64 < n := by omega
          go_enter Tryd.func31, Tryd.ntmps31
          go_wp2
          go_step3
          go_wp2_with fail
          refine (gCheck_any _ _).mono ?_
          rintro e w1 ⟨rfl, rfl⟩
          rw [H.out]
          go_wp2_with fail
          rw [Exit.noGoto_ret]
          go_ret2
          exact ⟨by rw [HV.out, HE.out]; rfl, Below.refl _ _⟩
    · have HV := Lib.hid (show dtV g.data.toList n = 0 by rw [dtV, if_neg (fun h => h13 (by omega))])
      have HE := Lib.hid (show dtE g.data.toList n = 4 by rw [dtE, if_pos h, if_neg (by omega)])
      have H := Lib.hid h; clear h
      have hlen : decide ((13 : Int) < (g.size : Int)) = true := by simp; omega
      go_enter Tryd.func31, Tryd.ntmps31
      go_wp2
      go_step3
      go_wp2_with fail
      refine (gCheck_any _ _).mono ?_
      rintro e w1 ⟨rfl, rfl⟩
      rw [H.out]
      go_wp2_with fail
      rw [Exit.noGoto_ret]
      go_ret2
      exact ⟨by rw [HV.out, HE.out]; rfl, Below.refl _ _⟩
  · have HV := Lib.hid (show dtV g.data.toList n = 0 by rw [dtV, if_neg (fun h' => h h'.1)])
    have HE := Lib.hid (show dtE g.data.toList n = gck g.data.toList by rw [dtE, if_neg h])
    have hb : (gck g.data.toList != 0) = true := by simpa using h
    clear h
    go_enter Tryd.func31, Tryd.ntmps31
    go_wp2
    go_step3
    go_wp2_with fail
    refine (gCheck_any _ _).mono ?_
    rintro e w1 ⟨rfl, rfl⟩
    go_wp2_with fail
    rw [Exit.noGoto_ret]
    go_ret2
    exact ⟨by rw [HV.out, HE.out]; rfl, Below.refl _ _⟩
end Go.Proofs.YtahfmeopecmpmaaDoor
