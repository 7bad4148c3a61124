/-
  The contracts of the references bits and Detects.
-/
import Derived.Test.YtahfmeopecmpmaaDoorRfE
namespace Go.Proofs.YtahfmeopecmpmaaDoor
open Go.RowKit

theorem tx_cons (r n : Nat) : tx r (n + 1) = (if r.testBit n then 49 else 48) :: tx r n := by
  unfold tx
  rw [List.range_succ_eq_map, List.map_cons, List.map_map]
  congr 1
  apply List.map_congr_left
  intro i _
  show (if r.testBit (n + 1 - 1 - (i + 1)) then (49 : UInt8) else 48) = if r.testBit (n - 1 - i) then 49 else 48
  rw [show n + 1 - 1 - (i + 1) = n - 1 - i by omega]
theorem bit_div (x i : Nat) : x.testBit i = decide (x / 2 ^ i % 2 = 1) := by
  rw [Nat.testBit_eq_decide_div_mod_eq]

set_option maxHeartbeats 1000000 in
set_option maxRecDepth 100000 in
theorem rbits_any (x n : Nat) (w : World) (hx : x ≤ 9000000000000000000) (hn : n ≤ 64) :
    Calls Tryd.prog 60 #[.int .i64 (x : Int), .int .i64 (n : Int)] w fun e w' => e = .returned (.string ⟨(tx x n).toArray⟩) ∧ w = w' := by
  go_enter Tryd.func60, Tryd.ntmps60
  go_wp2_with fail
  go_loopw [0, 5, 6] (fun y v i wr => ∃ (t : ByteArray) (Y k : Nat), k ≤ n ∧ y = .int .i64 (Y : Int) ∧ v = .string t ∧ i = .int .i64 (k : Int) ∧ Y = x / 2 ^ k ∧ t = ⟨(tx x k).toArray⟩ ∧ w = wr) (fun _ _ i _ => n - (intOf i).toNat)
  case atStart => exact ⟨⟨#[]⟩, x, 0, by omega, rfl, rfl, rfl, by simp, rfl, rfl⟩
  case round =>
    obtain ⟨t, Y, k, hk, rfl, rfl, rfl, hY, ht, rfl⟩ := hrel
    have hYx : Y ≤ x := by rw [hY]; exact Nat.div_le_self _ _
    have hts : t.size = k := by rw [ht, ba_len', tx_len]
    have HT := Lib.hid (show t.data.toList = tx x k by rw [ht])
    have HY := Lib.hid hY
    have HTE := Lib.hid ht
    clear hY ht
    by_cases hlt : k < n
    · have hd : decide ((k : Int) < (n : Int)) = true := by simp; omega
      obtain ⟨Z, hZ⟩ : ∃ Z, Y / 2 = Z := ⟨_, rfl⟩
      have hZi : ((Y : Int)).tdiv 2 = (Z : Int) := by rw [Int.tdiv_eq_ediv_of_nonneg (by omega)]; omega
      have hZi2 : ((Y : Int)) / 2 = (Z : Int) := by omega
      have HZ := Lib.hid (show Z = x / 2 ^ (k + 1) by rw [← hZ, HY.out, Nat.div_div_eq_div_mul, Nat.pow_succ])
      have hov : ¬ 9223372036854775807 < 1 + k := by omega
      have hov2 : ¬ 9223372036854775807 < 1 + t.size := by omega
      have hone : (⟨#[48]⟩ : ByteArray).size = 1 := rfl
      have hone2 : (⟨#[49]⟩ : ByteArray).size = 1 := rfl
      have HTS := Lib.hid hts
      clear hts
      rcases Nat.mod_two_eq_zero_or_one Y with h0 | h1
      · have hm : ((Y : Int)).tmod 2 = 0 := by rw [Int.tmod_eq_emod_of_nonneg (by omega)]; omega
        have hm2 : ((Y : Int)) % 2 = 0 := by omega
        have HN := Lib.hid (show (⟨#[48]⟩ : ByteArray) ++ t = ⟨(tx x (k + 1)).toArray⟩ by
          apply ByteArray.ext; apply Array.ext'
          rw [Go.Joins.data_append, tx_cons, bit_div, ← HY.out, h0, HT.out]; rfl)
        clear h0 hZ
        go_wp2_with fail
        go_roundw
        case rel => exact ⟨_, Z, k + 1, by omega, rfl, rfl, by go_num, HZ.out, HN.out, trivial⟩
        case measure => simp [intOf]; omega
      · have hm : ((Y : Int)).tmod 2 = 1 := by rw [Int.tmod_eq_emod_of_nonneg (by omega)]; omega
        have hm2 : ((Y : Int)) % 2 = 1 := by omega
        have HN := Lib.hid (show (⟨#[49]⟩ : ByteArray) ++ t = ⟨(tx x (k + 1)).toArray⟩ by
          apply ByteArray.ext; apply Array.ext'
          rw [Go.Joins.data_append, tx_cons, bit_div, ← HY.out, h1, HT.out]; rfl)
        clear h1 hZ
        go_wp2_with fail
        go_roundw
        case rel => exact ⟨_, Z, k + 1, by omega, rfl, rfl, by go_num, HZ.out, HN.out, trivial⟩
        case measure => simp [intOf]; omega
    · obtain rfl : k = n := by omega
      have hd : decide ((k : Int) < (k : Int)) = false := by simp
      go_wp2_with fail
      go_ret
      exact ⟨by rw [← HTE.out]; rfl, rfl⟩

theorem ne_empty {l : List UInt8} {B : ByteArray} (h : (⟨l.toArray⟩ : ByteArray) = B) (h0 : l ≠ []) : B.toList.isEmpty = false := by
  rw [ByteArray.toList_eq B, ← h]
  cases l with
  | nil => exact absurd rfl h0
  | cons a t => rfl
theorem pos_one (t : List UInt8) : 0 < vl (49 :: t) := by
  have h := vlF_ge t 1
  have h2 := Nat.two_pow_pos t.length
  have e : vl (49 :: t) = vlF 1 t := rfl
  omega

set_option maxHeartbeats 8000000 in
set_option maxRecDepth 100000 in
theorem rdetects_in (g : ByteArray) (N : Nat) (w : World) (hg : Gen g.data.toList) (h13 : g.size ≤ 13) (hN : N ≤ 64) :
    Calls Tryd.prog 32 #[.string g, .int .i64 (N : Int)] w fun e w' => e = .returned (.tuple #[.int .i64 ((min N (deg g.data.toList) : Nat) : Int), .int .i64 0]) ∧ Below w.heap.size w w' := by
  obtain ⟨m, hm, hml, hmb⟩ := hg.mid
  have hlo := hg.lo
  have e0 : g.data.toList.length = g.size := rfl
  have hself := (rest_nil hg hg.bin).2 hg.self
  have HGC := Lib.hid ((gck_iff _).2 hg)
  have HDV := Lib.hid (fun (t : ByteArray) (hb : t.data.toList.all isB = true) (hts : t.size ≤ 140000) w => rdivide_any g t w hg.bin (by omega) hb (by omega) hts)
  have HND := Lib.hid (show ∀ l : List UInt8, l.all isB = true → 0 < vl l → l.length ≤ deg g.data.toList → trm (dR g.data.toList l (stp g.data.toList l)) ≠ [] from fun l hb h0 hl h => by
    have h1 := (hg.rm_zero l).1 ((rest_nil hg hb).1 h)
    have h2 := dv_small hg.rng.1 hg.rng.2 (Nat.lt_of_lt_of_le (vl_lt l) (Nat.pow_le_pow_right (by omega) hl)) h1
    omega)
  have hz : g.size = deg g.data.toList + 1 := by unfold deg; omega
  have htx := tx_vl m.length m rfl hmb
  have hvm := vl_lt m
  obtain ⟨x0, hx0⟩ : ∃ x0, vl m = x0 := ⟨_, rfl⟩
  rw [hx0] at htx hvm
  obtain ⟨K, hK⟩ : ∃ K, deg g.data.toList = K := ⟨_, rfl⟩
  rw [hK] at hz hml HND ⊢
  obtain ⟨M, hM⟩ : ∃ M, m.length = M := ⟨_, rfl⟩
  rw [hM] at htx hvm hml
  have HGD := Lib.hid (show trm (dR g.data.toList (49 :: (tx x0 M ++ [49])) (stp g.data.toList (49 :: (tx x0 M ++ [49])))) = [] by
    rw [htx, ← hm]; exact hself)
  have HX0 := Lib.hid hvm
  have hK1 : 1 ≤ K := by omega
  have hK12 : K ≤ 12 := by omega
  have HKM := Lib.hid hml
  have hgs : decide ((13 : Int) < (g.size : Int)) = false := by simp; omega
  have hN0 : decide ((N : Int) < 0) = false := by simp
  have hN64 : decide ((64 : Int) < (N : Int)) = false := by simp; omega
  clear hm hmb hlo e0 hself htx hx0 hK hM hz hg hvm hml
  go_enter Tryd.func32, Tryd.ntmps32
  go_wp2_with fail
  refine (refGCheck_any _ _).mono ?_
  rintro e w1 ⟨rfl, rfl⟩
  rw [HGC.out]
  go_wp2_with fail
  go_loopw [7] (fun b wr => ∃ B : Nat, 1 ≤ B ∧ B ≤ N + 1 ∧ B ≤ K + 1 ∧ b = .int .i64 (B : Int) ∧ Below w.heap.size w wr) (fun b _ => N + 1 - (intOf b).toNat)
  case atStart => exact ⟨1, by omega, by omega, by omega, rfl, Below.refl _ _⟩
  case round =>
    obtain ⟨B, hB1, hB2, hB3, rfl, hb⟩ := hrel
    have HB := Lib.hid hb; clear hb
    by_cases hlt : B ≤ N
    · have hd2 : decide ((B : Int) ≤ (N : Int)) = true := by simp; omega
      have hd2' : decide (B ≤ N) = true := by simp; omega
      rcases (show B ≤ 1 ∨ (2 ≤ B ∧ B ≤ K) ∨ K + 1 ≤ B by omega) with hs | ⟨hs1, hs2⟩ | hs
      · have hs0 := hs
        go_wp2_with fail
        go_loopw [8, 9] (fun cc ii wq => ∃ c i : Nat, 2 ≤ i ∧ i ≤ max B 2 ∧ cc = .int .i64 (c : Int) ∧ ii = .int .i64 (i : Int) ∧ c = 2 ^ (i - 2) ∧ Below w.heap.size w wq) (fun _ ii _ => max B 2 - (intOf ii).toNat)
        case atStart => exact ⟨1, 2, by omega, by omega, rfl, rfl, rfl, HB.out⟩
        case round =>
          obtain ⟨c, i, hi1, hi2, rfl, rfl, hc, hb⟩ := hrel
          have HB2 := Lib.hid hb; clear hb
          have hc13 : c ≤ 2048 := by rw [hc]; exact Nat.le_trans (Nat.pow_le_pow_right (by omega) (show i - 2 ≤ 11 by omega)) (by decide)
          have HC := Lib.hid hc; clear hc
          by_cases hib : i < B
          · have hd3 : decide ((i : Int) < (B : Int)) = true := by simp; omega
            have hd3' : decide (i < B) = true := by simp; omega
            obtain ⟨c2, hc2⟩ : ∃ c2, c * 2 = c2 := ⟨_, rfl⟩
            have hc2i : (c : Int) * 2 = (c2 : Int) := by omega
            have HC2 := Lib.hid (show c2 = 2 ^ (i + 1 - 2) by rw [← hc2, HC.out, show i + 1 - 2 = (i - 2) + 1 by omega, Nat.pow_succ])
            clear hc2
            go_wp2_with fail
            go_roundw
            case rel => exact ⟨c2, i + 1, by omega, by omega, rfl, by go_num, HC2.out, HB2.out⟩
            case measure => simp [intOf]; omega
          · have hd3 : decide ((i : Int) < (B : Int)) = false := by simp; omega
            have hd3' : decide (i < B) = false := by simp; omega
            clear hib
            go_wp2_with fail
            go_loopw [10] (fun kk wq => ∃ k : Nat, k ≤ c ∧ kk = .int .i64 (k : Int) ∧ Below w.heap.size w wq) (fun kk _ => c - (intOf kk).toNat)
            case atStart => exact ⟨0, by omega, rfl, HB2.out⟩
            case round =>
              obtain ⟨k, hk, rfl, hb⟩ := hrel
              have HB3 := Lib.hid hb; clear hb
              by_cases hkc : k < c
              · have hkc0 := hkc
                have hd4 : decide ((k : Int) < (c : Int)) = true := by simp; omega
                have hd4' : decide (k < c) = true := by simp; omega
                have hd5 : decide ((1 : Int) < (B : Int)) = false := by simp; omega
                have hd5' : decide (1 < B) = false := by simp; omega
                obtain ⟨X, hX⟩ : ∃ X : ByteArray, (⟨#[49]⟩ : ByteArray) = X := ⟨_, rfl⟩
                have hXd : X.data.toList = [49] := by rw [← hX]
                have hXs : X.size ≤ 140000 := by rw [← hX]; decide
                have hXb : X.data.toList.all isB = true := by rw [hXd]; decide
                have hne : trm (dR g.data.toList X.data.toList (stp g.data.toList X.data.toList)) ≠ [] := HND.out _ hXb (by rw [hXd]; decide) (by rw [hXd]; show 1 ≤ K; omega)
                rw [← hX] at hne hXb hXs
                obtain ⟨RB, hRB⟩ : ∃ RB : ByteArray, (⟨(trm (dR g.data.toList (⟨#[49]⟩ : ByteArray).data.toList (stp g.data.toList (⟨#[49]⟩ : ByteArray).data.toList))).toArray⟩ : ByteArray) = RB := ⟨_, rfl⟩
                have hRe : RB.toList.isEmpty = false := ne_empty hRB hne
                have HRB := Lib.hid hRB
                have HD2 := Lib.hid (fun w => HDV.out (⟨#[49]⟩ : ByteArray) hXb hXs w)
                clear hRB hne hXb hXs hX hXd
                go_wp2_with fail
                refine (HD2.out _).mono ?_
                rintro e x4 ⟨rfl, h4⟩
                rw [HRB.out]
                have H4 := Lib.hid (HB3.out.trans (h4.mono HB3.out.size)); clear h4
                go_wp2_with fail
                go_roundw
                case rel => exact ⟨k + 1, by omega, by go_num, H4.out⟩
                case measure => simp [intOf]; omega
              · obtain rfl : k = c := by omega
                have hd4 : decide ((k : Int) < (k : Int)) = false := by simp
                go_wp2_with fail
                go_roundw
                case rel => exact ⟨B + 1, by omega, by omega, by omega, by go_num, HB3.out⟩
                case measure => simp [intOf]; omega
      · obtain ⟨M, hBMn⟩ : ∃ M, B - 2 = M := ⟨_, rfl⟩
        have hBM : (B : Int) - 2 = (M : Int) := by omega
        have hM12 : M ≤ 12 := by omega
        have hBMn2 : B = M + 2 ∨ False := .inl (by omega)
        have HBM := Lib.hid hBMn2
        clear hBMn2
        go_wp2_with fail
        go_loopw [8, 9] (fun cc ii wq => ∃ c i : Nat, 2 ≤ i ∧ i ≤ max B 2 ∧ cc = .int .i64 (c : Int) ∧ ii = .int .i64 (i : Int) ∧ c = 2 ^ (i - 2) ∧ Below w.heap.size w wq) (fun _ ii _ => max B 2 - (intOf ii).toNat)
        case atStart => exact ⟨1, 2, by omega, by omega, rfl, rfl, rfl, HB.out⟩
        case round =>
          obtain ⟨c, i, hi1, hi2, rfl, rfl, hc, hb⟩ := hrel
          have HB2 := Lib.hid hb; clear hb
          have hc13 : c ≤ 2048 := by rw [hc]; exact Nat.le_trans (Nat.pow_le_pow_right (by omega) (show i - 2 ≤ 11 by omega)) (by decide)
          have HC := Lib.hid hc; clear hc
          by_cases hib : i < B
          · have hd3 : decide ((i : Int) < (B : Int)) = true := by simp; omega
            have hd3' : decide (i < B) = true := by simp; omega
            obtain ⟨c2, hc2⟩ : ∃ c2, c * 2 = c2 := ⟨_, rfl⟩
            have hc2i : (c : Int) * 2 = (c2 : Int) := by omega
            have HC2 := Lib.hid (show c2 = 2 ^ (i + 1 - 2) by rw [← hc2, HC.out, show i + 1 - 2 = (i - 2) + 1 by omega, Nat.pow_succ])
            clear hc2
            go_wp2_with fail
            go_roundw
            case rel => exact ⟨c2, i + 1, by omega, by omega, rfl, by go_num, HC2.out, HB2.out⟩
            case measure => simp [intOf]; omega
          · have hd3 : decide ((i : Int) < (B : Int)) = false := by simp; omega
            have hd3' : decide (i < B) = false := by simp; omega
            have hcM : c = 2 ^ M := by rw [HC.out, show i - 2 = M by omega]
            clear hib
            have HCM := Lib.hid hcM; clear hcM
            go_wp2_with fail
            go_loopw [10] (fun kk wq => ∃ k : Nat, k ≤ c ∧ kk = .int .i64 (k : Int) ∧ Below w.heap.size w wq) (fun kk _ => c - (intOf kk).toNat)
            case atStart => exact ⟨0, by omega, rfl, HB2.out⟩
            case round =>
              obtain ⟨k, hk, rfl, hb⟩ := hrel
              have HB3 := Lib.hid hb; clear hb
              by_cases hkc : k < c
              · have hkc0 := hkc
                have hd4 : decide ((k : Int) < (c : Int)) = true := by simp; omega
                have hd4' : decide (k < c) = true := by simp; omega
                have hd5 : decide ((1 : Int) < (B : Int)) = true := by simp; omega
                have hd5' : decide (1 < B) = true := by simp; omega
                go_wp2_with fail
                refine (rbits_any k M _ (by omega) (by omega)).mono ?_
                rintro e x3 ⟨rfl, rfl⟩
                obtain ⟨T, hT⟩ : ∃ T : ByteArray, (⟨(tx k M).toArray⟩ : ByteArray) = T := ⟨_, rfl⟩
                rw [hT]
                have hTs : T.size = M := by rw [← hT]; simp [ByteArray.size, tx_len]
                have hXd : ((⟨#[49]⟩ : ByteArray) ++ T ++ ⟨#[49]⟩).data.toList = 49 :: (tx k M ++ [49]) := by rw [Go.Joins.data_append, Go.Joins.data_append, ← hT]; simp
                have hXs : ((⟨#[49]⟩ : ByteArray) ++ T ++ ⟨#[49]⟩).size ≤ 140000 := by rw [ByteArray.size_append, ByteArray.size_append, hTs]; show 1 + M + 1 ≤ _; omega
                have hXb : ((⟨#[49]⟩ : ByteArray) ++ T ++ ⟨#[49]⟩).data.toList.all isB = true := by rw [hXd, List.all_cons, List.all_append, tx_bin]; decide
                have hov : ¬ 9223372036854775807 < 1 + T.size := by omega
                have hov1 : ¬ 9223372036854775807 < 1 + M := by omega
                have hov2 : ¬ 9223372036854775807 < 1 + T.size + 1 := by omega
                have hov3 : ¬ 9223372036854775807 < 1 + M + 1 := by omega
                obtain ⟨R, hR⟩ : ∃ R, trm (dR g.data.toList ((⟨#[49]⟩ : ByteArray) ++ T ++ ⟨#[49]⟩).data.toList (stp g.data.toList ((⟨#[49]⟩ : ByteArray) ++ T ++ ⟨#[49]⟩).data.toList)) = R := ⟨_, rfl⟩
                have HR := Lib.hid hR
                have HD2 := Lib.hid (fun w => HDV.out ((⟨#[49]⟩ : ByteArray) ++ T ++ ⟨#[49]⟩) hXb hXs w)
                have hne : R ≠ [] := by rw [← hR]; exact HND.out _ hXb (by rw [hXd]; exact pos_one _) (by rw [hXd, List.length_cons, List.length_append, tx_len, List.length_singleton]; omega)
                obtain ⟨RB, hRB⟩ : ∃ RB : ByteArray, (⟨R.toArray⟩ : ByteArray) = RB := ⟨_, rfl⟩
                have hRe : RB.toList.isEmpty = false := ne_empty hRB hne
                have HRB := Lib.hid hRB
                clear hT hXd hXs hXb hR hRB hne
                go_wp2_with fail
                refine (HD2.out _).mono ?_
                rintro e x4 ⟨rfl, h4⟩
                rw [HR.out, HRB.out]
                have H4 := Lib.hid (HB3.out.trans (h4.mono HB3.out.size)); clear h4
                go_wp2_with fail
                go_roundw
                case rel => exact ⟨k + 1, by omega, by go_num, H4.out⟩
                case measure => simp [intOf]; omega
              · obtain rfl : k = c := by omega
                have hd4 : decide ((k : Int) < (k : Int)) = false := by simp
                go_wp2_with fail
                go_roundw
                case rel => exact ⟨B + 1, by omega, by omega, by omega, by go_num, HB3.out⟩
                case measure => simp [intOf]; omega
      · have hBM : (B : Int) - 2 = (M : Int) := by have := HKM.out; omega
        have hM12 : M ≤ 12 := by have := HKM.out; omega
        have hBMn : B - 2 = M := by have := HKM.out; omega
        have hB2 : 2 ≤ B := by omega
        have hBK : (B : Int) - 1 = (K : Int) := by omega
        have HMIN := Lib.hid (show min N K = K by omega)
        go_wp2_with fail
        go_loopw [8, 9] (fun cc ii wq => ∃ c i : Nat, 2 ≤ i ∧ i ≤ max B 2 ∧ cc = .int .i64 (c : Int) ∧ ii = .int .i64 (i : Int) ∧ c = 2 ^ (i - 2) ∧ Below w.heap.size w wq) (fun _ ii _ => max B 2 - (intOf ii).toNat)
        case atStart => exact ⟨1, 2, by omega, by omega, rfl, rfl, rfl, HB.out⟩
        case round =>
          obtain ⟨c, i, hi1, hi2, rfl, rfl, hc, hb⟩ := hrel
          have HB2 := Lib.hid hb; clear hb
          have hc13 : c ≤ 2048 := by rw [hc]; exact Nat.le_trans (Nat.pow_le_pow_right (by omega) (show i - 2 ≤ 11 by omega)) (by decide)
          have HC := Lib.hid hc; clear hc
          by_cases hib : i < B
          · have hd3 : decide ((i : Int) < (B : Int)) = true := by simp; omega
            have hd3' : decide (i < B) = true := by simp; omega
            obtain ⟨c2, hc2⟩ : ∃ c2, c * 2 = c2 := ⟨_, rfl⟩
            have hc2i : (c : Int) * 2 = (c2 : Int) := by omega
            have HC2 := Lib.hid (show c2 = 2 ^ (i + 1 - 2) by rw [← hc2, HC.out, show i + 1 - 2 = (i - 2) + 1 by omega, Nat.pow_succ])
            clear hc2
            go_wp2_with fail
            go_roundw
            case rel => exact ⟨c2, i + 1, by omega, by omega, rfl, by go_num, HC2.out, HB2.out⟩
            case measure => simp [intOf]; omega
          · have hd3 : decide ((i : Int) < (B : Int)) = false := by simp; omega
            have hd3' : decide (i < B) = false := by simp; omega
            have hcM : c = 2 ^ M := by rw [HC.out, show i - 2 = M by omega]
            have hxc : x0 < c := by rw [hcM]; exact HX0.out
            clear hib
            have HCM := Lib.hid hcM; clear hcM
            go_wp2_with fail
            go_loopw [10] (fun kk wq => ∃ k : Nat, k ≤ x0 ∧ kk = .int .i64 (k : Int) ∧ Below w.heap.size w wq) (fun kk _ => c - (intOf kk).toNat)
            case atStart => exact ⟨0, by omega, rfl, HB2.out⟩
            case round =>
              obtain ⟨k, hk, rfl, hb⟩ := hrel
              have HB3 := Lib.hid hb; clear hb
              have hkc : k < c := by omega
              have hd4 : decide ((k : Int) < (c : Int)) = true := by simp; omega
              have hd4' : decide (k < c) = true := by simp; omega
              have hd5 : decide ((1 : Int) < (B : Int)) = true := by simp; omega
              have hd5' : decide (1 < B) = true := by simp; omega
              go_wp2_with fail
              refine (rbits_any k M _ (by omega) (by omega)).mono ?_
              rintro e x3 ⟨rfl, rfl⟩
              obtain ⟨T, hT⟩ : ∃ T : ByteArray, (⟨(tx k M).toArray⟩ : ByteArray) = T := ⟨_, rfl⟩
              rw [hT]
              have hTs : T.size = M := by rw [← hT]; simp [ByteArray.size, tx_len]
              have hXd : ((⟨#[49]⟩ : ByteArray) ++ T ++ ⟨#[49]⟩).data.toList = 49 :: (tx k M ++ [49]) := by rw [Go.Joins.data_append, Go.Joins.data_append, ← hT]; simp
              have hXs : ((⟨#[49]⟩ : ByteArray) ++ T ++ ⟨#[49]⟩).size ≤ 140000 := by rw [ByteArray.size_append, ByteArray.size_append, hTs]; show 1 + M + 1 ≤ _; omega
              have hXb : ((⟨#[49]⟩ : ByteArray) ++ T ++ ⟨#[49]⟩).data.toList.all isB = true := by rw [hXd, List.all_cons, List.all_append, tx_bin]; decide
              have hov : ¬ 9223372036854775807 < 1 + T.size := by omega
              have hov1 : ¬ 9223372036854775807 < 1 + M := by omega
              have hov2 : ¬ 9223372036854775807 < 1 + T.size + 1 := by omega
              have hov3 : ¬ 9223372036854775807 < 1 + M + 1 := by omega
              obtain ⟨R, hR⟩ : ∃ R, trm (dR g.data.toList ((⟨#[49]⟩ : ByteArray) ++ T ++ ⟨#[49]⟩).data.toList (stp g.data.toList ((⟨#[49]⟩ : ByteArray) ++ T ++ ⟨#[49]⟩).data.toList)) = R := ⟨_, rfl⟩
              have HR := Lib.hid hR
              have HD2 := Lib.hid (fun w => HDV.out ((⟨#[49]⟩ : ByteArray) ++ T ++ ⟨#[49]⟩) hXb hXs w)
              have hx0 : k = x0 → R = [] := fun e => by rw [← hR, hXd, e]; exact HGD.out
              have HX00 := Lib.hid hx0
              clear hT hXd hXs hXb hR hx0
              go_wp2_with fail
              refine (HD2.out _).mono ?_
              rintro e x4 ⟨rfl, h4⟩
              rw [HR.out]
              have H4 := Lib.hid (HB3.out.trans (h4.mono HB3.out.size)); clear h4
              by_cases hz : R = []
              · subst hz
                go_wp2_with fail
                go_ret2
                exact ⟨by rw [HMIN.out]; rfl, H4.out⟩
              · obtain ⟨RB, hRB⟩ : ∃ RB : ByteArray, (⟨R.toArray⟩ : ByteArray) = RB := ⟨_, rfl⟩
                have hRe : RB.toList.isEmpty = false := ne_empty hRB hz
                have hkx : k + 1 ≤ x0 := by have : k ≠ x0 := fun e => hz (HX00.out e); omega
                rw [hRB]
                have HKX := Lib.hid hkx
                clear hz hRB hkx
                go_wp2_with fail
                go_roundw
                case rel => exact ⟨k + 1, HKX.out, by go_num, H4.out⟩
                case measure => simp [intOf]; omega
    · obtain rfl : B = N + 1 := by omega
      have hd2 : decide (((N + 1 : Nat) : Int) ≤ (N : Int)) = false := by simp; omega
      have hd2'' : decide ((N : Int) + 1 ≤ (N : Int)) = false := by simp; omega
      have HMIN := Lib.hid (show min N K = N by omega)
      go_wp2_with fail
      go_ret2
      exact ⟨by rw [HMIN.out]; rfl, HB.out⟩
end Go.Proofs.YtahfmeopecmpmaaDoor
