/-
  The contract of Order.
-/
import Derived.Test.YtahfmeopecmpmaaDoorDgF
namespace Go.Proofs.YtahfmeopecmpmaaDoor
open Go.RowKit

def ordF (k G : Nat) : Nat → Nat → Nat → Nat
  | 0, _, _ => 0
  | f + 1, e, r => if st1 k G (2 * r) = 1 then e else ordF k G f (e + 1) (st1 k G (2 * r))
def orV (g : List UInt8) : Nat := if gck g = 0 then ordF (deg g) (vl g) 65536 1 1 else 0
def orE (g : List UInt8) : Int := if gck g = 0 then (if ordF (deg g) (vl g) 65536 1 1 = 0 then 6 else 0) else gck g

set_option maxHeartbeats 1000000 in
set_option maxRecDepth 100000 in
theorem Order_any (g : ByteArray) (w : World) : Calls Tryd.prog 29 #[.string g] w fun e w' => e = .returned (.tuple #[.int .i64 (orV g.data.toList : Nat), .int .i64 (orE g.data.toList)]) ∧ Below w.heap.size w w' := by
  by_cases h : gck g.data.toList = 0
  · have hg := (gck_iff _).1 h
    have HE := Lib.hid (show orE g.data.toList = if ordF (deg g.data.toList) (vl g.data.toList) 65536 1 1 = 0 then 6 else 0 by rw [orE, if_pos h])
    have HV := Lib.hid (show orV g.data.toList = ordF (deg g.data.toList) (vl g.data.toList) 65536 1 1 by rw [orV, if_pos h])
    have H := Lib.hid h; clear h
    have e0 : g.data.toList.length = g.size := rfl
    have hlo := hg.lo
    have hhi := hg.hi
    have hd : deg g.data.toList + 1 = g.size := by unfold deg; omega
    have hd32 := hg.deg_le
    have hk : (g.size : Int) - 1 = (deg g.data.toList : Int) := by omega
    have HN := Lib.hid (fun w => number_in g w (by omega) hg.bin)
    obtain ⟨hG, hG2⟩ := hg.rng
    obtain ⟨K, hK⟩ : ∃ K, deg g.data.toList = K := ⟨_, rfl⟩
    obtain ⟨G, hGG⟩ : ∃ G, vl g.data.toList = G := ⟨_, rfl⟩
    rw [hK] at hk hd32 hG hG2 HE HV hd
    rw [hGG] at hG hG2 HE HV
    have HGG := Lib.hid hGG
    have HG := Lib.hid hG
    have HG2 := Lib.hid hG2
    have hK1 : 1 ≤ K := by omega
    have hG33 : G < 8589934592 := Nat.lt_of_lt_of_le hG (Nat.le_trans (Nat.pow_le_pow_right (by omega) (show K + 1 ≤ 33 by omega)) (by decide))
    clear hGG hK hG hG2 hd hlo hhi e0 hg
    go_enter Tryd.func29, Tryd.ntmps29
    go_wp2_with fail
    refine (gCheck_any _ _).mono ?_
    rintro e w1 ⟨rfl, rfl⟩
    rw [H.out]
    go_wp2_with fail
    refine (HN.out _).mono ?_
    rintro e w2 ⟨rfl, h2⟩
    rw [HGG.out]
    have HB2 := Lib.hid h2; clear h2
    go_wp2_with fail
    go_loop [7, 8] (fun r e => ∃ (R n : Nat), 1 ≤ n ∧ n ≤ 65537 ∧ r = .int .u64 (R : Int) ∧ e = .int .i64 (n : Int) ∧ R < 2 ^ K ∧ ordF K G 65536 1 1 = ordF K G (65537 - n) n R) (fun _ e => 65537 - (intOf e).toNat)
    case atStart => exact ⟨1, 1, by omega, by omega, rfl, rfl, Nat.lt_of_lt_of_le (by decide : 1 < 2 ^ 1) (Nat.pow_le_pow_right (by omega) hK1), rfl⟩
    case round =>
      obtain ⟨R, n, hn1, hn2, rfl, rfl, hR, hst⟩ := hrel
      have HST := Lib.hid hst; clear hst
      by_cases hlt : n ≤ 65536
      · have h32 : 2 ^ K ≤ 2 ^ 32 := Nat.pow_le_pow_right (by omega) hd32
        have hlt' : decide ((n : Int) ≤ 65536) = true := by simp; omega
        obtain ⟨R2, hR2⟩ : ∃ R2, 2 * R = R2 := ⟨_, rfl⟩
        have hsh : (R : Int) * 2 = (R2 : Int) := by omega
        have hR2b : R2 < 8589934592 := by omega
        have HS2 := Lib.hid (st1_lt HG.out HG2.out (show R2 < 2 ^ (K + 1) by rw [Nat.pow_succ]; omega))
        have htb := top_bit K R2 (by omega)
        obtain ⟨f, hf⟩ : ∃ f, 65537 - n = f + 1 := ⟨65536 - n, by omega⟩
        have HO := Lib.hid (show ordF K G 65536 1 1 = if st1 K G R2 = 1 then n else ordF K G (65537 - (n + 1)) (n + 1) (st1 K G R2) by
          rw [HST.out, hf, ordF, hR2, show 65537 - (n + 1) = f by omega])
        obtain ⟨Q, hQ⟩ : ∃ Q, st1 K G R2 = Q := ⟨_, rfl⟩
        rw [hQ] at HO HS2
        clear hR h32 hR2 hf
        by_cases htt : R2.testBit K = true
        · have hxr := bits_xor_u64_nat R2 G (by omega) (by omega)
          have hqx : ((R2 ^^^ G : Nat) : Int) = (Q : Int) := by rw [← hQ, st1, if_pos htt]
          rw [hqx] at hxr
          rw [if_pos htt] at htb
          clear htt hqx hQ
          by_cases hq : Q = 1
          · have HF := Lib.hid (show ordF K G 65536 1 1 = n by rw [HO.out, if_pos hq])
            subst hq
            go_wp2_with fail
            go_ret2
            exact ⟨by rw [HV.out, HE.out, HF.out, if_neg (by omega)]; rfl, HB2.out⟩
          · have HF := Lib.hid (show ordF K G 65536 1 1 = ordF K G (65537 - (n + 1)) (n + 1) Q by rw [HO.out, if_neg hq])
            have hq1 : ((Q : Int) == 1) = false := by simp; omega
            clear hq
            go_wp2_with fail
            go_round
            case rel => exact ⟨Q, n + 1, by omega, by omega, rfl, by go_num, HS2.out, HF.out⟩
            case measure => simp [intOf]; omega
        · have hqx : R2 = Q := by rw [← hQ, st1, if_neg htt]
          subst hqx
          rw [if_neg htt] at htb
          clear htt hQ
          by_cases hq : R2 = 1
          · exact absurd hsh (by omega)
          · have HF := Lib.hid (show ordF K G 65536 1 1 = ordF K G (65537 - (n + 1)) (n + 1) R2 by rw [HO.out, if_neg hq])
            have hq1 : ((R2 : Int) == 1) = false := by simp; omega
            clear hq
            go_wp2_with fail
            go_round
            case rel => exact ⟨R2, n + 1, by omega, by omega, rfl, by go_num, HS2.out, HF.out⟩
            case measure => simp [intOf]; omega
      · have hd : decide ((n : Int) ≤ 65536) = false := by simp; omega
        obtain rfl : n = 65537 := by omega
        have HF := Lib.hid (show ordF K G 65536 1 1 = 0 from HST.out)
        go_wp2_with fail
        go_ret2
        exact ⟨by rw [HV.out, HE.out, HF.out, if_pos rfl]; rfl, HB2.out⟩
  · have HV := Lib.hid (show orV g.data.toList = 0 by rw [orV, if_neg h])
    have HE := Lib.hid (show orE g.data.toList = gck g.data.toList by rw [orE, if_neg h])
    have hb : (gck g.data.toList != 0) = true := by simpa using h
    clear h
    go_enter Tryd.func29, Tryd.ntmps29
    go_wp2_with fail
    refine (gCheck_any _ _).mono ?_
    rintro e w1 ⟨rfl, rfl⟩
    go_wp2_with fail
    go_ret2
    exact ⟨by rw [HV.out, HE.out]; rfl, Below.refl _ _⟩
end Go.Proofs.YtahfmeopecmpmaaDoor
