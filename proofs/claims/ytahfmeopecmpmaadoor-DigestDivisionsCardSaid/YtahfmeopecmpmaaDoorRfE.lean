/-
  The contract of the reference Order.
-/
import Derived.Test.YtahfmeopecmpmaaDoorRfD
namespace Go.Proofs.YtahfmeopecmpmaaDoor
open Go.RowKit

/-- The word of a remainder, without zeros in front. -/
structure Cn (l : List UInt8) (R : Nat) : Prop where
  led : led l
  bin : l.all isB = true
  val : vl l = R
theorem Cn.one {l : List UInt8} (h : Cn l 1) : l = [49] := led_inj h.led (.inr rfl) h.bin (by decide) (by rw [h.val]; rfl)
theorem Cn.one' {l : List UInt8} {R : Nat} (h : Cn l R) (hR : R = 1) : l = [49] := by subst hR; exact h.one
theorem Cn.not {l : List UInt8} {R : Nat} (h : Cn l R) (hR : R ≠ 1) : l ≠ [49] := fun e => hR (by rw [← h.val, e]; rfl)
theorem Cn.next {g l : List UInt8} {R : Nat} (hg : Gen g) (h : Cn l R) (hR : R < 2 ^ deg g) :
    Cn (trm (dR g (l ++ [48]) (stp g (l ++ [48])))) (st1 (deg g) (vl g) (2 * R)) ∧ (trm (dR g (l ++ [48]) (stp g (l ++ [48])))).length ≤ deg g := by
  have hb : (l ++ [48]).all isB = true := by rw [List.all_append, h.bin]; rfl
  obtain ⟨h1, h2, ⟨q, h3⟩, h4⟩ := hg.rest hb
  refine ⟨⟨h1, h2, ?_⟩, h4⟩
  rw [vl_app, h.val, vl_one, List.length_singleton] at h3
  have e : 2 ^ 1 * R + bt 48 = 2 * R := by show 2 ^ 1 * R + 0 = _; omega
  rw [e] at h3
  have h5 : dv (vl g) (2 * R ^^^ st1 (deg g) (vl g) (2 * R)) := st1_dv (by rw [Nat.xor_self]; exact dv_zero _)
  rw [h3, Nat.xor_assoc, dv_iff _ ⟨q, rfl⟩, ← h3] at h5
  have h6 := st1_lt hg.rng.1 hg.rng.2 (show 2 * R < 2 ^ (deg g + 1) by rw [Nat.pow_succ]; omega)
  exact xor_zero_eq (dv_small hg.rng.1 hg.rng.2 (Nat.xor_lt_two_pow (Nat.lt_of_lt_of_le (vl_lt _) (Nat.pow_le_pow_right (by omega) h4)) h6) h5)
theorem pw_deg1 {g : List UInt8} (hg : Gen g) (h : g.length = 2) {R : Nat} (hR : R = 1) : st1 (deg g) (vl g) (2 * R) = 1 := by
  have e : g = [49, 49] := by
    match g, hg, h with
    | [x, y], hg, _ =>
      have h1 := hg.fst
      have h2 := hg.lst
      simp at h1 h2
      rw [h1, h2]
  subst hR
  rw [e]; decide +kernel
/-- With two letters every remainder of a power is 1. -/
theorem pw_small {g : List UInt8} (hg : Gen g) (h : g.length = 2) : ∀ j, pw (deg g) (vl g) j = 1
  | 0 => rfl
  | j + 1 => by rw [pw]; exact pw_deg1 hg h (pw_small hg h j)

set_option maxHeartbeats 2000000 in
set_option maxRecDepth 100000 in
theorem rOrder_any (g : ByteArray) (w : World) : Calls Tryd.prog 30 #[.string g] w fun e w' => e = .returned (.tuple #[.int .i64 (orV g.data.toList : Nat), .int .i64 (orE g.data.toList)]) ∧ Below w.heap.size w w' := by
  by_cases h : gck g.data.toList = 0
  · have hg := (gck_iff _).1 h
    have HE := Lib.hid (show orE g.data.toList = if ordF (deg g.data.toList) (vl g.data.toList) 65536 1 1 = 0 then 6 else 0 by rw [orE, if_pos h])
    have HV := Lib.hid (show orV g.data.toList = ordF (deg g.data.toList) (vl g.data.toList) 65536 1 1 by rw [orV, if_pos h])
    have H := Lib.hid h; clear h
    have e0 : g.data.toList.length = g.size := rfl
    have hlo := hg.lo
    have hhi := hg.hi
    have hd : deg g.data.toList + 1 = g.size := by unfold deg; omega
    have hd32 := hg.deg_le
    have HCN := Lib.hid (fun (l : List UInt8) (R : Nat) => Cn.next (l := l) (R := R) hg)
    have HDV := Lib.hid (fun (t : ByteArray) (hb : t.data.toList.all isB = true) (hts : t.size ≤ 140000) w => rdivide_any g t w hg.bin (by omega) hb (by omega) hts)
    have HSM := Lib.hid (pw_small hg)
    obtain ⟨hG, hG2⟩ := hg.rng
    obtain ⟨K, hK⟩ : ∃ K, deg g.data.toList = K := ⟨_, rfl⟩
    obtain ⟨G, hGG⟩ : ∃ G, vl g.data.toList = G := ⟨_, rfl⟩
    rw [hK] at hd32 hG hG2 HE HV hd HCN HSM
    rw [hGG] at hG hG2 HE HV HCN HSM
    have HG := Lib.hid hG
    have HG2 := Lib.hid hG2
    have hK1 : 1 ≤ K := by omega
    have hlen2 : g.data.toList.length = g.size := rfl
    have HL2 := Lib.hid hlen2
    have hg33 : g.size ≤ 33 := hhi
    clear hGG hK hG hG2 hlo hhi e0 hg hlen2
    go_enter Tryd.func30, Tryd.ntmps30
    go_wp2_with fail
    refine (refGCheck_any _ _).mono ?_
    rintro e w1 ⟨rfl, rfl⟩
    rw [H.out]
    go_wp2_with fail
    go_loopw [5, 6] (fun r e wr => ∃ (RB : ByteArray) (R n : Nat), 1 ≤ n ∧ n ≤ 65537 ∧ r = .string RB ∧ e = .int .i64 (n : Int) ∧ Cn RB.data.toList R ∧ RB.size ≤ K ∧ R < 2 ^ K ∧ R = pw K G (n - 1) ∧ ordF K G 65536 1 1 = ordF K G (65537 - n) n R ∧ Below w.heap.size w wr) (fun _ e _ => 65537 - (intOf e).toNat)
    case atStart => exact ⟨⟨#[49]⟩, 1, 1, by omega, by omega, rfl, rfl, ⟨.inr rfl, by decide, rfl⟩, by simp [ByteArray.size]; omega, Nat.lt_of_lt_of_le (by decide : 1 < 2 ^ 1) (Nat.pow_le_pow_right (by omega) hK1), rfl, rfl, Below.refl _ _⟩
    case round =>
      obtain ⟨RB, R, n, hn1, hn2, rfl, rfl, hcn, hrl, hR, hpw, hst, hb⟩ := hrel
      have HST := Lib.hid hst; clear hst
      have HB := Lib.hid hb; clear hb
      by_cases hlt : n ≤ 65536
      · have hlt' : decide ((n : Int) ≤ 65536) = true := by simp; omega
        obtain ⟨f, hf⟩ : ∃ f, 65537 - n = f + 1 := ⟨65536 - n, by omega⟩
        have HO := Lib.hid (show ordF K G 65536 1 1 = if st1 K G (2 * R) = 1 then n else ordF K G (65537 - (n + 1)) (n + 1) (st1 K G (2 * R)) by
          rw [HST.out, hf, ordF, show 65537 - (n + 1) = f by omega])
        obtain ⟨hcn2, hrl2⟩ := HCN.out _ _ hcn hR
        have hq2 := st1_lt HG.out HG2.out (show 2 * R < 2 ^ (K + 1) by rw [Nat.pow_succ]; omega)
        have hpw2 : st1 K G (2 * R) = pw K G n := by
          obtain ⟨j, rfl⟩ : ∃ j, n = j + 1 := ⟨n - 1, by omega⟩
          rw [hpw, Nat.add_sub_cancel, pw]
        have hRBb : (RB.data.toList ++ [48]).all isB = true := by rw [List.all_append, hcn.bin]; rfl
        have hda : (RB ++ (⟨#[48]⟩ : ByteArray)).data.toList = RB.data.toList ++ [48] := by rw [Go.Joins.data_append]
        have hone : (⟨#[48]⟩ : ByteArray).size = 1 := rfl
        have HDA := Lib.hid hda
        have HD2 := Lib.hid (fun w => HDV.out (RB ++ (⟨#[48]⟩ : ByteArray)) (by rw [hda]; exact hRBb) (by rw [ByteArray.size_append, hone]; omega) w)
        obtain ⟨l2, hl2⟩ : ∃ l2, trm (dR g.data.toList (RB.data.toList ++ [48]) (stp g.data.toList (RB.data.toList ++ [48]))) = l2 := ⟨_, rfl⟩
        rw [hl2] at hcn2 hrl2
        obtain ⟨Q, hQ⟩ : ∃ Q, st1 K G (2 * R) = Q := ⟨_, rfl⟩
        rw [hQ] at HO hcn2 hq2 hpw2
        obtain ⟨NB, hNB⟩ : ∃ NB : ByteArray, (⟨l2.toArray⟩ : ByteArray) = NB := ⟨_, rfl⟩
        have hNd : NB.data.toList = l2 := by rw [← hNB]
        have hNs : NB.size ≤ K := by rw [← hNB, ba_len']; exact hrl2
        have HNB := Lib.hid (show (⟨(trm (dR g.data.toList (RB.data.toList ++ [48]) (stp g.data.toList (RB.data.toList ++ [48])))).toArray⟩ : ByteArray) = NB by rw [hl2, hNB])
        have hov : ¬ 9223372036854775807 < RB.size + 1 := by omega
        have hNt := ByteArray.toList_eq NB
        rw [← hNd] at hcn2
        have HCN2 := Lib.hid hcn2
        have HQ2 := Lib.hid hq2
        have HPW2 := Lib.hid hpw2
        clear hl2 hQ hcn hR hpw hRBb hda hf hNB hrl2 hcn2 hq2 hpw2
        by_cases hq : Q = 1
        · have ht : (NB.toList == [49]) = true := by rw [hNt, HCN2.out.one' hq]; rfl
          have HF := Lib.hid (show ordF K G 65536 1 1 = n by rw [HO.out, if_pos hq])
          clear hq hNd hNt
          go_wp2_with fail
          refine (HD2.out _).mono ?_
          rintro e w2 ⟨rfl, h2⟩
          rw [HDA.out, HNB.out]
          have H2 := Lib.hid (HB.out.trans (h2.mono HB.out.size)); clear h2
          go_wp2_with fail
          go_ret2
          exact ⟨by rw [HV.out, HE.out, HF.out, if_neg (by omega)]; rfl, H2.out⟩
        · have ht : (NB.toList == [49]) = false := by
            rw [beq_eq_false_iff_ne, hNt]; exact HCN2.out.not hq
          have hg2 : ((g.size : Int) == 2) = false := by
            rw [beq_eq_false_iff_ne]; intro he
            exact hq (by rw [HPW2.out]; exact HSM.out (by rw [HL2.out]; omega) n)
          have HF := Lib.hid (show ordF K G 65536 1 1 = ordF K G (65537 - (n + 1)) (n + 1) Q by rw [HO.out, if_neg hq])
          clear hq hNd hNt
          go_wp2_with fail
          refine (HD2.out _).mono ?_
          rintro e w2 ⟨rfl, h2⟩
          rw [HDA.out, HNB.out]
          have H2 := Lib.hid (HB.out.trans (h2.mono HB.out.size)); clear h2
          go_wp2_with fail
          go_roundw
          case rel => exact ⟨NB, Q, n + 1, by omega, by omega, rfl, by go_num, HCN2.out, hNs, HQ2.out, by rw [HPW2.out, Nat.add_sub_cancel], HF.out, H2.out⟩
          case measure => simp [intOf]; omega
      · have hd : decide ((n : Int) ≤ 65536) = false := by simp; omega
        obtain rfl : n = 65537 := by omega
        have HF := Lib.hid (show ordF K G 65536 1 1 = 0 from HST.out)
        go_wp2_with fail
        go_ret2
        exact ⟨by rw [HV.out, HE.out, HF.out, if_pos rfl]; rfl, HB.out⟩
  · have HV := Lib.hid (show orV g.data.toList = 0 by rw [orV, if_neg h])
    have HE := Lib.hid (show orE g.data.toList = gck g.data.toList by rw [orE, if_neg h])
    have hb : (gck g.data.toList != 0) = true := by simpa using h
    clear h
    go_enter Tryd.func30, Tryd.ntmps30
    go_wp2_with fail
    refine (refGCheck_any _ _).mono ?_
    rintro e w1 ⟨rfl, rfl⟩
    go_wp2_with fail
    go_ret2
    exact ⟨by rw [HV.out, HE.out]; rfl, Below.refl _ _⟩
end Go.Proofs.YtahfmeopecmpmaaDoor
