/-
  The contract of watermark.Unique: whether there is one cheapest alignment.
-/
import Derived.Test.YtpnfipemencgnaaWmO
import Derived.Test.YtpnfipemencgnaaWmF
namespace Go.Proofs.Ytpnfipemencgnaa
open Go.RowKit

def sm (h : Nat → Bool) (g : Nat → Nat) : Nat → Nat → Nat
  | 0, _ => 0
  | n + 1, j => (if h j then g (j + 1) else 0) + sm h g n (j + 1)
/-- How many alignments of the rests from (i, k) on have the least cost, at most 2. -/
def wyF (m r : List UInt8) : Nat → Nat → Nat → Nat
  | 0, _, _ => 1
  | f + 1, i, k => min ((if 2 + wcI m r (i + 1) k = wcI m r i k then wyF m r f (i + 1) k else 0) + sm (hit m r i k) (fun j => wyF m r f (i + 1) j) (r.length - k) k) 2
def wy (m r : List UInt8) (i k : Nat) : Nat := wyF m r (m.length - i) i k
theorem wy_last (m r : List UInt8) (k : Nat) : wy m r m.length k = 1 := by rw [wy, Nat.sub_self]; rfl
theorem wy_step (m r : List UInt8) (i k : Nat) (hi : i < m.length) : wy m r i k = min ((if 2 + wcI m r (i + 1) k = wcI m r i k then wy m r (i + 1) k else 0) + sm (hit m r i k) (wy m r (i + 1)) (r.length - k) k) 2 := by
  obtain ⟨f, hf⟩ : ∃ f, m.length - i = f + 1 := ⟨m.length - i - 1, by omega⟩
  have hf2 : m.length - (i + 1) = f := by omega
  have e : wy m r (i + 1) = fun j => wyF m r f (i + 1) j := by funext j; rw [wy, hf2]
  rw [wy, hf, wyF, e]
theorem wy_le (m r : List UInt8) (i k : Nat) : wy m r i k ≤ 2 := by
  unfold wy
  cases m.length - i with
  | zero => simp [wyF]
  | succ f => rw [wyF]; omega
attribute [irreducible] wy
theorem sm_step (h : Nat → Bool) (g : Nat → Nat) (n j : Nat) (hn : 0 < n) : sm h g n j = (if h j then g (j + 1) else 0) + sm h g (n - 1) (j + 1) := by
  obtain ⟨f, rfl⟩ : ∃ f, n = f + 1 := ⟨n - 1, by omega⟩
  rfl

/-- What a table holds, filled from the last place back to (I, 0) and, in the row before, to J. -/
def cfF (F : Nat → Nat → Nat) (M R I J : Nat) (p : Nat × Nat) : Option Value :=
  if p.1 ≤ M ∧ p.2 ≤ R ∧ (I ≤ p.1 ∨ (p.1 + 1 = I ∧ J ≤ p.2)) then some (.int .i64 (F p.1 p.2 : Nat)) else none
theorem cfF_start (F : Nat → Nat → Nat) (M R : Nat) (p : Nat × Nat) : cfF F M R (M + 1) (R + 1) p = none := by
  unfold cfF; rw [if_neg]; omega
theorem cfF_get {F : Nat → Nat → Nat} {M R I J : Nat} (i k : Nat) (h1 : i ≤ M) (h2 : k ≤ R) (h : I ≤ i ∨ (i + 1 = I ∧ J ≤ k)) (z : Value) : (cfF F M R I J (i, k)).getD z = .int .i64 (F i k : Nat) := by
  unfold cfF; rw [if_pos ⟨h1, h2, h⟩]; rfl
theorem cfF_put {F : Nat → Nat → Nat} {M R : Nat} (I J : Nat) (h1 : I ≤ M) (h2 : J ≤ R) (p : Nat × Nat) :
    (if p == (I, J) then some (Value.int .i64 (F I J : Nat)) else cfF F M R (I + 1) (J + 1) p) = cfF F M R (I + 1) J p := by
  obtain ⟨a, b⟩ := p
  by_cases h : ((a, b) == (I, J)) = true
  · rw [if_pos h]
    have := eq_of_beq h
    simp only [Prod.mk.injEq] at this
    obtain ⟨rfl, rfl⟩ := this
    unfold cfF; rw [if_pos ⟨h1, h2, .inr ⟨rfl, Nat.le_refl _⟩⟩]
  · rw [if_neg h]
    have hn : ¬ (a = I ∧ b = J) := by rintro ⟨rfl, rfl⟩; simp at h
    unfold cfF
    congr 1
    rw [eq_iff_iff]
    dsimp only
    omega
theorem cfF_next (F : Nat → Nat → Nat) (M R I : Nat) (p : Nat × Nat) : cfF F M R (I + 1) 0 p = cfF F M R I (R + 1) p := by
  unfold cfF
  congr 1
  rw [eq_iff_iff]
  omega

def uqV (m r : List UInt8) : Bool := if chkA m r = 0 then ((wy m r 0 0 : Nat) : Int) == 1 else false

set_option maxHeartbeats 4000000 in
set_option maxRecDepth 100000 in
theorem unique_ok (m r : ByteArray) (w : World) (h : chkA m.data.toList r.data.toList = 0) :
    Calls Try.prog 25 #[.string m, .string r] w fun e w' => e = .returned (.tuple #[.bool (((wy m.data.toList r.data.toList 0 0 : Nat) : Int) == 1), .int .i64 0]) ∧ Below w.heap.size w w' := by
  have hl := chkA_len h
  have hm : m.size ≤ 256 := hl.1
  have hr : r.size ≤ 256 := hl.2
  clear hl
  have hmm := @run_makeMap Try.prog
  have HW := Lib.hid (wcI_le m.data.toList r.data.toList)
  have HY := Lib.hid (wy_le m.data.toList r.data.toList)
  go_enter Try.func25, Try.ntmps25
  go_wp2_with fail
  refine (checkAlign_any _ _ _).mono ?_
  rintro e w1 ⟨rfl, n, rfl⟩
  rw [h]
  clear h
  go_wp2_with fail
  refine (costs_any m r _ hm hr).mono ?_
  rintro e w2 ⟨B, rfl, hB, hmap, hb⟩
  have HB2 := Lib.hid (show Below w.heap.size w w2 from (below_ofN n).trans hb)
  have HM := Lib.hid hmap; clear hmap
  have hBl : B < w2.heap.size := HM.out.lt
  have hsz : w.heap.size ≤ w2.heap.size := hb.size
  clear hb
  go_wp2_with fail
  go_loopw [9] (fun i wr => ∃ I : Nat, I ≤ m.size + 1 ∧ i = .int .i64 ((I : Int) - 1) ∧ MapIs wr w2.heap.size encR (cfF (wy m.data.toList r.data.toList) m.size r.size I (r.size + 1)) ∧ MapIs wr B encR (cf m.data.toList r.data.toList 0 (r.size + 1)) ∧ Below w.heap.size w wr) (fun i _ => (intOf i + 1).toNat)
  case atStart => exact ⟨m.size + 1, by omega, by go_num, (mapIs_new w2 encR).congr fun k => (cfF_start _ _ _ k).symm, HM.out.alloc _, HB2.out.alloc hsz _⟩
  case round =>
    obtain ⟨I, hI, hv, hmap, hmap2, hb⟩ := hrel
    have HMW := Lib.hid hmap; clear hmap
    have HMC := Lib.hid hmap2; clear hmap2
    have HB := Lib.hid hb; clear hb
    by_cases h0 : I = 0
    · subst h0
      subst hv
      go_wp2_with (at_lookup; refine wpList_lookM _ rfl _ _ _ rfl Try.underlying61 keyLaw_rest (z := .int .i64 0) (by kernel_rfl) _ _ rfl HMW.out (0, 0) rfl ?_; rw [cfF_get 0 0 (by omega) (by omega) (.inl (by omega))])
      go_ret2
      exact ⟨rfl, HB.out⟩
    · obtain ⟨i, rfl⟩ : ∃ i, I = i + 1 := ⟨I - 1, by omega⟩
      rw [show (((i + 1 : Nat) : Int) - 1) = (i : Int) by omega] at hv
      subst hv
      go_wp2_with fail
      go_loopw [10] (fun k wr2 => ∃ J : Nat, J ≤ r.size + 1 ∧ k = .int .i64 ((J : Int) - 1) ∧ MapIs wr2 w2.heap.size encR (cfF (wy m.data.toList r.data.toList) m.size r.size (i + 1) J) ∧ MapIs wr2 B encR (cf m.data.toList r.data.toList 0 (r.size + 1)) ∧ Below w.heap.size w wr2) (fun k _ => (intOf k + 1).toNat)
      case atStart => exact ⟨r.size + 1, by omega, by go_num, HMW.out, HMC.out, HB.out⟩
      case round =>
        obtain ⟨J, hJ, hv, hmap, hmap2, hb⟩ := hrel
        have HMW2 := Lib.hid hmap; clear hmap
        have HMC2 := Lib.hid hmap2; clear hmap2
        have HB3 := Lib.hid hb; clear hb
        by_cases hJ0 : J = 0
        · subst hJ0
          subst hv
          go_wp2_with fail
          go_roundw
          case rel => exact ⟨i, by omega, by go_num, HMW2.out.congr fun p => cfF_next _ _ _ _ p, HMC2.out, HB3.out⟩
          case measure => simp [intOf]
        · obtain ⟨k, rfl⟩ : ∃ k, J = k + 1 := ⟨J - 1, by omega⟩
          rw [show (((k + 1 : Nat) : Int) - 1) = (k : Int) by omega] at hv
          subst hv
          have hput := cfF_put (F := wy m.data.toList r.data.toList) (M := m.size) (R := r.size) i k (by omega) (by omega)
          have HP := Lib.hid hput; clear hput
          by_cases hlast : i = m.size
          · subst hlast
            have HV := Lib.hid (show wy m.data.toList r.data.toList m.size k = 1 from wy_last m.data.toList r.data.toList k)
            go_wp2_with (first | (at_mapUpdate; refine wpList_putM _ rfl _ _ _ _ rfl Try.underlying61 keyLaw_rest _ _ rfl HMW2.out (m.size, k) rfl ?_; intro w6 m6 g6 s6; have M6 := Lib.hid m6; clear m6; have G6 := Lib.hid g6; clear g6; have S6 := Lib.hid s6; clear s6))
            go_roundw
            case rel =>
              refine ⟨k, by omega, by go_num, M6.out.congr fun p => ?_, HMC2.out.grown G6.out (by intro h; cases h; omega), HB3.out.grown G6.out (by have := HB3.out.size; omega) (by intro k hk; simp at hk; omega)⟩
              rw [← HP.out p, HV.out]; rfl
            case measure => simp [intOf]
          · have hi1 : i < m.size := by omega
            have hE0 : ((i : Int) == (m.size : Int)) = false := by simp; omega
            have HV := Lib.hid (wy_step m.data.toList r.data.toList i k (by simp; omega))
            have hz := HW.out (i + 1) k
            have hz2 := HW.out i k
            have hy1 := HY.out (i + 1) k
            simp only [Array.length_toList, ByteArray.size_data] at hz hz2
            have L1 := fun n => look_eq (HMC2.out.drewN n) (i, k) (wcI m.data.toList r.data.toList i k) (fun z => cf_get _ _ (by simp; omega) (by simp; omega) (.inl (Nat.zero_le _)) z) (i : Int) (k : Int) rfl rfl
            have L2 := fun n => look_eq (HMC2.out.drewN n) (i + 1, k) (wcI m.data.toList r.data.toList (i + 1) k) (fun z => cf_get _ _ (by simp; omega) (by simp; omega) (.inl (Nat.zero_le _)) z) ((i : Int) + 1) (k : Int) rfl rfl
            have L3 := fun n => look_eq (HMW2.out.drewN n) (i + 1, k) (wy m.data.toList r.data.toList (i + 1) k) (fun z => cfF_get _ _ (by omega) (by omega) (.inl (by omega)) z) ((i : Int) + 1) (k : Int) rfl rfl
            obtain ⟨b, hT⟩ : ∃ b : Bool, ((2 + ((wcI m.data.toList r.data.toList (i + 1) k : Nat) : Int)) == ((wcI m.data.toList r.data.toList i k : Nat) : Int)) = b := ⟨_, rfl⟩
            have HN0 := Lib.hid (show (if 2 + wcI m.data.toList r.data.toList (i + 1) k = wcI m.data.toList r.data.toList i k then wy m.data.toList r.data.toList (i + 1) k else 0) = (if b then wy m.data.toList r.data.toList (i + 1) k else 0) by
              by_cases h : 2 + wcI m.data.toList r.data.toList (i + 1) k = wcI m.data.toList r.data.toList i k
              · have : b = true := by rw [← hT, beq_iff_eq]; omega
                rw [if_pos h, this]; rfl
              · have : b = false := by rw [← hT, beq_eq_false_iff_ne]; omega
                rw [if_neg h, this]; rfl)
            cases b with
            | true =>
              go_wp2_with fail
              go_quiet (fail)
              go_wp2_with fail
              clear L1 L2 L3
              obtain ⟨wo, hwo⟩ : ∃ wo, wo = wr.drewN nq := ⟨_, rfl⟩
              rw [← hwo]
              have HMWo : Hid (MapIs wo w2.heap.size encR (cfF (wy m.data.toList r.data.toList) m.size r.size (i + 1) (k + 1))) := Lib.hid (by rw [hwo]; exact HMW2.out.drewN _)
              have HMCo : Hid (MapIs wo B encR (cf m.data.toList r.data.toList 0 (r.size + 1))) := Lib.hid (by rw [hwo]; exact HMC2.out.drewN _)
              have HBo : Hid (Below w.heap.size w wo) := Lib.hid (by rw [hwo]; exact below_drewN HB3.out _)
              clear hwo
              go_loopw [11, 13] (fun n a wr3 => ∃ aa nn nd : Nat, k ≤ aa ∧ aa ≤ r.size ∧ a = .int .i64 aa ∧ n = .int .i64 nn ∧ nn ≤ 4 ∧ min (nn + sm (hit m.data.toList r.data.toList i k) (wy m.data.toList r.data.toList (i + 1)) (r.size - aa) aa) 2 = wy m.data.toList r.data.toList i k ∧ wr3 = wo.drewN nd) (fun _ a _ => r.size - (intOf a).toNat)
              case atStart =>
                refine ⟨k, wy m.data.toList r.data.toList (i + 1) k, 0, by omega, by omega, rfl, rfl, by omega, ?_, rfl⟩
                rw [HV.out, HN0.out]; rfl
              case round =>
                obtain ⟨aa, nn, nd, ha1, ha2, rfl, rfl, hnn, hmin, hwr⟩ := hrel
                have HMIN := Lib.hid hmin; clear hmin
                have HMW3 : Hid (MapIs wr w2.heap.size encR (cfF (wy m.data.toList r.data.toList) m.size r.size (i + 1) (k + 1))) := Lib.hid (by rw [hwr]; exact HMWo.out.drewN _)
                have HMC3 : Hid (MapIs wr B encR (cf m.data.toList r.data.toList 0 (r.size + 1))) := Lib.hid (by rw [hwr]; exact HMCo.out.drewN _)
                have HB4 : Hid (Below w.heap.size w wr) := Lib.hid (by rw [hwr]; exact below_drewN HBo.out _)
                have HWR := Lib.hid hwr; clear hwr
                by_cases hlt : aa < r.size
                · by_cases hn2 : nn < 2
                  · have hn2' : decide ((nn : Int) < 2) = true := by simp; omega
                    have hz3 := HW.out (i + 1) (aa + 1)
                    have hy3 := HY.out (i + 1) (aa + 1)
                    have b4 := dif_le m[i] r[aa]
                    simp only [Array.length_toList, ByteArray.size_data] at hz3
                    have K1 := fun n => look_eq (HMC3.out.drewN n) (i + 1, aa + 1) (wcI m.data.toList r.data.toList (i + 1) (aa + 1)) (fun z => cf_get _ _ (by simp; omega) (by simp; omega) (.inl (Nat.zero_le _)) z) ((i : Int) + 1) ((aa : Int) + 1) rfl rfl
                    have K2 := fun n => look_eq (HMW3.out.drewN n) (i + 1, aa + 1) (wy m.data.toList r.data.toList (i + 1) (aa + 1)) (fun z => cfF_get _ _ (by omega) (by omega) (.inl (by omega)) z) ((i : Int) + 1) ((aa : Int) + 1) rfl rfl
                    have hTT := hit_int m r i k aa hi1 hlt ha1
                    have HSM := Lib.hid (sm_step (hit m.data.toList r.data.toList i k) (wy m.data.toList r.data.toList (i + 1)) (r.size - aa) aa (by omega))
                    by_cases hh : hit m.data.toList r.data.toList i k aa = true
                    · rw [hh] at hTT
                      have HH := Lib.hid hh; clear hh
                      go_wp2_with fail
                      go_quiet ((go_at_call 46; exact Calls.quiet_of (differ_any _ _ _ _ _ hi1 hlt)))
                      go_wp2_with fail
                      go_roundw
                      case rel =>
                        refine ⟨aa + 1, nn + wy m.data.toList r.data.toList (i + 1) (aa + 1), _, by omega, by omega, by go_num, by go_num, by omega, ?_, by rw [HWR.out, World.drewN_drewN]⟩
                        rw [← HMIN.out, HSM.out, if_pos HH.out, Nat.sub_sub, Nat.add_assoc]
                      case measure => simp [intOf]; omega
                    · have hh' : hit m.data.toList r.data.toList i k aa = false := by simpa using hh
                      rw [hh'] at hTT
                      have HH := Lib.hid hh; clear hh hh'
                      go_wp2_with fail
                      go_quiet ((go_at_call 46; exact Calls.quiet_of (differ_any _ _ _ _ _ hi1 hlt)))
                      go_wp2_with fail
                      go_roundw
                      case rel =>
                        refine ⟨aa + 1, nn, _, by omega, by omega, by go_num, rfl, by omega, ?_, by rw [HWR.out, World.drewN_drewN]⟩
                        rw [← HMIN.out, HSM.out, if_neg HH.out, Nat.sub_sub, Nat.zero_add]
                      case measure => simp [intOf]; omega
                  · have hn2' : decide ((nn : Int) < 2) = false := by simp; omega
                    have HFIN := Lib.hid (show wy m.data.toList r.data.toList i k = 2 by have := HMIN.out; omega)
                    go_wp2_with (at_mapUpdate; refine wpList_putM _ rfl _ _ _ _ rfl Try.underlying61 keyLaw_rest _ _ rfl HMW3.out (i, k) rfl ?_; intro w6 m6 g6 s6; have M6 := Lib.hid m6; clear m6; have G6 := Lib.hid g6; clear g6; have S6 := Lib.hid s6; clear s6)
                    go_roundw
                    case rel =>
                      refine ⟨k, by omega, by go_num, M6.out.congr fun p => ?_, HMC3.out.grown G6.out (by intro h; cases h; omega), HB4.out.grown G6.out (by have := HB4.out.size; omega) (by intro k hk; simp at hk; omega)⟩
                      rw [← HP.out p, HFIN.out]
                      congr 2
                      refine congrArg (Value.int .i64) ?_
                      omega
                    case measure => simp [intOf]
                · obtain rfl : aa = r.size := by omega
                  have hlt' : decide ((r.size : Int) < (r.size : Int)) = false := by simp
                  have HFIN := Lib.hid (show wy m.data.toList r.data.toList i k = min nn 2 by have h := HMIN.out; rw [Nat.sub_self] at h; exact h.symm)
                  go_wp2_with (at_mapUpdate; refine wpList_putM _ rfl _ _ _ _ rfl Try.underlying61 keyLaw_rest _ _ rfl HMW3.out (i, k) rfl ?_; intro w6 m6 g6 s6; have M6 := Lib.hid m6; clear m6; have G6 := Lib.hid g6; clear g6; have S6 := Lib.hid s6; clear s6)
                  go_roundw
                  case rel =>
                    refine ⟨k, by omega, by go_num, M6.out.congr fun p => ?_, HMC3.out.grown G6.out (by intro h; cases h; omega), HB4.out.grown G6.out (by have := HB4.out.size; omega) (by intro k hk; simp at hk; omega)⟩
                    rw [← HP.out p, HFIN.out]
                    congr 2
                    refine congrArg (Value.int .i64) ?_
                    omega
                  case measure => simp [intOf]
            | false =>
              go_wp2_with fail
              go_quiet (fail)
              go_wp2_with fail
              clear L1 L2 L3
              obtain ⟨wo, hwo⟩ : ∃ wo, wo = wr.drewN nq := ⟨_, rfl⟩
              rw [← hwo]
              have HMWo : Hid (MapIs wo w2.heap.size encR (cfF (wy m.data.toList r.data.toList) m.size r.size (i + 1) (k + 1))) := Lib.hid (by rw [hwo]; exact HMW2.out.drewN _)
              have HMCo : Hid (MapIs wo B encR (cf m.data.toList r.data.toList 0 (r.size + 1))) := Lib.hid (by rw [hwo]; exact HMC2.out.drewN _)
              have HBo : Hid (Below w.heap.size w wo) := Lib.hid (by rw [hwo]; exact below_drewN HB3.out _)
              clear hwo
              go_loopw [11, 13] (fun n a wr3 => ∃ aa nn nd : Nat, k ≤ aa ∧ aa ≤ r.size ∧ a = .int .i64 aa ∧ n = .int .i64 nn ∧ nn ≤ 4 ∧ min (nn + sm (hit m.data.toList r.data.toList i k) (wy m.data.toList r.data.toList (i + 1)) (r.size - aa) aa) 2 = wy m.data.toList r.data.toList i k ∧ wr3 = wo.drewN nd) (fun _ a _ => r.size - (intOf a).toNat)
              case atStart =>
                refine ⟨k, 0, 0, by omega, by omega, rfl, rfl, by omega, ?_, rfl⟩
                rw [HV.out, HN0.out]; rfl
              case round =>
                obtain ⟨aa, nn, nd, ha1, ha2, rfl, rfl, hnn, hmin, hwr⟩ := hrel
                have HMIN := Lib.hid hmin; clear hmin
                have HMW3 : Hid (MapIs wr w2.heap.size encR (cfF (wy m.data.toList r.data.toList) m.size r.size (i + 1) (k + 1))) := Lib.hid (by rw [hwr]; exact HMWo.out.drewN _)
                have HMC3 : Hid (MapIs wr B encR (cf m.data.toList r.data.toList 0 (r.size + 1))) := Lib.hid (by rw [hwr]; exact HMCo.out.drewN _)
                have HB4 : Hid (Below w.heap.size w wr) := Lib.hid (by rw [hwr]; exact below_drewN HBo.out _)
                have HWR := Lib.hid hwr; clear hwr
                by_cases hlt : aa < r.size
                · by_cases hn2 : nn < 2
                  · have hn2' : decide ((nn : Int) < 2) = true := by simp; omega
                    have hz3 := HW.out (i + 1) (aa + 1)
                    have hy3 := HY.out (i + 1) (aa + 1)
                    have b4 := dif_le m[i] r[aa]
                    simp only [Array.length_toList, ByteArray.size_data] at hz3
                    have K1 := fun n => look_eq (HMC3.out.drewN n) (i + 1, aa + 1) (wcI m.data.toList r.data.toList (i + 1) (aa + 1)) (fun z => cf_get _ _ (by simp; omega) (by simp; omega) (.inl (Nat.zero_le _)) z) ((i : Int) + 1) ((aa : Int) + 1) rfl rfl
                    have K2 := fun n => look_eq (HMW3.out.drewN n) (i + 1, aa + 1) (wy m.data.toList r.data.toList (i + 1) (aa + 1)) (fun z => cfF_get _ _ (by omega) (by omega) (.inl (by omega)) z) ((i : Int) + 1) ((aa : Int) + 1) rfl rfl
                    have hTT := hit_int m r i k aa hi1 hlt ha1
                    have HSM := Lib.hid (sm_step (hit m.data.toList r.data.toList i k) (wy m.data.toList r.data.toList (i + 1)) (r.size - aa) aa (by omega))
                    by_cases hh : hit m.data.toList r.data.toList i k aa = true
                    · rw [hh] at hTT
                      have HH := Lib.hid hh; clear hh
                      go_wp2_with fail
                      go_quiet ((go_at_call 46; exact Calls.quiet_of (differ_any _ _ _ _ _ hi1 hlt)))
                      go_wp2_with fail
                      go_roundw
                      case rel =>
                        refine ⟨aa + 1, nn + wy m.data.toList r.data.toList (i + 1) (aa + 1), _, by omega, by omega, by go_num, by go_num, by omega, ?_, by rw [HWR.out, World.drewN_drewN]⟩
                        rw [← HMIN.out, HSM.out, if_pos HH.out, Nat.sub_sub, Nat.add_assoc]
                      case measure => simp [intOf]; omega
                    · have hh' : hit m.data.toList r.data.toList i k aa = false := by simpa using hh
                      rw [hh'] at hTT
                      have HH := Lib.hid hh; clear hh hh'
                      go_wp2_with fail
                      go_quiet ((go_at_call 46; exact Calls.quiet_of (differ_any _ _ _ _ _ hi1 hlt)))
                      go_wp2_with fail
                      go_roundw
                      case rel =>
                        refine ⟨aa + 1, nn, _, by omega, by omega, by go_num, rfl, by omega, ?_, by rw [HWR.out, World.drewN_drewN]⟩
                        rw [← HMIN.out, HSM.out, if_neg HH.out, Nat.sub_sub, Nat.zero_add]
                      case measure => simp [intOf]; omega
                  · have hn2' : decide ((nn : Int) < 2) = false := by simp; omega
                    have HFIN := Lib.hid (show wy m.data.toList r.data.toList i k = 2 by have := HMIN.out; omega)
                    go_wp2_with (at_mapUpdate; refine wpList_putM _ rfl _ _ _ _ rfl Try.underlying61 keyLaw_rest _ _ rfl HMW3.out (i, k) rfl ?_; intro w6 m6 g6 s6; have M6 := Lib.hid m6; clear m6; have G6 := Lib.hid g6; clear g6; have S6 := Lib.hid s6; clear s6)
                    go_roundw
                    case rel =>
                      refine ⟨k, by omega, by go_num, M6.out.congr fun p => ?_, HMC3.out.grown G6.out (by intro h; cases h; omega), HB4.out.grown G6.out (by have := HB4.out.size; omega) (by intro k hk; simp at hk; omega)⟩
                      rw [← HP.out p, HFIN.out]
                      congr 2
                      refine congrArg (Value.int .i64) ?_
                      omega
                    case measure => simp [intOf]
                · obtain rfl : aa = r.size := by omega
                  have hlt' : decide ((r.size : Int) < (r.size : Int)) = false := by simp
                  have HFIN := Lib.hid (show wy m.data.toList r.data.toList i k = min nn 2 by have h := HMIN.out; rw [Nat.sub_self] at h; exact h.symm)
                  go_wp2_with (at_mapUpdate; refine wpList_putM _ rfl _ _ _ _ rfl Try.underlying61 keyLaw_rest _ _ rfl HMW3.out (i, k) rfl ?_; intro w6 m6 g6 s6; have M6 := Lib.hid m6; clear m6; have G6 := Lib.hid g6; clear g6; have S6 := Lib.hid s6; clear s6)
                  go_roundw
                  case rel =>
                    refine ⟨k, by omega, by go_num, M6.out.congr fun p => ?_, HMC3.out.grown G6.out (by intro h; cases h; omega), HB4.out.grown G6.out (by have := HB4.out.size; omega) (by intro k hk; simp at hk; omega)⟩
                    rw [← HP.out p, HFIN.out]
                    congr 2
                    refine congrArg (Value.int .i64) ?_
                    omega
                  case measure => simp [intOf]

set_option maxHeartbeats 800000 in
set_option maxRecDepth 100000 in
theorem unique_any (m r : ByteArray) (w : World) :
    Calls Try.prog 25 #[.string m, .string r] w fun e w' => e = .returned (.tuple #[.bool (uqV m.data.toList r.data.toList), .int .i64 (chkA m.data.toList r.data.toList)]) ∧ Below w.heap.size w w' := by
  by_cases h : chkA m.data.toList r.data.toList = 0
  · refine (unique_ok m r w h).mono fun e w' ⟨he, hb⟩ => ⟨?_, hb⟩
    rw [he, uqV, if_pos h, h]
  · have hb : (chkA m.data.toList r.data.toList != 0) = true := by simpa using h
    have HV := Lib.hid (show uqV m.data.toList r.data.toList = false by rw [uqV, if_neg h])
    clear h
    go_enter Try.func25, Try.ntmps25
    go_wp2_with (go_at_call 42; refine (checkAlign_any _ _ _).mono ?_; rintro e w1 ⟨rfl, n, rfl⟩)
    go_ret2
    exact ⟨by rw [HV.out]; rfl, below_ofN n⟩
end Go.Proofs.Ytpnfipemencgnaa
