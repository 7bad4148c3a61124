/-
  The contracts of Sum, Append and Verify.
-/
import Derived.Test.YtdogepiddjoemaaDgE
import Derived.Lib.SmallJoins
namespace Go.Proofs.Ytdogepiddjoemaa
open Go.RowKit

structure Gen (l : List UInt8) : Prop where
  lo : 2 ≤ l.length
  hi : l.length ≤ 33
  bin : l.all isB = true
  fst : l.getD 0 0 = 49
  lst : l.getD (l.length - 1) 0 = 49
theorem gck_iff (l : List UInt8) : gck l = 0 ↔ Gen l := by
  unfold gck
  constructor
  · intro h
    split at h
    · omega
    · rename_i h1
      split at h
      · rename_i h2
        split at h
        · rename_i h3; exact ⟨by omega, by omega, h2, h3.1, h3.2⟩
        · omega
      · omega
  · rintro ⟨h1, h2, h3, h4, h5⟩
    rw [if_neg (by omega), if_pos h3, if_pos ⟨h4, h5⟩]
theorem vlF_lt : ∀ (l : List UInt8) (n : Nat), vlF n l < (n + 1) * 2 ^ l.length := fun l n => by
  rw [← vlB_bbs]
  have := vlB_lt (bbs l) n
  rwa [show (bbs l).length = l.length by simp [bbs]] at this
theorem vlF_ge : ∀ (l : List UInt8) (n : Nat), n * 2 ^ l.length ≤ vlF n l
  | [], n => by simp [vlF]
  | a :: l, n => by
    have h := vlF_ge l (2 * n + bt a)
    show _ ≤ vlF (2 * n + bt a) l
    refine Nat.le_trans ?_ h
    rw [List.length_cons, Nat.pow_succ, Nat.mul_comm (2 ^ l.length) 2, ← Nat.mul_assoc]
    exact Nat.mul_le_mul_right _ (by omega)
theorem Gen.cons {l : List UInt8} (h : Gen l) : ∃ t, l = 49 :: t := by
  cases l with
  | nil => have := h.lo; simp at this
  | cons a t => exact ⟨t, by have := h.fst; simp at this; rw [this]⟩
def deg (l : List UInt8) : Nat := l.length - 1
theorem Gen.rng {l : List UInt8} (h : Gen l) : vl l < 2 ^ (deg l + 1) ∧ 2 ^ deg l ≤ vl l := by
  obtain ⟨t, rfl⟩ := h.cons
  have h1 := vlF_lt t 1
  have h2 := vlF_ge t 1
  have e : vl (49 :: t) = vlF 1 t := rfl
  have e2 : deg (49 :: t) = t.length := by simp [deg]
  rw [e, e2, Nat.pow_succ]
  omega
theorem Gen.rm_lt {l : List UInt8} (h : Gen l) (m : List UInt8) : rm (deg l) (vl l) m < 2 ^ deg l := by
  rw [rm, ← rmB_bbs]
  exact rmB_lt h.rng.1 h.rng.2 _ _ (Nat.two_pow_pos _)
theorem Gen.deg_le {l : List UInt8} (h : Gen l) : deg l ≤ 32 := by have := h.hi; unfold deg; omega
theorem rem_any (g s : ByteArray) (w : World) (hg : Gen g.data.toList) (hs : s.size ≤ 140000) (hb : s.data.toList.all isB = true) :
    Calls Try.prog 18 #[.string g, .string s] w fun e w' => e = .returned (.int .u64 (rm (deg g.data.toList) (vl g.data.toList) s.data.toList : Nat)) ∧ Below w.heap.size w w' := by
  have e0 : g.data.toList.length = g.size := rfl
  have h1 := hg.lo
  have h2 := hg.hi
  have h3 := hg.rng
  have h4 : g.size = deg g.data.toList + 1 := by unfold deg; omega
  exact remainder_in g s w (by omega) (by omega) hg.bin hs hb (deg g.data.toList) h4 h3.1 h3.2

def dck (g w : List UInt8) : Int := if gck g = 0 then chk 2 w else gck g
def smV (g w : List UInt8) : List UInt8 := tx (rm (deg g) (vl g) (w ++ List.replicate (deg g) 48)) (deg g)
def smO (g w : List UInt8) : List UInt8 := if dck g w = 0 then smV g w else []
def apE (g w : List UInt8) : Int := if dck g w = 0 then (if w.length + deg g ≤ 65536 then 0 else 4) else dck g w
def apO (g w : List UInt8) : List UInt8 := if apE g w = 0 then w ++ smV g w else []
def vfB (g w : List UInt8) : Bool := if dck g w = 0 then decide (deg g ≤ w.length) && decide (rm (deg g) (vl g) w = 0) else false
theorem dck_ok {g w : List UInt8} (h : dck g w = 0) : Gen g ∧ w.length ≤ 65536 ∧ w.all isB = true := by
  unfold dck at h
  split at h
  · rename_i h1
    have h2 := (chk2_iff w).1 h
    exact ⟨(gck_iff g).1 h1, h2.1, h2.2⟩
  · rename_i h1; exact absurd h h1
theorem dck_gen {g w : List UInt8} (hg : Gen g) (hl : w.length ≤ 65536) (hb : w.all isB = true) : dck g w = 0 := by
  rw [dck, if_pos ((gck_iff g).2 hg)]; exact (chk2_iff w).2 ⟨hl, hb⟩
theorem rep48_bin (n : Nat) : (List.replicate n (48 : UInt8)).all isB = true := by
  rw [List.all_eq_true]; intro x hx; rw [List.eq_of_mem_replicate hx]; decide

theorem dcheck_any (g s : ByteArray) (w : World) : Calls Try.prog 17 #[.string g, .string s] w fun e w' => e = .returned (.int .i64 (dck g.data.toList s.data.toList)) ∧ ∃ n, w' = w.drewN n := by
  by_cases h : gck g.data.toList = 0
  · have HV := Lib.hid (show dck g.data.toList s.data.toList = chk 2 s.data.toList by rw [dck, if_pos h])
    have H := Lib.hid h; clear h
    go_enter Try.func17, Try.ntmps17
    go_wp2_with fail
    refine (gCheck_any _ _).mono ?_
    rintro e w1 ⟨rfl, rfl⟩
    rw [H.out]
    go_wp2_with fail
    refine (check_any _ _ _).mono ?_
    rintro e w1 ⟨rfl, n, rfl⟩
    go_wp2_with fail
    go_ret
    exact ⟨by rw [HV.out]; rfl, n, rfl⟩
  · have HV := Lib.hid (show dck g.data.toList s.data.toList = gck g.data.toList by rw [dck, if_neg h])
    have hb : (gck g.data.toList != 0) = true := by simpa using h
    clear h
    go_enter Try.func17, Try.ntmps17
    go_wp2_with fail
    refine (gCheck_any _ _).mono ?_
    rintro e w1 ⟨rfl, rfl⟩
    go_wp2_with fail
    go_ret
    exact ⟨by rw [HV.out]; rfl, 0, rfl⟩

set_option maxHeartbeats 1000000 in
set_option maxRecDepth 100000 in
theorem Sum_any (g s : ByteArray) (w : World) : Calls Try.prog 16 #[.string g, .string s] w fun e w' => e = .returned (.tuple #[.string ⟨(smO g.data.toList s.data.toList).toArray⟩, .int .i64 (dck g.data.toList s.data.toList)]) ∧ Below w.heap.size w w' := by
  by_cases h : dck g.data.toList s.data.toList = 0
  · obtain ⟨hg, hl, hb⟩ := dck_ok h
    have HO := Lib.hid (show smO g.data.toList s.data.toList = smV g.data.toList s.data.toList by rw [smO, if_pos h])
    have H := Lib.hid h; clear h
    have e0 : g.data.toList.length = g.size := rfl
    have e1 : s.data.toList.length = s.size := rfl
    have hlo := hg.lo
    have hd : deg g.data.toList + 1 = g.size := by unfold deg; omega
    have hd32 := hg.deg_le
    have hk : (g.size : Int) - 1 = (deg g.data.toList : Int) := by omega
    have HRL := Lib.hid (hg.rm_lt (s.data.toList ++ List.replicate (deg g.data.toList) 48))
    obtain ⟨K, hK⟩ : ∃ K, deg g.data.toList = K := ⟨_, rfl⟩
    have HK := Lib.hid hK
    have HG := Lib.hid hg
    have HB := Lib.hid hb
    rw [hK] at hk hd32 HRL
    have hss : s.size ≤ 65536 := by omega
    clear hK hd hlo e0 e1 hg hb hl
    go_enter Try.func16, Try.ntmps16
    go_wp2_with fail
    refine (dcheck_any _ _ _).mono ?_
    rintro e w1 ⟨rfl, n, rfl⟩
    rw [H.out]
    have H1 := Lib.hid (below_drewN (Below.refl w.heap.size w) n)
    go_wp2_with fail
    refine (Try.strings_Repeat ⟨#[48]⟩ K _ (by omega) (by simp [ByteArray.size]; omega)).mono ?_
    rintro e w2 ⟨rfl, h2⟩
    rw [show Lib.repeatL (⟨#[48]⟩ : ByteArray).data.toList K = List.replicate K 48 from repeatL_one 48 K]
    have H2 := Lib.hid (H1.out.trans (h2.mono H1.out.size)); clear h2
    obtain ⟨Z, hZ⟩ : ∃ Z : ByteArray, (⟨(List.replicate K (48 : UInt8)).toArray⟩ : ByteArray) = Z := ⟨_, rfl⟩
    rw [hZ]
    have hZs : Z.size = K := by rw [← hZ]; simp [ByteArray.size]
    have HZ := Lib.hid (show (s ++ Z).data.toList = s.data.toList ++ List.replicate K 48 by rw [Go.Joins.data_append, ← hZ])
    have hov : ¬ 9223372036854775807 < s.size + K := by omega
    have hov2 : ¬ 9223372036854775807 < s.size + Z.size := by omega
    have HZ2 := Lib.hid (show (s ++ Z).size ≤ 140000 by rw [ByteArray.size_append, hZs]; omega)
    clear hZ
    go_wp2_with fail
    refine (rem_any g (s ++ Z) _ HG.out HZ2.out (by rw [HZ.out, List.all_append, HB.out, rep48_bin]; rfl)).mono ?_
    rintro e w3 ⟨rfl, h3⟩
    rw [HZ.out, HK.out]
    have H3 := Lib.hid (H2.out.trans (h3.mono H2.out.size)); clear h3
    have h64 : rm K (vl g.data.toList) (s.data.toList ++ List.replicate K 48) < 18446744073709551616 := by
      refine Nat.lt_of_lt_of_le HRL.out ?_
      exact Nat.le_trans (Nat.pow_le_pow_right (by omega) hd32) (by decide)
    obtain ⟨R, hR⟩ : ∃ R, rm K (vl g.data.toList) (s.data.toList ++ List.replicate K 48) = R := ⟨_, rfl⟩
    rw [hR] at h64 ⊢
    have HRR := Lib.hid (show smV g.data.toList s.data.toList = tx R K by rw [smV, HK.out, hR])
    clear hR
    go_wp2_with fail
    refine (text_any R K _ h64 (by omega)).mono ?_
    rintro e w4 ⟨rfl, h4⟩
    have H4 := Lib.hid (H3.out.trans (h4.mono H3.out.size)); clear h4
    go_wp2_with fail
    go_ret2
    exact ⟨by rw [HO.out, HRR.out, H.out]; rfl, H4.out⟩
  · have HO := Lib.hid (show smO g.data.toList s.data.toList = [] by rw [smO, if_neg h])
    have hb : (dck g.data.toList s.data.toList != 0) = true := by simpa using h
    clear h
    go_enter Try.func16, Try.ntmps16
    go_wp2_with fail
    refine (dcheck_any _ _ _).mono ?_
    rintro e w1 ⟨rfl, n, rfl⟩
    have H1 := Lib.hid (below_drewN (Below.refl w.heap.size w) n)
    go_wp2_with fail
    go_ret2
    exact ⟨by rw [HO.out]; rfl, H1.out⟩
end Go.Proofs.Ytdogepiddjoemaa
