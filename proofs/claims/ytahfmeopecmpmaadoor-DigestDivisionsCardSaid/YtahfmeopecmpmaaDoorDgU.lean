/-
  Plain laws: words with digests are verified; digests are linear.
-/
import Derived.Test.YtahfmeopecmpmaaDoorDgT
import Derived.Test.YtahfmeopecmpmaaDoorDgG
namespace Go.Proofs.YtahfmeopecmpmaaDoor
open Go.RowKit

theorem Gen.rm_app {g : List UInt8} (hg : Gen g) (w x : List UInt8) (hx : x.length = deg g) :
    rm (deg g) (vl g) (w ++ List.replicate (deg g) 48) = vl x ↔ dv (vl g) (vl (w ++ x)) := by
  rw [hg.rm_iff _ (by rw [← hx]; exact vl_lt x), vl_app', vl_app', vl_rep, Nat.xor_zero, hx, List.length_replicate]
theorem Gen.tx_iff {g : List UInt8} (hg : Gen g) (w x : List UInt8) (hx : x.length = deg g) (hb : x.all isB = true) :
    x = smV g w ↔ dv (vl g) (vl (w ++ x)) := by
  rw [← hg.rm_app w x hx, smV]
  constructor
  · intro h
    have := congrArg vl h
    rw [vl_tx _ _ (hg.rm_lt _)] at this
    exact this.symm
  · intro h
    rw [h, tx_vl _ x hx hb]
theorem smV_bin (g w : List UInt8) : (smV g w).all isB = true := tx_bin _ _
theorem vf_eq {g w : List UInt8} (hg : Gen g) (hw : w.length ≤ 65536) (hb : w.all isB = true) : vfB g w = (decide (deg g ≤ w.length) && decide (rm (deg g) (vl g) w = 0)) := by
  rw [vfB, if_pos (dck_gen hg hw hb)]
theorem vf_dv {g w : List UInt8} (hg : Gen g) (hw : w.length ≤ 65536) (hb : w.all isB = true) : vfB g w = true ↔ deg g ≤ w.length ∧ dv (vl g) (vl w) := by
  rw [vf_eq hg hw hb, Bool.and_eq_true, decide_eq_true_eq, decide_eq_true_eq, hg.rm_zero]
theorem vf_app {g w x : List UInt8} (hg : Gen g) (hw : w.length ≤ 60000) (hb : w.all isB = true) (hx : x.length = deg g) (hxb : x.all isB = true) : vfB g (w ++ x) = decide (x = smV g w) := by
  have h32 := hg.deg_le
  rw [Bool.eq_iff_iff, vf_dv hg (by rw [List.length_append]; omega) (by rw [List.all_append, hb, hxb]; rfl), decide_eq_true_eq, hg.tx_iff w x hx hxb]
  exact ⟨fun h => h.2, fun h => ⟨by rw [List.length_append]; omega, h⟩⟩
theorem vf_sum {g w : List UInt8} (hg : Gen g) (hw : w.length ≤ 60000) (hb : w.all isB = true) : vfB g (w ++ smV g w) = true := by
  rw [vf_app hg hw hb (smV_len g w) (smV_bin g w)]; exact decide_eq_true rfl
theorem vf_short {g w : List UInt8} (hg : Gen g) (hw : w.length ≤ 65536) (hb : w.all isB = true) (hs : w.length < deg g) : vfB g w = false := by
  rw [vf_eq hg hw hb, decide_eq_false (by omega)]; rfl
theorem ap_ok {g w : List UInt8} (hg : Gen g) (hw : w.length ≤ 60000) (hb : w.all isB = true) : apE g w = 0 ∧ apO g w = w ++ smV g w := by
  have h32 := hg.deg_le
  have h : apE g w = 0 := by rw [apE, if_pos (dck_gen hg (by omega) hb), if_pos (by omega)]
  exact ⟨h, by rw [apO, if_pos h]⟩
theorem sm_ok {g w : List UInt8} (hg : Gen g) (hw : w.length ≤ 65536) (hb : w.all isB = true) : smO g w = smV g w := by rw [smO, if_pos (dck_gen hg hw hb)]

/-! ### linear -/
theorem sm_dv {g : List UInt8} (hg : Gen g) (w : List UInt8) : dv (vl g) (2 ^ deg g * vl w ^^^ vl (smV g w)) := by
  have := (hg.tx_iff w _ (smV_len g w) (smV_bin g w)).1 rfl
  rwa [vl_app', smV_len] at this
theorem sm_iff {g : List UInt8} (hg : Gen g) (w x : List UInt8) (hx : x.length = deg g) (hb : x.all isB = true) : x = smV g w ↔ dv (vl g) (2 ^ deg g * vl w ^^^ vl x) := by
  rw [hg.tx_iff w x hx hb, vl_app', hx]
theorem sm_xr {g u v : List UInt8} (hg : Gen g) (hl : u.length = v.length) (hu : u.all isB = true) (hv : v.all isB = true) : smV g (xr u v) = xr (smV g u) (smV g v) := by
  symm
  have hl2 : (smV g u).length = (smV g v).length := by rw [smV_len, smV_len]
  rw [sm_iff hg _ _ (by rw [xr_len, smV_len, smV_len]; omega) (xr_bin _ _), vl_xr hl hu hv, vl_xr hl2 (smV_bin _ _) (smV_bin _ _), pow_xor, xor4]
  exact (sm_dv hg u).xor (sm_dv hg v)
theorem sm_zeros {g : List UInt8} (hg : Gen g) (n : Nat) (w : List UInt8) : smV g (List.replicate n 48 ++ w) = smV g w := by
  symm
  rw [sm_iff hg _ _ (smV_len g w) (smV_bin g w), vl_zeros]
  exact sm_dv hg w
theorem sm_none {g : List UInt8} (hg : Gen g) (n : Nat) : smV g (List.replicate n 48) = List.replicate (deg g) 48 := by
  symm
  rw [sm_iff hg _ _ (by rw [List.length_replicate]) (rep48_bin _), vl_rep, vl_rep, Nat.mul_zero, Nat.xor_zero]
  exact dv_zero _
/-- A word with zeros in front. -/
def pad (l : List UInt8) (n : Nat) : List UInt8 := List.replicate (n - l.length) 48 ++ l
theorem pad_len {l : List UInt8} {n : Nat} (h : l.length ≤ n) : (pad l n).length = n := by simp [pad]; omega
theorem pad_bin {l : List UInt8} (n : Nat) (h : l.all isB = true) : (pad l n).all isB = true := by rw [pad, List.all_append, rep48_bin, h]; rfl
theorem take_bin {l : List UInt8} (n : Nat) (h : l.all isB = true) : (l.take n).all isB = true := by
  rw [List.all_eq_true] at h ⊢
  exact fun x hx => h x (List.mem_of_mem_take hx)
theorem vl_pad (l : List UInt8) (n : Nat) : vl (pad l n) = vl l := vl_zeros _ _
end Go.Proofs.YtahfmeopecmpmaaDoor
