/-
  The contract of the reference divide.
-/
import Derived.Test.YtahfmeopecmpmaaDoorRfA
namespace Go.Proofs.YtahfmeopecmpmaaDoor
open Go.RowKit

/-- The letters that the rest has in front, step by step. -/
def qq (g w : List UInt8) (i : Nat) : List UInt8 := (List.range i).map fun j => (dR g w j).getD j 0
theorem qq_len (g w : List UInt8) (i : Nat) : (qq g w i).length = i := by simp [qq]
theorem qq_next (g w : List UInt8) (i : Nat) : qq g w (i + 1) = qq g w i ++ [(dR g w i).getD i 0] := by
  rw [qq, qq, List.range_succ, List.map_append]; rfl
theorem dQ_qq {g w : List UInt8} (hg : g.all isB = true) (hw : w.all isB = true) (h1 : 1 ≤ g.length) : ∀ i, i + g.length ≤ w.length + 1 →
    dQ g w i = List.replicate (g.length - 1) 48 ++ (qq g w i ++ List.replicate (w.length - (g.length - 1) - i) 48)
  | 0, h => by
    rw [dQ, show qq g w 0 = [] from rfl, List.nil_append, List.replicate_append_replicate]
    congr 1; omega
  | i + 1, h => by
    have ih := dQ_qq hg hw h1 i (by omega)
    have hb := dR_bin hg hw i (by omega)
    have hl := dR_len g w i
    obtain ⟨y, hy⟩ : ∃ y, (dR g w i).getD i 0 = y := ⟨_, rfl⟩
    have hyb : isB y = true := by
      rw [← hy, List.getD_eq_getElem?_getD, List.getElem?_eq_getElem (by omega)]
      exact all_get hb i (by omega)
    have key : dQ g w (i + 1) = (dQ g w i).set (i + g.length - 1) y := by
      rw [dQ, hy]
      by_cases h49 : y = 49
      · rw [if_pos h49, h49]
      · rw [if_neg h49]
        have h48 : y = 48 := by
          rcases isB_or hyb with h | h
          · exact h
          · exact absurd h h49
        apply List.ext_getElem?
        intro j
        rw [List.getElem?_set]
        split
        · rename_i h5
          subst h5
          rw [if_pos (by rw [dQ_len]; omega), dQ_zero w h1 i _ (Nat.le_refl _) (by omega), h48]
        · rfl
    rw [key, ih, qq_next, hy, List.set_append, if_neg (by simp; omega), List.length_replicate, List.set_append, if_neg (by rw [qq_len]; omega), qq_len,
      show w.length - (g.length - 1) - i = (w.length - (g.length - 1) - (i + 1)) + 1 by omega, List.replicate_succ, show i + g.length - 1 - (g.length - 1) - i = 0 by omega, List.set_cons_zero, List.append_assoc, List.singleton_append]
theorem trm_zeros : ∀ (n : Nat) (l : List UInt8), trm (List.replicate n 48 ++ l) = trm l
  | 0, _ => rfl
  | n + 1, l => by
    have e : trm (48 :: (List.replicate n 48 ++ l)) = trm (List.replicate n 48 ++ l) := by simp [trm, Lib.trimLeftB]
    rw [List.replicate_succ, List.cons_append, e, trm_zeros n l]
theorem trm_rep (n : Nat) : trm (List.replicate n 48) = [] := by
  have h := trm_zeros n []
  rw [List.append_nil] at h
  rw [h]; rfl
theorem trm_qq {g w : List UInt8} (hg : g.all isB = true) (hw : w.all isB = true) (h1 : 1 ≤ g.length) : trm (qq g w (stp g w)) = trm (dQ g w (stp g w)) := by
  by_cases h : g.length ≤ w.length + 1
  · have hS : stp g w + g.length = w.length + 1 := by unfold stp; omega
    rw [dQ_qq hg hw h1 _ (by omega), trm_zeros, show w.length - (g.length - 1) - stp g w = 0 by omega, List.replicate_zero, List.append_nil]
  · have hS : stp g w = 0 := by unfold stp; omega
    rw [hS, dQ, trm_rep]; rfl
theorem xk_zero {l g : List UInt8} {A k : Nat} (hk : A + k < l.length) (h : g.getD k 0 = 48) : xk l A g (k + 1) = xk l A g k := by
  have hf : ∀ x : UInt8, flp x 48 = x := fun x => by
    rw [flp, show (48 : UInt8) &&& 1 = 0 by decide]; simp
  rw [xk, h, hf]
  apply List.ext_getElem?
  intro j
  rw [List.getElem?_set]
  split
  · rename_i h5
    subst h5
    rw [if_pos (by rw [xk_len]; exact hk), xk_get, if_neg (by omega), List.getElem?_eq_getElem hk, List.getD_eq_getElem?_getD, List.getElem?_eq_getElem hk]; rfl
  · rfl
theorem xk_flip {l g : List UInt8} {A k : Nat} {z : UInt8} (h : g.getD k 0 = 49) (hz : l.getD (A + k) 0 = 48 ∧ z = 49 ∨ l.getD (A + k) 0 = 49 ∧ z = 48) : xk l A g (k + 1) = (xk l A g k).set (A + k) z := by
  rw [xk, h]
  rcases hz with ⟨h1, h2⟩ | ⟨h1, h2⟩
  · rw [h1, h2]; rfl
  · rw [h1, h2]; rfl
theorem dR_next' (g w : List UInt8) (i : Nat) : (((dR g w i).getD i 0 = 49) → dR g w (i + 1) = xk (dR g w i) i g g.length) ∧ ((¬ (dR g w i).getD i 0 = 49) → dR g w (i + 1) = dR g w i) :=
  ⟨fun h => by rw [dR, if_pos h], fun h => by rw [dR, if_neg h]⟩
theorem below_grownO {C base : Nat} {T : TypeId} {w0 w w' : World} {v : Value} {xs : List Value} (hb : Below C w0 w) (h : Own w base T v xs) (hg : w.grownBy w' v.ownBlock) (hC : C ≤ base) (hs : C ≤ w.heap.size) : Below C w0 w' :=
  hb.grown hg hs (fun k hk => Nat.le_trans hC (h.block k hk).1)

set_option maxHeartbeats 4000000 in
set_option maxRecDepth 100000 in
theorem rdivide_any (g s : ByteArray) (w : World) (hgb : g.data.toList.all isB = true) (hg1 : 1 ≤ g.size) (hsb : s.data.toList.all isB = true) (hg6 : g.size ≤ 70000) (hs6 : s.size ≤ 140000) :
    Calls Tryd.prog 42 #[.string g, .string s] w fun e w' =>
      e = .returned (.tuple #[.string ⟨(trm (dQ g.data.toList s.data.toList (stp g.data.toList s.data.toList))).toArray⟩, .string ⟨(trm (dR g.data.toList s.data.toList (stp g.data.toList s.data.toList))).toArray⟩]) ∧ Below w.heap.size w w' := by
  have HQV := Lib.hid (trm_qq hgb hsb hg1)
  have HRL := Lib.hid (fun i => dR_len g.data.toList s.data.toList i)
  have HNX := Lib.hid (fun i => dR_next' g.data.toList s.data.toList i)
  have HQN := Lib.hid (fun i => qq_next g.data.toList s.data.toList i)
  have HQL := Lib.hid (fun i => qq_len g.data.toList s.data.toList i)
  have HRB := Lib.hid (fun i hi => dR_bin hgb hsb i hi)
  have HGB := Lib.hid (fun j (hj : j < g.size) => isB_or (all_get hgb j hj))
  have HST := Lib.hid (show stp g.data.toList s.data.toList = s.size + 1 - g.size from rfl)
  have HG0 := Lib.hid (fun j (hj : j < g.size) => getD_at g j hj)
  have e1 : s.data.toList.length = s.size := rfl
  have e2 : g.data.toList.length = g.size := rfl
  obtain ⟨N, hN⟩ : ∃ N, s.size = N := ⟨_, rfl⟩
  rw [e1, hN] at HRL HRB
  rw [e2] at HRB
  rw [hN] at HST hs6
  clear hgb hsb
  go_enter Tryd.func42, Tryd.ntmps42
  go_wp2_with (refine wpList_bytes _ rfl _ 9 57 5 rfl Tryd.underlying9 Tryd.underlying57 Tryd.underlying5 s rfl ?_)
  intro w3 c hrow hb hz hc
  have hz' : w3.heap.size = w.heap.size + 1 := hz
  have HR3 := Lib.hid (show RowP w3 w.heap.size 5 (bts (dR g.data.toList s.data.toList 0)) from hrow)
  have H3 := Lib.hid hb
  have HO := Lib.hid (own_lit w3 (w.heap.size + 1) 5 [] (by omega) (by simp))
  have HZ3 := Lib.hid (show w.heap.size ≤ w3.heap.size by omega)
  clear hrow hb hz hz' hc
  go_wp2_with fail
  go_loopw [7, 8] (fun v i wr => ∃ k : Nat, (k = 0 ∨ k + g.size ≤ N + 1) ∧ i = .int .i64 k ∧ RowP wr w.heap.size 5 (bts (dR g.data.toList s.data.toList k)) ∧ Own wr (w.heap.size + 1) 5 v (bts (qq g.data.toList s.data.toList k)) ∧ Below w.heap.size w wr) (fun _ i _ => N + 1 - (intOf i).toNat)
  case atStart => exact ⟨0, .inl rfl, rfl, HR3.out.alloc _, HO.out, H3.out.alloc HZ3.out _⟩
  case round =>
    obtain ⟨i, hi, rfl, hrR, hown, hb⟩ := hrel
    have HB := Lib.hid hb
    have HSZ := Lib.hid hb.size
    have HW := Lib.hid hown
    have HR := Lib.hid hrR
    clear hb hown hrR HR3 H3 HO
    have hi4 : i ≤ 140001 := by omega
    by_cases hlt : i + g.size ≤ N
    · have hd : decide ((i : Int) + (g.size : Int) ≤ (N : Int)) = true := by simp; omega
      have hiN : i < N := by omega
      have hlR : (bts (dR g.data.toList s.data.toList i)).length = N := by rw [bts_len, HRL.out]
      have HLR := Lib.hid hlR; clear hlR
      obtain ⟨y, hy⟩ : ∃ y, (dR g.data.toList s.data.toList i).getD i 0 = y := ⟨_, rfl⟩
      have c1 : wr.cell? ⟨w.heap.size, i, none⟩ = some (.int .u8 (y.toNat : Int)) := by
        rw [HR.out.cell i (by rw [HLR.out]; exact hiN), bts_get, ← hy, List.getD_eq_getElem?_getD, List.getElem?_eq_getElem (by rw [HRL.out]; exact hiN)]; rfl
      have hyb : y = 48 ∨ y = 49 := by
        rw [← hy, List.getD_eq_getElem?_getD, List.getElem?_eq_getElem (by rw [HRL.out]; exact hiN)]
        exact isB_or (all_get (HRB.out i (by omega)) i (by rw [HRL.out]; exact hiN))
      have HYB := Lib.hid hyb; clear hyb
      have HY := Lib.hid hy; clear hy
      have hlen : (bts (qq g.data.toList s.data.toList i)).length = i := by rw [bts_len, HQL.out]
      have HQ2 := Lib.hid (show qq g.data.toList s.data.toList (i + 1) = qq g.data.toList s.data.toList i ++ [y] by rw [HQN.out, HY.out])
      have HNE := Lib.hid (show some w.heap.size ≠ u7.ownBlock from fun h => by have := (HW.out.block _ h.symm).1; omega)
      go_wp2_with (at_builtin; refine wpList_app1 _ rfl _ _ _ rfl (w.heap.size + 1) 5 (.int .u8 0) 1 Tryd.underlying57 (by kernel_rfl) rfl _ _ rfl (HW.out.alloc _) wr.heap.size 1 (.int .u8 (y.toNat : Int)) rfl ((row_new wr 5 [.int .u8 (y.toNat : Int)]).cell 0) rfl ?c1 ?c2 ?c3 ?_)
      case c1 => omega
      case c2 => omega
      case c3 => have := HSZ.out; simp; omega
      intro v' w2 hown2 hgr _
      have HO2 := Lib.hid (show Own w2 (w.heap.size + 1) 5 v' (bts (qq g.data.toList s.data.toList (i + 1))) by
        rw [HQ2.out, ← bts_append]; exact hown2)
      have hr2 : RowP w2 w.heap.size 5 (bts (dR g.data.toList s.data.toList i)) := (HR.out.alloc _).grown hgr HNE.out
      have HR2 := Lib.hid hr2
      have HB2 := Lib.hid (below_grownO (HB.out.alloc HSZ.out _) (HW.out.alloc _) hgr (by omega) (by have := HSZ.out; simp; omega))
      have c2 : w2.cell? ⟨w.heap.size, i, none⟩ = some (.int .u8 (y.toNat : Int)) := by
        rw [hr2.cell i (by rw [HLR.out]; exact hiN), bts_get, ← HY.out, List.getD_eq_getElem?_getD, List.getElem?_eq_getElem (by rw [HRL.out]; exact hiN)]; rfl
      clear hown2 hgr hr2 hlen c1
      rcases Nat.lt_or_ge y.toNat 49 with h48 | h49
      · have hy48 : y = 48 := by
          rcases HYB.out with h | h
          · exact h
          · rw [h] at h48; exact absurd h48 (by decide)
        have ht : ((y.toNat : Int) == 48) = true := by rw [hy48]; rfl
        have HX := Lib.hid ((HNX.out i).2 (by rw [HY.out, hy48]; decide))
        clear h48 hy48
        go_wp2_with fail
        go_roundw
        case rel => exact ⟨i + 1, .inr (by omega), by go_num, by rw [HX.out]; exact HR2.out, HO2.out, HB2.out⟩
        case measure => simp [intOf]; omega
      · have hy49 : y = 49 := by
          rcases HYB.out with h | h
          · rw [h] at h49; exact absurd h49 (by decide)
          · exact h
        have ht : ((y.toNat : Int) == 48) = false := by rw [hy49]; rfl
        have HX := Lib.hid ((HNX.out i).1 (by rw [HY.out, hy49]))
        clear h49 hy49
        go_wp2_with fail
        go_loopw [9] (fun kk wr2 => ∃ k : Nat, k ≤ g.size ∧ kk = .int .i64 k ∧ RowP wr2 w.heap.size 5 (bts (xk (dR g.data.toList s.data.toList i) i g.data.toList k)) ∧ Own wr2 (w.heap.size + 1) 5 v' (bts (qq g.data.toList s.data.toList (i + 1))) ∧ Below w.heap.size w wr2) (fun kk _ => g.size - (intOf kk).toNat)
        case atStart => exact ⟨0, by omega, rfl, HR2.out, HO2.out, HB2.out⟩
        case round =>
          obtain ⟨k, hk, rfl, hrow, hownk, hbk⟩ := hrel
          have HRK := Lib.hid hrow
          have HOK := Lib.hid hownk
          have HBK := Lib.hid hbk
          clear hrow hownk hbk HR2 HO2 HB2 c2
          by_cases hkl : k < g.size
          · have hkd : decide ((k : Int) < (g.size : Int)) = true := by simp; omega
            have hkd' : decide (k < g.size) = true := by simp; omega
            have hik : i + k < N := by omega
            have hlX : (bts (xk (dR g.data.toList s.data.toList i) i g.data.toList k)).length = N := by rw [bts_len, xk_len, HRL.out]
            have HLX := Lib.hid hlX; clear hlX
            have hgk : g[k] = 48 ∨ g[k] = 49 := HGB.out k hkl
            have HGK := Lib.hid hgk; clear hgk
            rcases Nat.lt_or_ge g[k].toNat 49 with h48 | h49
            · have hg48 : g[k] = 48 := by
                rcases HGK.out with h | h
                · exact h
                · rw [h] at h48; exact absurd h48 (by decide)
              have ht2 : ((g[k].toNat : Int) == 49) = false := by rw [hg48]; rfl
              have HXK := Lib.hid (xk_zero (l := dR g.data.toList s.data.toList i) (g := g.data.toList) (A := i) (k := k) (by rw [HRL.out]; exact hik) (by rw [HG0.out k hkl, hg48]))
              clear h48 hg48
              go_wp2_with fail
              go_roundw
              case rel => exact ⟨k + 1, by omega, by go_num, by rw [HXK.out]; exact HRK.out, HOK.out, HBK.out⟩
              case measure => simp [intOf]; omega
            · have hg49 : g[k] = 49 := by
                rcases HGK.out with h | h
                · rw [h] at h49; exact absurd h49 (by decide)
                · exact h
              have ht2 : ((g[k].toNat : Int) == 49) = true := by rw [hg49]; rfl
              have HG49 := Lib.hid (show g.data.toList.getD k 0 = 49 by rw [HG0.out k hkl, hg49])
              clear h49 hg49
              obtain ⟨x, hx⟩ : ∃ x, (dR g.data.toList s.data.toList i).getD (i + k) 0 = x := ⟨_, rfl⟩
              have hxb : x = 48 ∨ x = 49 := by
                rw [← hx, List.getD_eq_getElem?_getD, List.getElem?_eq_getElem (by rw [HRL.out]; exact hik)]
                exact isB_or (all_get (HRB.out i (by omega)) (i + k) (by rw [HRL.out]; exact hik))
              have hcx : wr.cell? ⟨w.heap.size, i + k, none⟩ = some (.int .u8 (x.toNat : Int)) := by
                rw [HRK.out.cell (i + k) (by rw [HLX.out]; exact hik), bts_get, xk_get, if_neg (by omega), ← hx, List.getD_eq_getElem?_getD, List.getElem?_eq_getElem (by rw [HRL.out]; exact hik)]; rfl
              have hfz : wr.frozen? ⟨w.heap.size, i + k, none⟩ = false := HRK.out.frozen (i + k) (by rw [HLX.out]; exact hik)
              have HX9 := Lib.hid hx
              clear hx
              rcases hxb with rfl | rfl
              · have hcx2 : wr.cell? ⟨w.heap.size, i + k, none⟩ = some (.int .u8 48) := hcx
                have HXK := Lib.hid (xk_flip (l := dR g.data.toList s.data.toList i) (g := g.data.toList) (A := i) (k := k) (z := 49) HG49.out (.inl ⟨HX9.out, rfl⟩))
                have HS := Lib.hid (HRK.out.set (i + k) (.int .u8 49) (by rw [HLX.out]; exact hik))
                clear hcx
                go_wp2_with fail
                go_roundw
                case rel =>
                  refine ⟨k + 1, by omega, by go_num, ?_, HOK.out.set_other _ _ (by intro h; have := (HOK.out.block _ h).1; simp at this; omega), HBK.out.setCell (p := ⟨w.heap.size, i + k, none⟩) (Nat.le_refl _) _⟩
                  rw [HXK.out]
                  have h2 := HS.out
                  rw [show (Value.int .u8 49) = .int .u8 ((49 : UInt8).toNat : Int) from rfl, bts_set] at h2
                  exact h2
                case measure => simp [intOf]; omega
              · have hcx2 : wr.cell? ⟨w.heap.size, i + k, none⟩ = some (.int .u8 49) := hcx
                have HXK := Lib.hid (xk_flip (l := dR g.data.toList s.data.toList i) (g := g.data.toList) (A := i) (k := k) (z := 48) HG49.out (.inr ⟨HX9.out, rfl⟩))
                have HS := Lib.hid (HRK.out.set (i + k) (.int .u8 48) (by rw [HLX.out]; exact hik))
                clear hcx
                go_wp2_with fail
                go_roundw
                case rel =>
                  refine ⟨k + 1, by omega, by go_num, ?_, HOK.out.set_other _ _ (by intro h; have := (HOK.out.block _ h).1; simp at this; omega), HBK.out.setCell (p := ⟨w.heap.size, i + k, none⟩) (Nat.le_refl _) _⟩
                  rw [HXK.out]
                  have h2 := HS.out
                  rw [show (Value.int .u8 48) = .int .u8 ((48 : UInt8).toNat : Int) from rfl, bts_set] at h2
                  exact h2
                case measure => simp [intOf]; omega
          · obtain rfl : k = g.size := by omega
            have hkd : decide ((g.size : Int) < (g.size : Int)) = false := by simp
            go_wp2_with fail
            go_roundw
            case rel => exact ⟨i + 1, .inr (by omega), by go_num, by rw [HX.out]; exact HRK.out, HOK.out, HBK.out⟩
            case measure => simp [intOf]; omega
    · have hd : decide ((i : Int) + (g.size : Int) ≤ (N : Int)) = false := by simp; omega
      have HK := Lib.hid (show stp g.data.toList s.data.toList = i by rw [HST.out]; omega)
      have hcv1 := run_string_rowP (P := Tryd.prog) (src := 57) (dst := 9) (c := c) (n := N) Tryd.underlying57 Tryd.underlying5 Tryd.underlying9 HR.out (HRL.out i)
      have hcv2 := run_string_rowP (P := Tryd.prog) (src := 57) (dst := 9) (c := c) (n := N) Tryd.underlying57 Tryd.underlying5 Tryd.underlying9 HR.out.drew (HRL.out i)
      have hcv3 := run_string_own (P := Tryd.prog) (src := 57) (dst := 9) Tryd.underlying57 Tryd.underlying5 Tryd.underlying9 HW.out
      have hcv4 := run_string_own (P := Tryd.prog) (src := 57) (dst := 9) Tryd.underlying57 Tryd.underlying5 Tryd.underlying9 (show Own wr.drew (w.heap.size + 1) 5 u7 (bts (qq g.data.toList s.data.toList i)) from HW.out)
      have HT := Lib.hid (show trm (qq g.data.toList s.data.toList i) = trm (dQ g.data.toList s.data.toList (stp g.data.toList s.data.toList)) ∧ trm (dR g.data.toList s.data.toList i) = trm (dR g.data.toList s.data.toList (stp g.data.toList s.data.toList)) from ⟨by rw [← HQV.out, HK.out], by rw [HK.out]⟩)
      clear hlt hi
      go_wp2_with fail
      go_region_with (go_at_call 57; refine (refCut_any _ _).mono ?_; rintro e w6 ⟨rfl, rfl⟩)
      all_goals
        go_wp2_with fail
        go_ret2
        exact ⟨by rw [← HT.out.1, ← HT.out.2]; rfl, HB.out.os, HB.out.tape, HB.out.output, HB.out.size, HB.out.block⟩
end Go.Proofs.YtahfmeopecmpmaaDoor
