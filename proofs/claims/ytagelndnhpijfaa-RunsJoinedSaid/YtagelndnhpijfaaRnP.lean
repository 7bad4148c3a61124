/-
  Join: the plain functions joE, joO and the contract.
-/
import Derived.Test.YtagelndnhpijfaaRnG
import Derived.Test.YtagelndnhpijfaaBwss
import Derived.Test.YtagelndnhpijfaaQt
namespace Go.Proofs.Ytagelndnhpijfaa
open Go.RowKit

def lett (a : Int) : UInt8 := letters.getD a.toNat 0
def joE : Int → Option Int → List (Int × Int) → Int
  | _, _, [] => 0
  | left, prev, p :: l => if p.1 < 0 ∨ 16 ≤ p.1 then 13 else if p.2 < 1 then 2 else if prev = some p.1 then 11 else if left < p.2 then 4 else joE (left - p.2) (some p.1) l
def joL (l : List (Int × Int)) : List UInt8 := l.flatMap fun p => List.replicate p.2.toNat (lett p.1)
def jnE (l : List (Int × Int)) : Int := joE 65536 none l
def jnO (l : List (Int × Int)) : List UInt8 := if jnE l = 0 then joL l else []
def prv (l : List (Int × Int)) : Nat → Option Int
  | 0 => none
  | k + 1 => some (l.getD k (0, 0)).1
theorem ext_lett : ∀ a : Fin 16, (⟨#[48, 49, 50, 51, 52, 53, 54, 55, 56, 57, 97, 98, 99, 100, 101, 102]⟩ : ByteArray).extract a.val (a.val + 1) = ⟨#[letters.getD a.val 0]⟩ := by decide +kernel
theorem Bld.below {B m b : Nat} {l : List UInt8} {w w' : World} (h : Bld B m b l w) (hb : Below w.heap.size w w') : Bld B m b l w' := by
  obtain ⟨k1, k2, k3, p, v, hp, hk, ho⟩ := h
  refine ⟨k1, k2, Nat.le_trans k3 hb.size, p, v, hp, by rw [hb.block b (by omega)]; exact hk, ?_⟩
  rcases hv : v.ownBlock with _ | g
  · exact ho.kept (grown_of_below hb none) (.inl hv)
  · exact ho.kept (grown_of_below hb none) (.inr (by rw [hv]; simp))
theorem Bld.alloc {B m b : Nat} {l : List UInt8} {w : World} (h : Bld B m b l w) (o : Obj) : Bld B m b l (w.alloc o) := h.below ((Below.refl _ _).alloc (Nat.le_refl _) o)
theorem len_same (B m b : Nat) (l : List UInt8) (w : World) (h : Bld B m b l w) :
    Calls Try.prog 51 #[.pointer (some ⟨b, 0, none⟩)] w fun e w' => e = .returned (.int .i64 l.length) ∧ w' = w :=
  (Try.Builder_Len B b _ w h.isBuilder).mono fun e w' ⟨he, hw⟩ => ⟨by rw [he]; simp [Lib.byteCells], hw⟩
theorem drop_cons'' {α : Type} {l : List α} {k : Nat} (h : k < l.length) : l.drop k = l[k] :: l.drop (k + 1) := List.drop_eq_getElem_cons h

set_option maxHeartbeats 2000000 in
set_option maxRecDepth 100000 in
theorem Join_any (a : Option Addr) (c : Nat) (l : List (Int × Int)) (w : World) (hrow : ∀ j (h : j < l.length), ∃ g o, a = some ⟨g, o, none⟩ ∧ w.cell? ⟨g, o + j * 2, none⟩ = some (.int .i64 l[j].1) ∧ w.cell? ⟨g, o + j * 2 + 1, none⟩ = some (.int .i64 l[j].2)) (hlen : l.length ≤ 65536) (hwf : ∀ p ∈ l, p.2 ≤ 9223372036854775807) :
    Calls Try.prog 30 #[.slice a l.length c] w
      fun e w' => e = .returned (.tuple #[.string ⟨(jnO l).toArray⟩, .int .i64 (jnE l)]) ∧ Below w.heap.size w w' := by
  have HC := Lib.hid hrow; clear hrow
  have HBN := Lib.hid (bld_new w.heap.size w (Nat.le_refl _))
  go_enter Try.func30, Try.ntmps30
  go_wp2_with fail
  go_loopw [9] (fun i wr => ∃ k : Nat, k ≤ l.length ∧ i = .int .i64 k ∧ ∃ out : List UInt8, out.length ≤ 65536 ∧ joE (65536 - (out.length : Int)) (prv l k) (l.drop k) = jnE l ∧ (jnE l = 0 → out ++ joL (l.drop k) = joL l) ∧ Bld w.heap.size (w.heap.size + 1) w.heap.size out wr ∧ Below w.heap.size w wr) (fun i _ => l.length - (intOf i).toNat)
  case atStart => exact ⟨0, by omega, rfl, [], by simp, rfl, fun _ => rfl, HBN.out, (Below.refl _ _).alloc (Nat.le_refl _) _⟩
  case round =>
    obtain ⟨k, hk, rfl, out, hol, hE, hO, hbld, hbb⟩ := hrel
    have HE := Lib.hid hE; clear hE
    have HO := Lib.hid hO; clear hO
    have HBLD := Lib.hid hbld; clear hbld
    have HBB := Lib.hid hbb; clear hbb HBN
    by_cases hlt : k < l.length
    · obtain ⟨g, o, rfl, h1, h2⟩ := HC.out k hlt
      have c1 := cell_below h1 HBB.out (cell_lt h1)
      have c2 := cell_below h2 HBB.out (cell_lt h2)
      have hw2 : l[k].2 ≤ 9223372036854775807 := hwf _ (List.getElem_mem _)
      have HD := Lib.hid (show l.drop k = l[k] :: l.drop (k + 1) from drop_cons'' hlt)
      have hE : jnE l = if l[k].1 < 0 ∨ 16 ≤ l[k].1 then 13 else if l[k].2 < 1 then 2 else if prv l k = some l[k].1 then 11 else if 65536 - (out.length : Int) < l[k].2 then 4 else joE (65536 - (out.length : Int) - l[k].2) (some l[k].1) (l.drop (k + 1)) := by
        rw [← HE.out, HD.out, joE]
      have HP := Lib.hid (show prv l (k + 1) = some l[k].1 by rw [prv, getD_pair hlt])
      have hbad : ∀ x : Int, x ≠ 0 → jnE l = x → jnO l = [] := fun x hx he => by rw [jnO, he, if_neg hx]
      have HBAD := Lib.hid hbad; clear hbad
      have HB1 := Lib.hid (HBB.out.alloc HBB.out.size (.cells #[.int .i64 l[k].1, .int .i64 l[k].2] 50))
      by_cases ha : l[k].1 < 0 ∨ 16 ≤ l[k].1
      · rw [if_pos ha] at hE
        have HE2 := Lib.hid hE
        have HO2 := Lib.hid (HBAD.out 13 (by decide) hE)
        clear hE h1 h2
        generalize l[k].1 = p1 at *
        generalize l[k].2 = p2 at *
        rcases ha with ha | ha
        · go_wp2_with fail
          go_ret2
          exact ⟨by rw [HE2.out, HO2.out]; rfl, HB1.out⟩
        · have ha' : decide (p1 < 0) = false := by simp; omega
          go_wp2_with fail
          go_ret2
          exact ⟨by rw [HE2.out, HO2.out]; rfl, HB1.out⟩
      · rw [if_neg ha] at hE
        by_cases hn : l[k].2 < 1
        · rw [if_pos hn] at hE
          have HE2 := Lib.hid hE
          have HO2 := Lib.hid (HBAD.out 2 (by decide) hE)
          clear hE h1 h2
          generalize l[k].1 = p1 at *
          generalize l[k].2 = p2 at *
          have ha1 : decide (p1 < 0) = false := by simp; omega
          have ha2 : decide (16 ≤ p1) = false := by simp; omega
          go_wp2_with fail
          go_ret2
          exact ⟨by rw [HE2.out, HO2.out]; rfl, HB1.out⟩
        --MAIN
        · rw [if_neg hn] at hE
          have HJ := Lib.hid (show jnE l = 0 → out ++ (List.replicate l[k].2.toNat (lett l[k].1) ++ joL (l.drop (k + 1))) = joL l from fun h0 => by rw [← HO.out h0, HD.out]; simp only [joL, List.flatMap_cons])
          have HPV := Lib.hid (show (k = 0 ∧ prv l k = none) ∨ ∃ i, k = i + 1 ∧ ∃ q, prv l k = some q ∧ wr.cell? ⟨g, o + i * 2, none⟩ = some (.int .i64 q) by
            rcases k with _ | i
            · exact .inl ⟨rfl, rfl⟩
            · obtain ⟨g', o', he, h1', _⟩ := HC.out i (by omega)
              cases he
              exact .inr ⟨i, rfl, l[i].1, by rw [prv, getD_pair (by omega)], cell_below h1' HBB.out (cell_lt h1')⟩)
          clear h1 h2
          generalize l[k].1 = p1 at *
          generalize l[k].2 = p2 at *
          obtain ⟨a, rfl⟩ : ∃ a : Nat, p1 = a := ⟨p1.toNat, by omega⟩
          obtain ⟨N, rfl⟩ : ∃ N : Nat, p2 = N := ⟨p2.toNat, by omega⟩
          have ha16 : a < 16 := by omega
          have hN1 : 1 ≤ N := by omega
          have ha1 : decide ((a : Int) < 0) = false := by rw [decide_eq_false_iff_not]; omega
          have ha2 : decide (16 ≤ (a : Int)) = false := by simp; omega
          have ha3 : decide ((N : Int) < 1) = false := by simp; omega
          have HNT := Lib.hid (show ((N : Nat) : Int).toNat = N from Int.toNat_natCast N)
          have HLT := Lib.hid (show lett ((a : Nat) : Int) = letters.getD a 0 from rfl)
          have HXT := Lib.hid (ext_lett ⟨a, ha16⟩)
          have CC1 := Lib.hid c1
          have CC2 := Lib.hid c2
          rcases HPV.out with ⟨hk0, hpn⟩ | ⟨i, hki, q, hpn, hq⟩
          · have di0 : decide ((0 : Int) < (k : Int)) = false := by simp; omega
            have di1 : decide (0 < k) = false := by simp; omega
            rw [hpn, if_neg (by simp)] at hE
            have HK0 := Lib.hid hk0; clear hk0 hpn
            by_cases hfit : 65536 - (out.length : Int) < (N : Int)
            · have hE3 : jnE l = 4 := by rw [hE, if_pos hfit]
              have HE2 := Lib.hid hE3
              have HO2 := Lib.hid (HBAD.out 4 (by decide) hE3)
              have hfit' : decide (65536 - (out.length : Int) < (N : Int)) = true := by simpa using hfit
              clear hE hE3 hfit
              go_wp2_with fail
              obtain ⟨wx, hwx⟩ : ∃ wx, wx = wr.alloc (.cells #[.int .i64 (a : Int), .int .i64 (N : Int)] 50) := ⟨_, rfl⟩
              rw [← hwx]
              have d1 : wx.cell? ⟨wr.heap.size, 0, none⟩ = some (.int .i64 (a : Int)) := by rw [hwx]; exact (row_new wr 50 [.int .i64 (a : Int), .int .i64 (N : Int)]).cell 0
              have d2 : wx.cell? ⟨wr.heap.size, 1, none⟩ = some (.int .i64 (N : Int)) := by rw [hwx]; exact (row_new wr 50 [.int .i64 (a : Int), .int .i64 (N : Int)]).cell 1
              have HBX : Hid (Below w.heap.size w wx) := Lib.hid (by rw [hwx]; exact HB1.out)
              have HBLX : Hid (Bld w.heap.size (w.heap.size + 1) w.heap.size out wx) := Lib.hid (by rw [hwx]; exact HBLD.out.alloc _)
              clear hwx
              go_quiet (fail)
              obtain ⟨wy, hwy⟩ : ∃ wy, wy = wx.drewN nq := ⟨_, rfl⟩
              rw [← hwy]
              have d4 : wy.cell? ⟨wr.heap.size, 1, none⟩ = some (.int .i64 (N : Int)) := by rw [hwy]; exact d2
              have HBY : Hid (Below w.heap.size w wy) := Lib.hid (by rw [hwy]; exact below_drewN HBX.out nq)
              have HBLY : Hid (Bld w.heap.size (w.heap.size + 1) w.heap.size out wy) := Lib.hid (by rw [hwy]; exact HBLX.out)
              clear hwy d1 d2
              go_wp2_with fail
              go_quiet ((go_at_call 51; exact Calls.quiet_of_same (len_same _ _ _ _ _ HBLY.out)))
              go_wp2_with fail
              go_ret2
              exact ⟨by rw [HE2.out, HO2.out]; rfl, below_drewN HBY.out _⟩
            · have hE3 : joE (65536 - (out.length : Int) - (N : Int)) (some (a : Int)) (l.drop (k + 1)) = jnE l := by rw [hE, if_neg hfit]
              have HE2 := Lib.hid hE3
              have hfit' : decide (65536 - (out.length : Int) < (N : Int)) = false := by simpa using hfit
              have hN2 : N ≤ 65536 := by omega
              have hol2 : out.length + N ≤ 65536 := by omega
              clear hE hE3 hfit
              go_wp2_with fail
              obtain ⟨wx, hwx⟩ : ∃ wx, wx = wr.alloc (.cells #[.int .i64 (a : Int), .int .i64 (N : Int)] 50) := ⟨_, rfl⟩
              rw [← hwx]
              have d1 : wx.cell? ⟨wr.heap.size, 0, none⟩ = some (.int .i64 (a : Int)) := by rw [hwx]; exact (row_new wr 50 [.int .i64 (a : Int), .int .i64 (N : Int)]).cell 0
              have d2 : wx.cell? ⟨wr.heap.size, 1, none⟩ = some (.int .i64 (N : Int)) := by rw [hwx]; exact (row_new wr 50 [.int .i64 (a : Int), .int .i64 (N : Int)]).cell 1
              have HBX : Hid (Below w.heap.size w wx) := Lib.hid (by rw [hwx]; exact HB1.out)
              have HBLX : Hid (Bld w.heap.size (w.heap.size + 1) w.heap.size out wx) := Lib.hid (by rw [hwx]; exact HBLD.out.alloc _)
              clear hwx
              go_quiet (fail)
              obtain ⟨wy, hwy⟩ : ∃ wy, wy = wx.drewN nq := ⟨_, rfl⟩
              rw [← hwy]
              have d3' : wy.cell? ⟨wr.heap.size, 0, none⟩ = some (.int .i64 (a : Int)) := by rw [hwy]; exact d1
              have d4 : wy.cell? ⟨wr.heap.size, 1, none⟩ = some (.int .i64 (N : Int)) := by rw [hwy]; exact d2
              have HBY : Hid (Below w.heap.size w wy) := Lib.hid (by rw [hwy]; exact below_drewN HBX.out nq)
              have HBLY : Hid (Bld w.heap.size (w.heap.size + 1) w.heap.size out wy) := Lib.hid (by rw [hwy]; exact HBLX.out)
              clear hwy d1 d2
              go_wp2_with fail
              go_quiet ((go_at_call 51; exact Calls.quiet_of_same (len_same _ _ _ _ _ HBLY.out)))
              obtain ⟨wz, hwz⟩ : ∃ wz, wz = wy.drewN nq := ⟨_, rfl⟩
              rw [← hwz]
              have d5 : wz.cell? ⟨wr.heap.size, 0, none⟩ = some (.int .i64 (a : Int)) := by rw [hwz]; exact d3'
              have d6 : wz.cell? ⟨wr.heap.size, 1, none⟩ = some (.int .i64 (N : Int)) := by rw [hwz]; exact d4
              have HBZ : Hid (Below w.heap.size w wz) := Lib.hid (by rw [hwz]; exact below_drewN HBY.out nq)
              have HBLZ : Hid (Bld w.heap.size (w.heap.size + 1) w.heap.size out wz) := Lib.hid (by rw [hwz]; exact HBLY.out)
              clear hwz d3' d4
              go_wp2_with fail
              refine wp_region_quiet_tail 8 (by kernel_rfl) (by kernel_rfl) ?_
              simp only [List.take_succ_cons, List.take_zero, List.drop_succ_cons, List.drop_zero]
              repeat (go_big_quiet_step (fail))
              refine wpQuiet_nil ?_
              rintro _ ⟨nq3, rfl⟩
              go_wp2_with fail
              rw [show (⟨#[48, 49, 50, 51, 52, 53, 54, 55, 56, 57, 97, 98, 99, 100, 101, 102]⟩ : ByteArray).extract a (a + 1) = ⟨#[letters.getD a 0]⟩ from HXT.out]
              obtain ⟨x, hx⟩ : ∃ x, letters.getD a 0 = x := ⟨_, rfl⟩
              rw [hx]
              have HX := Lib.hid hx; clear hx
              refine (Try.strings_Repeat ⟨#[x]⟩ N _ (by omega) (by simp [ByteArray.size]; omega)).mono ?_
              rintro e w5 ⟨rfl, hb⟩
              have HBL5 := Lib.hid ((show Bld w.heap.size (w.heap.size + 1) w.heap.size out (wz.drewN nq3) from HBLZ.out).below hb)
              have HB5 := Lib.hid ((below_drewN HBZ.out nq3).trans (hb.mono HBZ.out.size)); clear hb d5 d6
              rw [show Lib.repeatL (⟨#[x]⟩ : ByteArray).data.toList N = List.replicate N x from repeatL_one x N]
              go_wp2_with fail
              refine (writeString_any _ _ _ out _ _ HBL5.out (by simp [ByteArray.size]; omega)).mono ?_
              rintro e w6 ⟨rfl, h1, _, h3⟩
              have HBL6 : Hid (Bld w.heap.size (w.heap.size + 1) w.heap.size (out ++ List.replicate N x) w6) := Lib.hid (by simpa using h1)
              have HB6 := Lib.hid (HB5.out.trans h3); clear h1 h3
              go_wp2_with fail
              go_roundw
              case rel =>
                refine ⟨k + 1, by omega, by go_num, out ++ List.replicate N x, by simp; omega, ?_, fun h0 => ?_, HBL6.out, HB6.out⟩
                · rw [HP.out, ← HE2.out, List.length_append, List.length_replicate]; congr 1; push_cast; omega
                · rw [← HJ.out h0, HNT.out, HLT.out, HX.out, List.append_assoc]
              case measure => simp [intOf]; omega
          · have di0 : decide ((0 : Int) < (k : Int)) = true := by simp; omega
            have di1 : decide (0 < k) = true := by simp; omega
            have hi2 : (k : Int) - 1 = (i : Int) := by omega
            have hi3 : i < l.length := by omega
            have HKI := Lib.hid hki; clear hki
            rw [hpn] at hE
            clear hpn
            by_cases hqa : q = (a : Int)
            · rw [if_pos (by rw [hqa])] at hE
              have HE2 := Lib.hid hE
              have HO2 := Lib.hid (HBAD.out 11 (by decide) hE)
              have hqb : (q == (a : Int)) = true := by simpa using hqa
              clear hE hqa
              go_wp2_with fail
              obtain ⟨wx, hwx⟩ : ∃ wx, wx = wr.alloc (.cells #[.int .i64 (a : Int), .int .i64 (N : Int)] 50) := ⟨_, rfl⟩
              rw [← hwx]
              have d1 : wx.cell? ⟨wr.heap.size, 0, none⟩ = some (.int .i64 (a : Int)) := by rw [hwx]; exact (row_new wr 50 [.int .i64 (a : Int), .int .i64 (N : Int)]).cell 0
              have d2 : wx.cell? ⟨wr.heap.size, 1, none⟩ = some (.int .i64 (N : Int)) := by rw [hwx]; exact (row_new wr 50 [.int .i64 (a : Int), .int .i64 (N : Int)]).cell 1
              have d3 : wx.cell? ⟨g, o + i * 2, none⟩ = some (.int .i64 q) := by rw [hwx]; exact cell_below hq ((Below.refl _ _).alloc (Nat.le_refl _) _) (cell_lt hq)
              have HBX : Hid (Below w.heap.size w wx) := Lib.hid (by rw [hwx]; exact HB1.out)
              have HBLX : Hid (Bld w.heap.size (w.heap.size + 1) w.heap.size out wx) := Lib.hid (by rw [hwx]; exact HBLD.out.alloc _)
              clear hwx
              go_quiet (fail)
              go_wp2_with fail
              go_ret2
              exact ⟨by rw [HE2.out, HO2.out]; rfl, below_drewN HBX.out nq⟩
            · rw [if_neg (by intro h; exact hqa (Option.some.inj h))] at hE
              have hqb : (q == (a : Int)) = false := by simpa using hqa
              clear hqa
              by_cases hfit : 65536 - (out.length : Int) < (N : Int)
              · have hE3 : jnE l = 4 := by rw [hE, if_pos hfit]
                have HE2 := Lib.hid hE3
                have HO2 := Lib.hid (HBAD.out 4 (by decide) hE3)
                have hfit' : decide (65536 - (out.length : Int) < (N : Int)) = true := by simpa using hfit
                clear hE hE3 hfit
                go_wp2_with fail
                obtain ⟨wx, hwx⟩ : ∃ wx, wx = wr.alloc (.cells #[.int .i64 (a : Int), .int .i64 (N : Int)] 50) := ⟨_, rfl⟩
                rw [← hwx]
                have d1 : wx.cell? ⟨wr.heap.size, 0, none⟩ = some (.int .i64 (a : Int)) := by rw [hwx]; exact (row_new wr 50 [.int .i64 (a : Int), .int .i64 (N : Int)]).cell 0
                have d2 : wx.cell? ⟨wr.heap.size, 1, none⟩ = some (.int .i64 (N : Int)) := by rw [hwx]; exact (row_new wr 50 [.int .i64 (a : Int), .int .i64 (N : Int)]).cell 1
                have d3 : wx.cell? ⟨g, o + i * 2, none⟩ = some (.int .i64 q) := by rw [hwx]; exact cell_below hq ((Below.refl _ _).alloc (Nat.le_refl _) _) (cell_lt hq)
                have HBX : Hid (Below w.heap.size w wx) := Lib.hid (by rw [hwx]; exact HB1.out)
                have HBLX : Hid (Bld w.heap.size (w.heap.size + 1) w.heap.size out wx) := Lib.hid (by rw [hwx]; exact HBLD.out.alloc _)
                clear hwx
                go_quiet (fail)
                obtain ⟨wy, hwy⟩ : ∃ wy, wy = wx.drewN nq := ⟨_, rfl⟩
                rw [← hwy]
                have d4 : wy.cell? ⟨wr.heap.size, 1, none⟩ = some (.int .i64 (N : Int)) := by rw [hwy]; exact d2
                have HBY : Hid (Below w.heap.size w wy) := Lib.hid (by rw [hwy]; exact below_drewN HBX.out nq)
                have HBLY : Hid (Bld w.heap.size (w.heap.size + 1) w.heap.size out wy) := Lib.hid (by rw [hwy]; exact HBLX.out)
                clear hwy d1 d2
                go_wp2_with fail
                go_quiet ((go_at_call 51; exact Calls.quiet_of_same (len_same _ _ _ _ _ HBLY.out)))
                go_wp2_with fail
                go_ret2
                exact ⟨by rw [HE2.out, HO2.out]; rfl, below_drewN HBY.out _⟩
              · have hE3 : joE (65536 - (out.length : Int) - (N : Int)) (some (a : Int)) (l.drop (k + 1)) = jnE l := by rw [hE, if_neg hfit]
                have HE2 := Lib.hid hE3
                have hfit' : decide (65536 - (out.length : Int) < (N : Int)) = false := by simpa using hfit
                have hN2 : N ≤ 65536 := by omega
                have hol2 : out.length + N ≤ 65536 := by omega
                clear hE hE3 hfit
                go_wp2_with fail
                obtain ⟨wx, hwx⟩ : ∃ wx, wx = wr.alloc (.cells #[.int .i64 (a : Int), .int .i64 (N : Int)] 50) := ⟨_, rfl⟩
                rw [← hwx]
                have d1 : wx.cell? ⟨wr.heap.size, 0, none⟩ = some (.int .i64 (a : Int)) := by rw [hwx]; exact (row_new wr 50 [.int .i64 (a : Int), .int .i64 (N : Int)]).cell 0
                have d2 : wx.cell? ⟨wr.heap.size, 1, none⟩ = some (.int .i64 (N : Int)) := by rw [hwx]; exact (row_new wr 50 [.int .i64 (a : Int), .int .i64 (N : Int)]).cell 1
                have d3 : wx.cell? ⟨g, o + i * 2, none⟩ = some (.int .i64 q) := by rw [hwx]; exact cell_below hq ((Below.refl _ _).alloc (Nat.le_refl _) _) (cell_lt hq)
                have HBX : Hid (Below w.heap.size w wx) := Lib.hid (by rw [hwx]; exact HB1.out)
                have HBLX : Hid (Bld w.heap.size (w.heap.size + 1) w.heap.size out wx) := Lib.hid (by rw [hwx]; exact HBLD.out.alloc _)
                clear hwx
                go_quiet (fail)
                obtain ⟨wy, hwy⟩ : ∃ wy, wy = wx.drewN nq := ⟨_, rfl⟩
                rw [← hwy]
                have d3' : wy.cell? ⟨wr.heap.size, 0, none⟩ = some (.int .i64 (a : Int)) := by rw [hwy]; exact d1
                have d4 : wy.cell? ⟨wr.heap.size, 1, none⟩ = some (.int .i64 (N : Int)) := by rw [hwy]; exact d2
                have HBY : Hid (Below w.heap.size w wy) := Lib.hid (by rw [hwy]; exact below_drewN HBX.out nq)
                have HBLY : Hid (Bld w.heap.size (w.heap.size + 1) w.heap.size out wy) := Lib.hid (by rw [hwy]; exact HBLX.out)
                clear hwy d1 d2
                go_wp2_with fail
                go_quiet ((go_at_call 51; exact Calls.quiet_of_same (len_same _ _ _ _ _ HBLY.out)))
                obtain ⟨wz, hwz⟩ : ∃ wz, wz = wy.drewN nq := ⟨_, rfl⟩
                rw [← hwz]
                have d5 : wz.cell? ⟨wr.heap.size, 0, none⟩ = some (.int .i64 (a : Int)) := by rw [hwz]; exact d3'
                have d6 : wz.cell? ⟨wr.heap.size, 1, none⟩ = some (.int .i64 (N : Int)) := by rw [hwz]; exact d4
                have HBZ : Hid (Below w.heap.size w wz) := Lib.hid (by rw [hwz]; exact below_drewN HBY.out nq)
                have HBLZ : Hid (Bld w.heap.size (w.heap.size + 1) w.heap.size out wz) := Lib.hid (by rw [hwz]; exact HBLY.out)
                clear hwz d3' d4
                go_wp2_with fail
                refine wp_region_quiet_tail 8 (by kernel_rfl) (by kernel_rfl) ?_
                simp only [List.take_succ_cons, List.take_zero, List.drop_succ_cons, List.drop_zero]
                repeat (go_big_quiet_step (fail))
                refine wpQuiet_nil ?_
                rintro _ ⟨nq3, rfl⟩
                go_wp2_with fail
                rw [show (⟨#[48, 49, 50, 51, 52, 53, 54, 55, 56, 57, 97, 98, 99, 100, 101, 102]⟩ : ByteArray).extract a (a + 1) = ⟨#[letters.getD a 0]⟩ from HXT.out]
                obtain ⟨x, hx⟩ : ∃ x, letters.getD a 0 = x := ⟨_, rfl⟩
                rw [hx]
                have HX := Lib.hid hx; clear hx
                refine (Try.strings_Repeat ⟨#[x]⟩ N _ (by omega) (by simp [ByteArray.size]; omega)).mono ?_
                rintro e w5 ⟨rfl, hb⟩
                have HBL5 := Lib.hid ((show Bld w.heap.size (w.heap.size + 1) w.heap.size out (wz.drewN nq3) from HBLZ.out).below hb)
                have HB5 := Lib.hid ((below_drewN HBZ.out nq3).trans (hb.mono HBZ.out.size)); clear hb d5 d6
                rw [show Lib.repeatL (⟨#[x]⟩ : ByteArray).data.toList N = List.replicate N x from repeatL_one x N]
                go_wp2_with fail
                refine (writeString_any _ _ _ out _ _ HBL5.out (by simp [ByteArray.size]; omega)).mono ?_
                rintro e w6 ⟨rfl, h1, _, h3⟩
                have HBL6 : Hid (Bld w.heap.size (w.heap.size + 1) w.heap.size (out ++ List.replicate N x) w6) := Lib.hid (by simpa using h1)
                have HB6 := Lib.hid (HB5.out.trans h3); clear h1 h3
                go_wp2_with fail
                go_roundw
                case rel =>
                  refine ⟨k + 1, by omega, by go_num, out ++ List.replicate N x, by simp; omega, ?_, fun h0 => ?_, HBL6.out, HB6.out⟩
                  · rw [HP.out, ← HE2.out, List.length_append, List.length_replicate]; congr 1; push_cast; omega
                  · rw [← HJ.out h0, HNT.out, HLT.out, HX.out, List.append_assoc]
                case measure => simp [intOf]; omega
        --END
    · obtain rfl : k = l.length := by omega
      have hd : decide ((l.length : Int) < (l.length : Int)) = false := by simp
      have hE0 : jnE l = 0 := by rw [← HE.out, List.drop_of_length_le (Nat.le_refl _), joE]
      have hO0 : jnO l = out := by
        have := HO.out hE0
        rw [List.drop_of_length_le (Nat.le_refl _)] at this
        rw [jnO, if_pos hE0, ← this]; simp [joL]
      have HE2 := Lib.hid hE0
      have HO2 := Lib.hid hO0
      clear hE0 hO0
      go_wp2_with fail
      refine (builder_string _ _ _ out _ HBLD.out).mono ?_
      rintro e w6 ⟨rfl, h1⟩
      have HB6 := Lib.hid (HBB.out.trans h1); clear h1
      go_wp2_with fail
      go_ret2
      exact ⟨by rw [HE2.out, HO2.out]; rfl, HB6.out⟩
end Go.Proofs.Ytagelndnhpijfaa
