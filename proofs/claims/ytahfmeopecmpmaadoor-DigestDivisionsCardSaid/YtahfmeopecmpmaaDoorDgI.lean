/-
  The contracts of add, two, trim and Product.
-/
import Derived.Test.YtahfmeopecmpmaaDoorDgF
import Derived.Laws.BitsAllLaws
import Derived.Test.YtahfmeopecmpmaaDoorQt
namespace Go.Proofs.YtahfmeopecmpmaaDoor
open Go.RowKit

def flp (a b : UInt8) : UInt8 := a ^^^ (b &&& 1)
/-- The letters l, to which the letters of g are added from a place on, up to the k-th. -/
def xk (l : List UInt8) (at' : Nat) (g : List UInt8) : Nat → List UInt8
  | 0 => l
  | k + 1 => (xk l at' g k).set (at' + k) (flp (l.getD (at' + k) 0) (g.getD k 0))
theorem xk_len (l : List UInt8) (at' : Nat) (g : List UInt8) : ∀ k, (xk l at' g k).length = l.length
  | 0 => rfl
  | k + 1 => by rw [xk, List.length_set, xk_len l at' g k]
theorem xk_get (l : List UInt8) (at' : Nat) (g : List UInt8) : ∀ (k j : Nat), (xk l at' g k)[j]? = if at' ≤ j ∧ j < at' + k ∧ j < l.length then some (flp (l.getD j 0) (g.getD (j - at') 0)) else l[j]?
  | 0, j => by rw [xk, if_neg (by omega)]
  | k + 1, j => by
    rw [xk, List.getElem?_set, xk_len, xk_get l at' g k j]
    by_cases h : at' + k = j
    · subst h
      rw [if_pos rfl]
      by_cases h2 : at' + k < l.length
      · rw [if_pos h2, if_pos ⟨by omega, by omega, h2⟩, show at' + k - at' = k by omega]
      · rw [if_neg h2, if_neg (by omega), List.getElem?_eq_none (by omega)]
    · rw [if_neg h]
      by_cases h2 : at' ≤ j ∧ j < at' + k ∧ j < l.length
      · rw [if_pos h2, if_pos (by omega)]
      · rw [if_neg h2, if_neg (by omega)]
theorem flp_slot (a b : UInt8) : bits .xor .u8 (a.toNat : Int) (bits .and .u8 (b.toNat : Int) 1) = ((flp a b).toNat : Int) := by
  have ha := a.toNat_lt
  have hb := b.toNat_lt
  rw [show (1 : Int) = ((1 : Nat) : Int) from rfl, u8_and_nat _ _ (by omega) (by omega)]
  have hx : b.toNat &&& 1 < 256 := Nat.lt_of_le_of_lt Nat.and_le_right (by omega)
  rw [u8_xor_nat _ _ (by omega) hx, flp, UInt8.toNat_xor, UInt8.toNat_and]
  rfl

theorem grown_set {w w' : World} {B : Nat} (h : w.grownBy w' (some B)) (n o : Nat) (v : Value) : w.grownBy ((w'.drewN n).setCell ⟨B, o, none⟩ v) (some B) :=
  ⟨h.os, h.tape, h.output, by show _ ≤ (w'.heap.modify B _).size; rw [Array.size_modify]; exact h.size, fun k hk hne => by
    rw [Below.heap_setCell _ _ _ _ (by intro e; exact hne (by rw [e]))]
    exact h.block k hk hne⟩
theorem below_grown_at {C B : Nat} {w0 w w' : World} (hb : Below C w0 w) (hg : w.grownBy w' (some B)) (hC : C ≤ B) (hs : C ≤ w.heap.size) : Below C w0 w' :=
  hb.grown hg hs (fun k hk => by cases hk; exact hC)

set_option maxHeartbeats 1000000 in
set_option maxRecDepth 100000 in
theorem add_any (B c A : Nat) (l : List UInt8) (g : ByteArray) (w : World) (hrow : RowP w B 5 (bts l)) (hA : A + g.size ≤ l.length) (hl : l.length ≤ 70000) :
    Calls Tryd.prog 56 #[.slice (some ⟨B, 0, none⟩) l.length c, .int .i64 (A : Int), .string g] w fun e w' => (∃ v, e = .returned v) ∧ RowP w' B 5 (bts (xk l A g.data.toList g.size)) ∧ w.grownBy w' (some B) := by
  have HR0 := Lib.hid hrow
  go_enter Tryd.func56, Tryd.ntmps56
  go_wp2_with fail
  go_loopw [9] (fun i wr => ∃ k : Nat, k ≤ g.size ∧ i = .int .i64 k ∧ RowP wr B 5 (bts (xk l A g.data.toList k)) ∧ w.grownBy wr (some B)) (fun i _ => g.size - (intOf i).toNat)
  case atStart => exact ⟨0, by omega, rfl, HR0.out, ⟨rfl, rfl, rfl, Nat.le_refl _, fun _ _ _ => rfl⟩⟩
  case round =>
    obtain ⟨k, hk, rfl, hrow, hb⟩ := hrel
    clear HR0
    by_cases hlt : k < g.size
    · have hlk : (bts (xk l A g.data.toList k)).length = l.length := by rw [bts_len, xk_len]
      have hAk : A + k < l.length := by omega
      have c1 : wr.cell? ⟨B, A + k, none⟩ = some (.int .u8 ((l.getD (A + k) 0).toNat : Int)) := by
        rw [hrow.cell (A + k) (by omega), bts_get, xk_get, if_neg (by omega), List.getElem?_eq_getElem hAk, List.getD_eq_getElem?_getD, List.getElem?_eq_getElem hAk]; rfl
      have f1 : wr.frozen? ⟨B, A + k, none⟩ = false := hrow.frozen (A + k) (by omega)
      have hgk : g.data.toList.getD k 0 = g[k] := getD_at g k hlt
      have HS := Lib.hid (hrow.set (A + k) (.int .u8 ((flp (l.getD (A + k) 0) g[k]).toNat : Int)) (by omega))
      have HX := Lib.hid (show (xk l A g.data.toList k).set (A + k) (flp (l.getD (A + k) 0) g[k]) = xk l A g.data.toList (k + 1) by rw [xk, hgk])
      have HB := Lib.hid hb
      have hslot := flp_slot (l.getD (A + k) 0) g[k]
      obtain ⟨y, hy⟩ : ∃ y, l.getD (A + k) 0 = y := ⟨_, rfl⟩
      rw [hy] at c1 HS HX hslot
      obtain ⟨z, hz⟩ : ∃ z, flp y g[k] = z := ⟨_, rfl⟩
      rw [hz] at HS HX hslot
      have HLK := Lib.hid hlk
      clear hy hz hgk hb hrow hlk
      go_wp2_with fail
      refine wp_region_quiet_tail 12 (by kernel_rfl) (by kernel_rfl) ?_
      simp only [List.take_succ_cons, List.take_zero, List.drop_succ_cons, List.drop_zero]
      repeat (go_big_quiet_step (fail))
      refine wpQuiet_nil ?_
      rintro _ ⟨nq, rfl⟩
      go_wp2_with fail
      go_roundw
      case rel =>
        refine ⟨k + 1, by omega, by go_num, ?_, grown_set HB.out nq (A + k) _⟩
        have := HS.out
        rw [bts_set, HX.out] at this
        exact this
      case measure => simp [intOf]; omega
    · obtain rfl : k = g.size := by omega
      have hlt' : decide ((g.size : Int) < (g.size : Int)) = false := by simp
      have HB := Lib.hid hb
      have HR := Lib.hid hrow
      clear hb hrow
      go_wp2_with fail
      go_end0
      exact ⟨⟨_, rfl⟩, HR.out, HB.out⟩

/-- A word without zeros in front. -/
def trm (l : List UInt8) : List UInt8 := Lib.trimLeftB l 48
theorem trim_any (s : ByteArray) (w : World) : Calls Tryd.prog 55 #[.string s] w fun e w' => e = .returned (.string ⟨(trm s.data.toList).toArray⟩) ∧ w = w' := by
  go_enter Tryd.func55, Tryd.ntmps55
  go_wp2_with fail
  refine (Tryd.strings_TrimLeft_one s 48 (by decide) _).mono ?_
  rintro e w1 ⟨rfl, rfl⟩
  go_wp2_with fail
  go_ret
  exact ⟨rfl, rfl⟩
def tw (a b : List UInt8) : Int := if chk 2 a = 0 then (if chk 2 b = 0 then (if a.length + b.length ≤ 4096 then 0 else 4) else chk 2 b) else chk 2 a
theorem tw_ok {a b : List UInt8} (h : tw a b = 0) : a.length + b.length ≤ 4096 ∧ a.all isB = true ∧ b.all isB = true := by
  unfold tw at h
  split at h
  · rename_i h1
    split at h
    · rename_i h2
      split at h
      · rename_i h3; exact ⟨h3, ((chk2_iff _).1 h1).2, ((chk2_iff _).1 h2).2⟩
      · omega
    · rename_i h2; exact absurd h h2
  · rename_i h1; exact absurd h h1
set_option maxHeartbeats 400000 in
theorem two_any (a b : ByteArray) (w : World) : Calls Tryd.prog 54 #[.string a, .string b] w fun e w' => e = .returned (.int .i64 (tw a.data.toList b.data.toList)) ∧ ∃ n, w' = w.drewN n := by
  by_cases h1 : chk 2 a.data.toList = 0
  · by_cases h2 : chk 2 b.data.toList = 0
    · by_cases h3 : a.size + b.size ≤ 4096
      · have HV := Lib.hid (show tw a.data.toList b.data.toList = 0 by rw [tw, if_pos h1, if_pos h2, if_pos (by exact h3)])
        have hd : decide ((4096 : Int) < (a.size : Int) + (b.size : Int)) = false := by simp; omega
        have H1 := Lib.hid h1; have H2 := Lib.hid h2; clear h1 h2
        go_enter Tryd.func54, Tryd.ntmps54
        go_wp2_with fail
        refine (check_any _ _ _).mono ?_
        rintro e w1 ⟨rfl, n, rfl⟩
        rw [H1.out]
        go_wp2_with fail
        refine (check_any _ _ _).mono ?_
        rintro e w1 ⟨rfl, m, rfl⟩
        rw [H2.out]
        go_wp2_with fail
        go_ret
        exact ⟨by rw [HV.out]; rfl, _, rfl⟩
      · have HV := Lib.hid (show tw a.data.toList b.data.toList = 4 by rw [tw, if_pos h1, if_pos h2, if_neg (by exact h3)])
        have hd : decide ((4096 : Int) < (a.size : Int) + (b.size : Int)) = true := by simp; omega
        have hsa : a.size ≤ 65536 := ((chk2_iff _).1 h1).1
        have hsb : b.size ≤ 65536 := ((chk2_iff _).1 h2).1
        have H1 := Lib.hid h1; have H2 := Lib.hid h2; clear h1 h2
        go_enter Tryd.func54, Tryd.ntmps54
        go_wp2_with fail
        refine (check_any _ _ _).mono ?_
        rintro e w1 ⟨rfl, n, rfl⟩
        rw [H1.out]
        go_wp2_with fail
        refine (check_any _ _ _).mono ?_
        rintro e w1 ⟨rfl, m, rfl⟩
        rw [H2.out]
        go_wp2_with fail
        go_ret
        exact ⟨by rw [HV.out]; rfl, _, rfl⟩
    · have HV := Lib.hid (show tw a.data.toList b.data.toList = chk 2 b.data.toList by rw [tw, if_pos h1, if_neg h2])
      have hb : (chk 2 b.data.toList != 0) = true := by simpa using h2
      have H1 := Lib.hid h1; clear h1 h2
      go_enter Tryd.func54, Tryd.ntmps54
      go_wp2_with fail
      refine (check_any _ _ _).mono ?_
      rintro e w1 ⟨rfl, n, rfl⟩
      rw [H1.out]
      go_wp2_with fail
      refine (check_any _ _ _).mono ?_
      rintro e w1 ⟨rfl, m, rfl⟩
      go_wp2_with fail
      go_ret
      exact ⟨by rw [HV.out]; rfl, _, rfl⟩
  · have HV := Lib.hid (show tw a.data.toList b.data.toList = chk 2 a.data.toList by rw [tw, if_neg h1])
    have hb : (chk 2 a.data.toList != 0) = true := by simpa using h1
    clear h1
    go_enter Tryd.func54, Tryd.ntmps54
    go_wp2_with fail
    refine (check_any _ _ _).mono ?_
    rintro e w1 ⟨rfl, n, rfl⟩
    go_wp2_with fail
    go_ret
    exact ⟨by rw [HV.out]; rfl, _, rfl⟩

/-- The letters of a product, the letters of a up to the i-th one. -/
def pk (a b : List UInt8) : Nat → List UInt8
  | 0 => List.replicate (a.length + b.length) 48
  | i + 1 => if a.getD i 0 = 49 then xk (pk a b i) (i + 1) b b.length else pk a b i
theorem pk_len (a b : List UInt8) : ∀ i, (pk a b i).length = a.length + b.length
  | 0 => by simp [pk]
  | i + 1 => by rw [pk]; split <;> simp [xk_len, pk_len a b i]
def prO (a b : List UInt8) : List UInt8 := if tw a b = 0 then trm (pk a b a.length) else []

set_option maxHeartbeats 1000000 in
set_option maxRecDepth 100000 in
theorem Product_any (a b : ByteArray) (w : World) : Calls Tryd.prog 27 #[.string a, .string b] w fun e w' => e = .returned (.tuple #[.string ⟨(prO a.data.toList b.data.toList).toArray⟩, .int .i64 (tw a.data.toList b.data.toList)]) ∧ Below w.heap.size w w' := by
  by_cases h : tw a.data.toList b.data.toList = 0
  · obtain ⟨hl, _, _⟩ := tw_ok h
    have HV := Lib.hid (show prO a.data.toList b.data.toList = trm (pk a.data.toList b.data.toList a.size) by rw [prO, if_pos h]; rfl)
    have H := Lib.hid h; clear h
    have hls : a.size + b.size ≤ 4096 := hl
    clear hl
    obtain ⟨N, hN⟩ : ∃ N, a.size + b.size = N := ⟨_, rfl⟩
    have hNi : (a.size : Int) + (b.size : Int) = (N : Int) := by omega
    go_enter Tryd.func27, Tryd.ntmps27
    go_wp2_with fail
    refine (two_any _ _ _).mono ?_
    rintro e w1 ⟨rfl, n, rfl⟩
    rw [H.out]
    have H1 := Lib.hid (below_drewN (Below.refl w.heap.size w) n)
    go_wp2_with fail
    refine (Tryd.strings_Repeat ⟨#[48]⟩ N _ (by omega) (by simp [ByteArray.size]; omega)).mono ?_
    rintro e w2 ⟨rfl, h2⟩
    rw [show Lib.repeatL (⟨#[48]⟩ : ByteArray).data.toList N = List.replicate N 48 from repeatL_one 48 N]
    have H2 := Lib.hid (H1.out.trans (h2.mono H1.out.size)); clear h2
    obtain ⟨Z, hZ⟩ : ∃ Z : ByteArray, (⟨(List.replicate N (48 : UInt8)).toArray⟩ : ByteArray) = Z := ⟨_, rfl⟩
    rw [hZ]
    have hZs : Z.size = N := by rw [← hZ]; simp [ByteArray.size]
    have HZ := Lib.hid (show Z.data.toList = pk a.data.toList b.data.toList 0 by rw [← hZ, pk, show a.data.toList.length + b.data.toList.length = N from hN])
    clear hZ
    go_wp2_with (refine wpList_bytes _ rfl _ 9 57 5 rfl Tryd.underlying9 Tryd.underlying57 Tryd.underlying5 Z rfl ?_)
    intro w3 c hrow hb hz hc
    rw [HZ.out] at hrow
    have HR := Lib.hid hrow
    have H3 := Lib.hid (H2.out.trans (hb.mono H2.out.size))
    have HZ3 := Lib.hid hz
    have HW2 := Lib.hid H2.out.size
    have HPL := Lib.hid (fun i => (pk_len a.data.toList b.data.toList i).trans hN)
    clear hrow hb hz
    clear HZ hc
    obtain ⟨B, hB⟩ : ∃ B, w2.heap.size = B := ⟨_, rfl⟩
    rw [hB] at HR HZ3 HW2 ⊢
    clear hB
    go_wp2_with fail
    go_loopw [24] (fun i wr => ∃ k : Nat, k ≤ a.size ∧ i = .int .i64 k ∧ RowP wr B 5 (bts (pk a.data.toList b.data.toList k)) ∧ Below w.heap.size w wr) (fun i _ => a.size - (intOf i).toNat)
    case atStart => exact ⟨0, by omega, rfl, HR.out, H3.out⟩
    case round =>
      obtain ⟨k, hk, rfl, hrow, hb⟩ := hrel
      have HROW := Lib.hid hrow
      have HBB := Lib.hid hb
      clear hrow hb HR H3
      by_cases hlt : k < a.size
      · have hak : a.data.toList.getD k 0 = a[k] := getD_at a k hlt
        by_cases h49 : a[k] = 49
        · have HX := Lib.hid (show pk a.data.toList b.data.toList (k + 1) = xk (pk a.data.toList b.data.toList k) (k + 1) b.data.toList b.size by rw [pk, hak, if_pos h49]; rfl)
          have ht : ((a[k].toNat : Int) == 49) = true := by rw [h49]; rfl
          clear h49 hak
          have hadd := fun wq hq => add_any B c (k + 1) (pk a.data.toList b.data.toList k) b wq hq (by rw [HPL.out]; omega) (by rw [HPL.out]; omega)
          rw [HPL.out, show ((k + 1 : Nat) : Int) = (k : Int) + 1 by omega] at hadd
          have HADD := Lib.hid hadd; clear hadd
          go_wp2_with fail
          refine (HADD.out _ HROW.out).mono ?_
          rintro e w4 ⟨⟨v, rfl⟩, hr4, hg4⟩
          have HR4 := Lib.hid hr4
          have HB4 := Lib.hid (below_grown_at HBB.out hg4 HW2.out HBB.out.size)
          clear hr4 hg4
          go_wp2_with fail
          go_roundw
          case rel => exact ⟨k + 1, by omega, by go_num, by rw [HX.out]; exact HR4.out, HB4.out⟩
          case measure => simp [intOf]; omega
        · have HX := Lib.hid (show pk a.data.toList b.data.toList (k + 1) = pk a.data.toList b.data.toList k by rw [pk, hak, if_neg h49])
          have ht : ((a[k].toNat : Int) == 49) = false := by
            rw [beq_eq_false_iff_ne]; intro he; apply h49; rw [← UInt8.toNat_inj]
            have e : (49 : UInt8).toNat = 49 := rfl
            omega
          clear h49 hak
          go_wp2_with fail
          go_roundw
          case rel => exact ⟨k + 1, by omega, by go_num, by rw [HX.out]; exact HROW.out, HBB.out⟩
          case measure => simp [intOf]; omega
      · obtain rfl : k = a.size := by omega
        have hd : decide ((a.size : Int) < (a.size : Int)) = false := by simp
        have hcv := run_string_rowP (P := Tryd.prog) (src := 57) (dst := 9) (c := c) (n := N) Tryd.underlying57 Tryd.underlying5 Tryd.underlying9 HROW.out (HPL.out _)
        go_wp2_with fail
        refine (trim_any _ _).mono ?_
        rintro e w4 ⟨rfl, rfl⟩
        go_wp2_with fail
        go_ret2
        exact ⟨by rw [HV.out, H.out]; rfl, HBB.out⟩
  · have HV := Lib.hid (show prO a.data.toList b.data.toList = [] by rw [prO, if_neg h])
    have hb : (tw a.data.toList b.data.toList != 0) = true := by simpa using h
    clear h
    go_enter Tryd.func27, Tryd.ntmps27
    go_wp2_with fail
    refine (two_any _ _ _).mono ?_
    rintro e w1 ⟨rfl, n, rfl⟩
    have H1 := Lib.hid (below_drewN (Below.refl w.heap.size w) n)
    go_wp2_with fail
    go_ret2
    exact ⟨by rw [HV.out]; rfl, H1.out⟩
end Go.Proofs.YtahfmeopecmpmaaDoor
