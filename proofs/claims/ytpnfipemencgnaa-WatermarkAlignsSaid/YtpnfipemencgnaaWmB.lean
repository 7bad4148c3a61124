/-
  The costs of aligning: the plain function wc; the contracts of differ and costs.
-/
import Derived.Test.YtpnfipemencgnaaWmA
import Derived.Test.YtpnfipemencgnaaMapP
import Derived.Test.YtpnfipemencgnaaQt
namespace Go.Proofs.Ytpnfipemencgnaa
open Go.RowKit

def dif (a b : UInt8) : Nat := if a = b then 0 else 1
theorem dif_le (a b : UInt8) : dif a b ≤ 1 := by unfold dif; split <;> omega
/-- The least cost of aligning a mark with a received word. -/
def wc : List UInt8 → List UInt8 → Nat
  | [], r => 2 * r.length
  | a :: m, [] => 2 * (a :: m).length
  | a :: m, b :: r => min (min (2 + wc m (b :: r)) (2 + wc (a :: m) r)) (dif a b + wc m r)
def wcI (m r : List UInt8) (i k : Nat) : Nat := wc (m.drop i) (r.drop k)
theorem wc_le : ∀ m r, wc m r ≤ 2 * (m.length + r.length)
  | [], r => by simp [wc]
  | a :: m, [] => by simp [wc]
  | a :: m, b :: r => by
    have := wc_le m (b :: r)
    simp only [wc, List.length_cons] at *
    omega
theorem wc_nil (m : List UInt8) : wc m [] = 2 * m.length := by cases m <;> simp [wc]
theorem wcI_le (m r : List UInt8) (i k : Nat) : wcI m r i k ≤ 2 * (m.length + r.length) := by
  have := wc_le (m.drop i) (r.drop k)
  unfold wcI; simp at this; omega
theorem wcI_last (m r : List UInt8) (k : Nat) : wcI m r m.length k = 2 * (r.length - k) := by simp [wcI, wc]
theorem wcI_end (m r : List UInt8) (i : Nat) : wcI m r i r.length = 2 * (m.length - i) := by simp [wcI, wc_nil]
theorem wcI_step (m r : List UInt8) (i k : Nat) (hi : i < m.length) (hk : k < r.length) : wcI m r i k = min (min (2 + wcI m r (i + 1) k) (2 + wcI m r i (k + 1))) (dif m[i] r[k] + wcI m r (i + 1) (k + 1)) := by
  have h1 : m.drop i = m[i] :: m.drop (i + 1) := List.drop_eq_getElem_cons hi
  have h2 : r.drop k = r[k] :: r.drop (k + 1) := List.drop_eq_getElem_cons hk
  unfold wcI
  rw [h1, h2, wc, ← h1, ← h2]
theorem wcI_eq (m r : List UInt8) (i k : Nat) : wcI m r i k = wc (m.drop i) (r.drop k) := rfl
attribute [irreducible] wcI

/-- What the map holds when the places from (I, 0) on are done, and those of the row before from J on. -/
def cf (m r : List UInt8) (I J : Nat) (p : Nat × Nat) : Option Value :=
  if p.1 ≤ m.length ∧ p.2 ≤ r.length ∧ (I ≤ p.1 ∨ (p.1 + 1 = I ∧ J ≤ p.2)) then some (.int .i64 (wcI m r p.1 p.2 : Nat)) else none
theorem cf_start (m r : List UInt8) (p : Nat × Nat) : cf m r (m.length + 1) (r.length + 1) p = none := by
  unfold cf; rw [if_neg]; omega
theorem cf_get {m r : List UInt8} {I J : Nat} (i k : Nat) (h1 : i ≤ m.length) (h2 : k ≤ r.length) (h : I ≤ i ∨ (i + 1 = I ∧ J ≤ k)) (z : Value) : (cf m r I J (i, k)).getD z = .int .i64 (wcI m r i k : Nat) := by
  unfold cf; rw [if_pos ⟨h1, h2, h⟩]; rfl
theorem cf_put {m r : List UInt8} (I J : Nat) (h1 : I ≤ m.length) (h2 : J ≤ r.length) (p : Nat × Nat) :
    (if p == (I, J) then some (Value.int .i64 (wcI m r I J : Nat)) else cf m r (I + 1) (J + 1) p) = cf m r (I + 1) J p := by
  obtain ⟨a, b⟩ := p
  by_cases h : ((a, b) == (I, J)) = true
  · rw [if_pos h]
    have := eq_of_beq h
    simp only [Prod.mk.injEq] at this
    obtain ⟨rfl, rfl⟩ := this
    unfold cf; rw [if_pos ⟨h1, h2, .inr ⟨rfl, Nat.le_refl _⟩⟩]
  · rw [if_neg h]
    have hn : ¬ (a = I ∧ b = J) := by rintro ⟨rfl, rfl⟩; simp at h
    unfold cf
    congr 1
    rw [eq_iff_iff]
    dsimp only
    omega
theorem cf_next (m r : List UInt8) (I : Nat) (p : Nat × Nat) : cf m r (I + 1) 0 p = cf m r I (r.length + 1) p := by
  unfold cf
  congr 1
  rw [eq_iff_iff]
  omega

theorem toList_getElem (s : ByteArray) (i : Nat) (h : i < s.size) : s.data.toList[i]'(by simpa using h) = s[i] := rfl

set_option maxHeartbeats 400000 in
theorem differ_any (m r : ByteArray) (i k : Nat) (w : World) (hi : i < m.size) (hk : k < r.size) :
    Calls Try.prog 46 #[.string m, .string r, .int .i64 i, .int .i64 k] w fun e w' => e = .returned (.int .i64 (dif m[i] r[k] : Nat)) ∧ ∃ n, w' = w.drewN n := by
  by_cases h : m[i] = r[k]
  · have hb : (((m[i].toNat : Nat) : Int) != ((r[k].toNat : Nat) : Int)) = false := by rw [h]; simp
    have hd := Lib.hid (show dif m[i] r[k] = 0 by rw [dif, if_pos h])
    clear h
    go_enter Try.func46, Try.ntmps46
    go_wp2
    go_quiet (fail)
    go_wp2
    go_ret
    exact ⟨by rw [hd.out]; rfl, _, rfl⟩
  · have hb : (((m[i].toNat : Nat) : Int) != ((r[k].toNat : Nat) : Int)) = true := by
      rw [bne_iff_ne]; intro he; apply h; rw [← UInt8.toNat_inj]; omega
    have hd := Lib.hid (show dif m[i] r[k] = 1 by rw [dif, if_neg h])
    clear h
    go_enter Try.func46, Try.ntmps46
    go_wp2
    go_quiet (fail)
    go_wp2
    go_ret
    exact ⟨by rw [hd.out]; rfl, _, rfl⟩

theorem look_eq {W : World} {B : Nat} {g : Nat × Nat → Option Value} (h : MapIs W B encR g) (q : Nat × Nat) (x : Nat) (hx : ∀ z, (g q).getD z = .int .i64 (x : Nat)) (k1 k2 : Int) (h1 : k1 = q.1) (h2 : k2 = q.2) :
    (Instr.lookup 61 (.map (some B)) (.agg #[.int .i64 k1, .int .i64 k2]) false).run Try.prog W = .ok (.int .i64 (x : Nat)) W := by
  subst h1 h2
  have := run_lookM (P := Try.prog) h Try.underlying61 keyLaw_rest (z := .int .i64 0) (by kernel_rfl) q
  rw [hx] at this
  exact this
theorem look_put {W : World} {B : Nat} {v : Value} {k0 : Nat × Nat} {g : Nat × Nat → Option Value} (h : MapIs W B encR (fun k' => if k' == k0 then some v else g k')) (q : Nat × Nat) (hq : q ≠ k0) (x : Nat) (hx : ∀ z, (g q).getD z = .int .i64 (x : Nat)) (k1 k2 : Int) (h1 : k1 = q.1) (h2 : k2 = q.2) :
    (Instr.lookup 61 (.map (some B)) (.agg #[.int .i64 k1, .int .i64 k2]) false).run Try.prog W = .ok (.int .i64 (x : Nat)) W := by
  refine look_eq h q x (fun z => ?_) k1 k2 h1 h2
  have : (q == k0) = false := by simpa using hq
  simp only [this]
  exact hx z

set_option maxHeartbeats 4000000 in
set_option maxRecDepth 100000 in
theorem costs_any (m r : ByteArray) (w : World) (hm : m.size ≤ 256) (hr : r.size ≤ 256) :
    Calls Try.prog 43 #[.string m, .string r] w fun e w' => ∃ B, e = .returned (.map (some B)) ∧ w.heap.size ≤ B ∧ MapIs w' B encR (cf m.data.toList r.data.toList 0 (r.size + 1)) ∧ Below w.heap.size w w' := by
  have hmm := @run_makeMap Try.prog
  have HW := Lib.hid (wcI_le m.data.toList r.data.toList)
  go_enter Try.func43, Try.ntmps43
  go_wp2_with fail
  go_loopw [6] (fun i wr => ∃ I : Nat, I ≤ m.size + 1 ∧ i = .int .i64 ((I : Int) - 1) ∧ MapIs wr w.heap.size encR (cf m.data.toList r.data.toList I (r.size + 1)) ∧ Below w.heap.size w wr) (fun i _ => (intOf i + 1).toNat)
  case atStart =>
    refine ⟨m.size + 1, by omega, by go_num, (mapIs_new w encR).congr fun k => (cf_start _ _ k).symm, (Below.refl _ _).alloc (Nat.le_refl _) _⟩
  case round =>
    obtain ⟨I, hI, hv, hmap, hb⟩ := hrel
    have HM := Lib.hid hmap; clear hmap
    have HB := Lib.hid hb; clear hb
    by_cases h0 : I = 0
    · subst h0
      subst hv
      go_wp2_with fail
      go_ret
      exact ⟨_, rfl, Nat.le_refl _, HM.out, HB.out⟩
    · obtain ⟨i, rfl⟩ : ∃ i, I = i + 1 := ⟨I - 1, by omega⟩
      rw [show (((i + 1 : Nat) : Int) - 1) = (i : Int) by omega] at hv
      subst hv
      go_wp2_with fail
      go_loopw [7] (fun k wr2 => ∃ J : Nat, J ≤ r.size + 1 ∧ k = .int .i64 ((J : Int) - 1) ∧ MapIs wr2 w.heap.size encR (cf m.data.toList r.data.toList (i + 1) J) ∧ Below w.heap.size w wr2) (fun k _ => (intOf k + 1).toNat)
      case atStart => exact ⟨r.size + 1, by omega, by go_num, HM.out, HB.out⟩
      case round =>
        obtain ⟨J, hJ, hv, hmap, hb⟩ := hrel
        have HM2 := Lib.hid hmap; clear hmap
        have HB2 := Lib.hid hb; clear hb
        by_cases hJ0 : J = 0
        · subst hJ0
          subst hv
          go_wp2_with fail
          go_roundw
          case rel => exact ⟨i, by omega, by go_num, HM2.out.congr fun p => cf_next _ _ _ p, HB2.out⟩
          case measure => simp [intOf]
        · obtain ⟨k, rfl⟩ : ∃ k, J = k + 1 := ⟨J - 1, by omega⟩
          rw [show (((k + 1 : Nat) : Int) - 1) = (k : Int) by omega] at hv
          subst hv
          have hput := cf_put (m := m.data.toList) (r := r.data.toList) i k (by simp; omega) (by simp; omega)
          by_cases hlast : i = m.size
          · subst hlast
            have hv : wcI m.data.toList r.data.toList m.size k = 2 * (r.size - k) := wcI_last m.data.toList r.data.toList k
            have HV := Lib.hid hv; clear hv
            have HP := Lib.hid hput; clear hput
            go_wp2_with (first | (at_mapUpdate; refine wpList_putM _ rfl _ _ _ _ rfl Try.underlying61 keyLaw_rest _ _ rfl HM2.out (m.size, k) rfl ?_; intro w6 m6 g6 s6; have M6 := Lib.hid m6; clear m6; have G6 := Lib.hid g6; clear g6; have S6 := Lib.hid s6; clear s6))
            go_roundw
            case rel =>
              refine ⟨k, by omega, by go_num, M6.out.congr fun p => ?_, HB2.out.grown G6.out (by have := HB2.out.size; omega) (by intro k hk; simp at hk; omega)⟩
              rw [← HP.out p, HV.out]
              have e : (2 : Int) * ((r.size : Int) - (k : Int)) = ((2 * (r.size - k) : Nat) : Int) := by omega
              rw [← e]; rfl
            case measure => simp [intOf]
          · have hE : ((i : Int) == (m.size : Int)) = false := by simp; omega
            by_cases hend : k = r.size
            · subst hend
              have hv : wcI m.data.toList r.data.toList i r.size = 2 * (m.size - i) := wcI_end m.data.toList r.data.toList i
              have HV := Lib.hid hv; clear hv
              have HP := Lib.hid hput; clear hput
              go_wp2_with (first | (at_mapUpdate; refine wpList_putM _ rfl _ _ _ _ rfl Try.underlying61 keyLaw_rest _ _ rfl HM2.out (i, r.size) rfl ?_; intro w6 m6 g6 s6; have M6 := Lib.hid m6; clear m6; have G6 := Lib.hid g6; clear g6; have S6 := Lib.hid s6; clear s6))
              go_roundw
              case rel =>
                refine ⟨r.size, by omega, by go_num, M6.out.congr fun p => ?_, HB2.out.grown G6.out (by have := HB2.out.size; omega) (by intro k hk; simp at hk; omega)⟩
                rw [← HP.out p, HV.out]
                have e : (2 : Int) * ((m.size : Int) - (i : Int)) = ((2 * (m.size - i) : Nat) : Int) := by omega
                rw [← e]; rfl
              case measure => simp [intOf]
            · have hE2 : ((k : Int) == (r.size : Int)) = false := by simp; omega
              have hi1 : i < m.size := by omega
              have hk1 : k < r.size := by omega
              have hv := wcI_step m.data.toList r.data.toList i k (by simpa using hi1) (by simpa using hk1)
              have HV := Lib.hid hv; clear hv
              have HP := Lib.hid hput; clear hput
              have b1 := HW.out (i + 1) k
              have b2 := HW.out i (k + 1)
              have b3 := HW.out (i + 1) (k + 1)
              have b4 := dif_le m[i] r[k]
              have G1 := Lib.hid (fun z => cf_get (m := m.data.toList) (r := r.data.toList) (I := i + 1) (J := k + 1) (i + 1) k (by simp; omega) (by simp; omega) (.inl (Nat.le_refl _)) z)
              have G2 := Lib.hid (fun z => cf_get (m := m.data.toList) (r := r.data.toList) (I := i + 1) (J := k + 1) i (k + 1) (by simp; omega) (by simp; omega) (.inr ⟨rfl, Nat.le_refl _⟩) z)
              have G3 := Lib.hid (fun z => cf_get (m := m.data.toList) (r := r.data.toList) (I := i + 1) (J := k + 1) (i + 1) (k + 1) (by simp; omega) (by simp; omega) (.inl (Nat.le_refl _)) z)
              simp only [Array.length_toList, ByteArray.size_data] at b1 b2 b3
              generalize wcI m.data.toList r.data.toList (i + 1) k = c1 at *
              generalize wcI m.data.toList r.data.toList i (k + 1) = c2 at *
              generalize wcI m.data.toList r.data.toList (i + 1) (k + 1) = c3 at *
              go_wp2_with fail
              have L1 := fun n => look_eq (HM2.out.drewN n) (i + 1, k) c1 G1.out ((i : Int) + 1) (k : Int) rfl rfl
              have L2 := fun n => look_eq (HM2.out.drewN n) (i, k + 1) c2 G2.out (i : Int) ((k : Int) + 1) rfl rfl
              have L3 := fun n => look_eq (HM2.out.drewN n) (i + 1, k + 1) c3 G3.out ((i : Int) + 1) ((k : Int) + 1) rfl rfl
              refine wp_region_quiet_tail 32 (by kernel_rfl) (by kernel_rfl) ?_
              simp only [List.take_succ_cons, List.take_zero, List.drop_succ_cons, List.drop_zero]
              repeat (go_big_quiet_step ((go_at_call 46; exact Calls.quiet_of (differ_any _ _ _ _ _ hi1 hk1))))
              refine wpQuiet_nil ?_
              rintro _ ⟨nq, rfl⟩
              clear L1 L2 L3
              go_wp2_with (at_mapUpdate; refine wpList_putM _ rfl _ _ _ _ rfl Try.underlying61 keyLaw_rest _ _ rfl (HM2.out.drewN nq) (i, k) rfl ?_; intro w6 m6 g6 s6; have M6 := Lib.hid m6; clear m6; have G6 := Lib.hid g6; clear g6; have S6 := Lib.hid s6; clear s6)
              go_roundw
              case rel =>
                refine ⟨k, by omega, by go_num, M6.out.congr fun p => ?_, (below_drewN HB2.out _).grown G6.out (by have := HB2.out.size; simp; omega) (by intro k hk; simp at hk; omega)⟩
                rw [← HP.out p, HV.out]
                congr 2
                refine congrArg (Value.int .i64) ?_
                have e : (if ((dif m[i] r[k] : Nat) : Int) + (c3 : Int) < (if c2 < c1 then 2 + (c2 : Int) else 2 + (c1 : Int)) then ((dif m[i] r[k] : Nat) : Int) + (c3 : Int) else (if c2 < c1 then 2 + (c2 : Int) else 2 + (c1 : Int))) = ((min (min (2 + c1) (2 + c2)) (dif m[i] r[k] + c3) : Nat) : Int) := by
                  split <;> split at * <;> omega
                exact e
              case measure => simp [intOf]
end Go.Proofs.Ytpnfipemencgnaa
