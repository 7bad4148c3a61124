/-
  The alignment: the plain function alI, and the contract of align's closure.
-/
import Derived.Test.YtpnfipemencgnaaWmC
import Derived.Test.YtpnfipemencgnaaBld
import Derived.Test.YtpnfipemencgnaaEql
namespace Go.Proofs.Ytpnfipemencgnaa
open Go.RowKit

/-- The letter i of the mark may go to the letter at of the word, from k on, at the least cost. -/
def hit (m r : List UInt8) (i k at' : Nat) : Bool := 2 * (at' - k) + dif (m.getD i 0) (r.getD at' 0) + wcI m r (i + 1) (at' + 1) == wcI m r i k
/-- The first such letter from at on. -/
def pkI (m r : List UInt8) (i k : Nat) : Nat → Nat → Option Nat
  | 0, _ => none
  | f + 1, at' => if hit m r i k at' then some at' else pkI m r i k f (at' + 1)
def alI (m r : List UInt8) : Nat → Nat → Nat → List Int
  | 0, _, _ => []
  | f + 1, i, k => match pkI m r i k (r.length - k) k with
    | some at' => (at' : Int) :: alI m r f (i + 1) (at' + 1)
    | none => -1 :: alI m r f (i + 1) k
theorem alI_len (m r : List UInt8) : ∀ f i k, (alI m r f i k).length = f
  | 0, _, _ => rfl
  | f + 1, i, k => by
    rw [alI]; split <;> simp [alI_len m r f]
theorem pkI_bd (m r : List UInt8) (i k : Nat) : ∀ f at' j, pkI m r i k f at' = some j → at' ≤ j ∧ j < at' + f
  | 0, _, _, h => by simp [pkI] at h
  | f + 1, at', j, h => by
    rw [pkI] at h
    split at h
    · cases h; omega
    · have := pkI_bd m r i k f (at' + 1) j h; omega

theorem pkI_step (m r : List UInt8) (i k f at' : Nat) (hf : 0 < f) : pkI m r i k f at' = if hit m r i k at' then some at' else pkI m r i k (f - 1) (at' + 1) := by
  obtain ⟨f, rfl⟩ : ∃ g, f = g + 1 := ⟨f - 1, by omega⟩
  rfl
theorem hit_int (m r : ByteArray) (i k at' : Nat) (hi : i < m.size) (ha : at' < r.size) (hk : k ≤ at') :
    ((2 * ((at' : Int) - (k : Int)) + (dif m[i] r[at'] : Nat) + (wcI m.data.toList r.data.toList (i + 1) (at' + 1) : Nat)) == ((wcI m.data.toList r.data.toList i k : Nat) : Int)) = hit m.data.toList r.data.toList i k at' := by
  have h1 : m.data.toList.getD i 0 = m[i] := by rw [List.getD_eq_getElem?_getD, List.getElem?_eq_getElem (by simpa using hi)]; rfl
  have h2 : r.data.toList.getD at' 0 = r[at'] := by rw [List.getD_eq_getElem?_getD, List.getElem?_eq_getElem (by simpa using ha)]; rfl
  rw [hit, h1, h2, Bool.eq_iff_iff, beq_iff_eq, beq_iff_eq]
  omega

theorem own_ge {w : World} {base : Nat} {T : TypeId} {v : Value} {xs : List Value} (h : Own w base T v xs) {b : Nat} (hb : b < base) : some b ≠ v.ownBlock := fun he => by
  have := (h.block b he.symm).1; omega

/-- What the closure captures, in world w: the boxes of the mark, the word, the costs, and itself; all lie below base, and none is the box of out. -/
def Cap (m r : ByteArray) (base bo bm br bc bf B : Nat) (w : World) : Prop :=
  (bm < base ∧ bm ≠ bo ∧ w.cell? ⟨bm, 0, none⟩ = some (.string m)) ∧ (br < base ∧ br ≠ bo ∧ w.cell? ⟨br, 0, none⟩ = some (.string r)) ∧
  (bc < base ∧ bc ≠ bo ∧ w.cell? ⟨bc, 0, none⟩ = some (.map (some B))) ∧ (B < base ∧ B ≠ bo ∧ MapIs w B encR (cf m.data.toList r.data.toList 0 (r.size + 1))) ∧
  (bf < base ∧ bf ≠ bo ∧ w.cell? ⟨bf, 0, none⟩ = some (.func (.func 65) #[] #[.pointer (some ⟨bm, 0, none⟩), .pointer (some ⟨br, 0, none⟩), .pointer (some ⟨bc, 0, none⟩), .pointer (some ⟨bo, 0, none⟩), .pointer (some ⟨bf, 0, none⟩)]))
theorem cell_keep {w w' : World} {base bo b j : Nat} {v : Value} (hk : KeepB base bo w w') (h1 : b < base) (h2 : b ≠ bo) (h : w.cell? ⟨b, j, none⟩ = some v) : w'.cell? ⟨b, j, none⟩ = some v := by
  have := hk b h1 h2
  simp only [World.cell?] at h ⊢
  rw [this]; exact h
theorem Cap.keep {m r : ByteArray} {base bo bm br bc bf B : Nat} {w w' : World} (h : Cap m r base bo bm br bc bf B w) (hk : KeepB base bo w w') : Cap m r base bo bm br bc bf B w' := by
  obtain ⟨⟨a1, a2, a3⟩, ⟨b1, b2, b3⟩, ⟨c1, c2, c3⟩, ⟨d1, d2, d3⟩, e1, e2, e3⟩ := h
  refine ⟨⟨a1, a2, cell_keep hk a1 a2 a3⟩, ⟨b1, b2, cell_keep hk b1 b2 b3⟩, ⟨c1, c2, cell_keep hk c1 c2 c3⟩, ⟨d1, d2, ?_⟩, e1, e2, cell_keep hk e1 e2 e3⟩
  obtain ⟨es, c, h1, h2⟩ := d3
  exact ⟨es, c, by rw [hk B d1 d2]; exact h1, h2⟩

/-- The box of out holds a slice of the call's own, from base on, with these numbers. -/
def OutIs (base bo : Nat) (xs : List Int) (w : World) : Prop := bo < base ∧ base ≤ w.heap.size ∧ ∃ v, Row w bo 28 [v] ∧ Own w base 3 v (ints xs)

/-- One element more: what the append and the store leave. -/
theorem out_step {base bo B0 : Nat} {xs : List Int} {v v' : Value} {w w2 w3 : World} {o : Obj} (x : Int) (hbo : bo < base) (hbs : base ≤ w2.heap.size) (hr : Row w2 bo 28 [v]) (ho : Own w2 base 3 v (ints xs)) (hB0 : B0 ≤ bo)
    (ho' : Own w3 base 3 v' (ints xs ++ [.int .i64 x])) (hg : (w2.alloc o).grownBy w3 v.ownBlock) (hb : Below B0 w w2) (hk : KeepB base bo w w2) :
    Row w3 bo 28 [v] ∧ KeepB base bo w2 w3 ∧ OutIs base bo (xs ++ [x]) (w3.setCell ⟨bo, 0, none⟩ v') ∧ KeepB base bo w2 (w3.setCell ⟨bo, 0, none⟩ v') ∧ KeepB base bo w (w3.setCell ⟨bo, 0, none⟩ v') ∧ Below B0 w (w3.setCell ⟨bo, 0, none⟩ v') := by
  have hrow := (hr.alloc o).grown hg (own_ge ho hbo)
  have k1 : KeepB base bo w2 w3 := fun k h1 h2 => by
    rw [hg.block k (by simp; omega) (own_ge ho h1), Lib.alloc_old w2 _ k (by omega)]
  have k2 : KeepB base bo w2 (w3.setCell ⟨bo, 0, none⟩ v') := fun k h1 h2 => by
    rw [Below.heap_setCell _ _ _ _ h2]; exact k1 k h1 h2
  have hs : base ≤ w3.heap.size := by have := hg.size; simp at this; omega
  refine ⟨hrow, k1, ⟨hbo, by simp [World.setCell]; exact hs, v', hrow.set 0 v', ?_⟩, k2, hk.trans k2, ?_⟩
  · have := ho'.set_other ⟨bo, 0, none⟩ v' (own_ge ho' hbo).symm
    rwa [ints_one, ints_app] at this
  · have := hb.size
    exact ((hb.alloc (by omega) o).grown hg (by simp; omega) (fun k hk => by have := (ho.block k hk).1; omega)).setCell (p := ⟨bo, 0, none⟩) hB0 _

set_option maxHeartbeats 4000000 in
set_option maxRecDepth 100000 in
theorem from_any (m r : ByteArray) (base bo bm br bc bf B B0 : Nat) (hm : m.size ≤ 256) (hr : r.size ≤ 256) (hB0 : B0 ≤ bo) (f : Nat) :
    ∀ (i k : Nat) (xs : List Int) (w : World), i + f = m.size → k ≤ r.size → xs.length = i → Cap m r base bo bm br bc bf B w → OutIs base bo xs w →
    Calls Try.prog 65 #[.int .i64 i, .int .i64 k, .pointer (some ⟨bm, 0, none⟩), .pointer (some ⟨br, 0, none⟩), .pointer (some ⟨bc, 0, none⟩), .pointer (some ⟨bo, 0, none⟩), .pointer (some ⟨bf, 0, none⟩)] w
      fun e w' => e = .returned (.tuple #[]) ∧ OutIs base bo (xs ++ alI m.data.toList r.data.toList f i k) w' ∧ KeepB base bo w w' ∧ Below B0 w w' := by
  induction f with
  | zero =>
    intro i k xs w hi hk hx hc ho
    have HC := Lib.hid hc
    obtain ⟨⟨_, _, c1⟩, ⟨_, _, c2⟩, ⟨_, _, c3⟩, _, ⟨_, _, c5⟩⟩ := hc
    have HO := Lib.hid ho; clear ho
    obtain rfl : i = m.size := by omega
    go_enter Try.func65, Try.ntmps65
    go_wp2_with fail
    refine bodyPost_ret (results_none rfl _ _ _) rfl ?_
    exact ⟨rfl, by simpa [alI] using HO.out, KeepB.refl _ _ _, Below.refl _ _⟩
  | succ f ih =>
    intro i k xs w hi hk hx hc ho
    have HC := Lib.hid hc
    obtain ⟨⟨_, _, c1⟩, ⟨_, _, c2⟩, ⟨_, _, c3⟩, _, ⟨_, _, c5⟩⟩ := hc
    have HO := Lib.hid ho; clear ho
    have hi1 : i < m.size := by omega
    have hE0 : ((i : Int) == (m.size : Int)) = false := by simp; omega
    go_enter Try.func65, Try.ntmps65
    go_wp2_with fail
    have HP := Lib.hid (rfl : pkI m.data.toList r.data.toList i k (r.size - k) k = pkI m.data.toList r.data.toList i k (r.size - k) k)
    go_loopw [9] (fun a wr => ∃ at' nd : Nat, k ≤ at' ∧ at' ≤ r.size ∧ a = .int .i64 at' ∧ pkI m.data.toList r.data.toList i k (r.size - k) k = pkI m.data.toList r.data.toList i k (r.size - at') at' ∧ wr = w.drewN nd) (fun a _ => r.size - (intOf a).toNat)
    case atStart => exact ⟨k, 0, Nat.le_refl _, hk, rfl, rfl, rfl⟩
    case round =>
      obtain ⟨at', nd, ha1, ha2, rfl, hpk, hwr⟩ := hrel
      have HPK := Lib.hid hpk; clear hpk
      have HC' : Hid (Cap m r base bo bm br bc bf B wr) := Lib.hid (by rw [hwr]; exact HC.out)
      have HO' : Hid (OutIs base bo xs wr) := Lib.hid (by rw [hwr]; exact HO.out)
      have HK' : Hid (KeepB base bo w wr) := Lib.hid (by rw [hwr]; exact KeepB.refl _ _ _)
      have HB' : Hid (Below B0 w wr) := Lib.hid (by rw [hwr]; exact below_drewN (Below.refl _ _) _)
      have HWR := Lib.hid hwr; clear hwr
      clear c1 c2 c3 c5
      obtain ⟨⟨_, _, c1⟩, ⟨_, _, c2⟩, ⟨_, _, c3⟩, _, ⟨_, _, c5⟩⟩ := id HC'.out
      by_cases hlt : at' < r.size
      · have hmap := HC'.out.2.2.2.1.2.2
        have hz := Lib.hid (wcI_le m.data.toList r.data.toList)
        have b1 := hz.out (i + 1) (at' + 1)
        have b2 := hz.out i k
        have b4 := dif_le m[i] r[at']
        simp only [Array.length_toList, ByteArray.size_data] at b1 b2
        have L1 := fun n => look_eq (hmap.drewN n) (i + 1, at' + 1) (wcI m.data.toList r.data.toList (i + 1) (at' + 1)) (fun z => cf_get _ _ (by simp; omega) (by simp; omega) (.inl (Nat.zero_le _)) z) ((i : Int) + 1) ((at' : Int) + 1) rfl rfl
        have L2 := fun n => look_eq (hmap.drewN n) (i, k) (wcI m.data.toList r.data.toList i k) (fun z => cf_get _ _ (by simp; omega) (by simp; omega) (.inl (Nat.zero_le _)) z) (i : Int) (k : Int) rfl rfl
        clear hmap
        have hT := hit_int m r i k at' hi1 hlt ha1
        have HW1 := Lib.hid (rfl : wcI m.data.toList r.data.toList (i + 1) (at' + 1) = wcI m.data.toList r.data.toList (i + 1) (at' + 1))
        generalize wcI m.data.toList r.data.toList (i + 1) (at' + 1) = x1 at *
        generalize wcI m.data.toList r.data.toList i k = x2 at *
        have hpk1 := Lib.hid (pkI_step m.data.toList r.data.toList i k (r.size - at') at' (by omega))
        by_cases hh : hit m.data.toList r.data.toList i k at' = true
        · rw [hh] at hT
          have HH := Lib.hid hh; clear hh
          go_wp2_with fail
          go_quiet ((go_at_call 46; exact Calls.quiet_of (differ_any _ _ _ _ _ hi1 hlt)))
          clear L1 L2 c1 c2 c3 c5
          obtain ⟨w2, hw2⟩ : ∃ w2, w2 = wr.drewN nq := ⟨_, rfl⟩
          rw [← hw2]
          have HC2 : Hid (Cap m r base bo bm br bc bf B w2) := Lib.hid (by rw [hw2]; exact HC'.out)
          have HK2 : Hid (KeepB base bo w w2) := Lib.hid (by rw [hw2]; exact HK'.out)
          have HB2 : Hid (Below B0 w w2) := Lib.hid (by rw [hw2]; exact below_drewN HB'.out _)
          have HO2 : Hid (OutIs base bo xs w2) := Lib.hid (by rw [hw2]; exact HO'.out)
          clear hw2
          obtain ⟨hbo, hbs, v, hrow, hown⟩ := id HO2.out
          obtain ⟨⟨_, _, c1⟩, ⟨_, _, c2⟩, ⟨_, _, c3⟩, _, ⟨_, _, c5⟩⟩ := id HC2.out
          have c4 : w2.cell? ⟨bo, 0, none⟩ = some v := hrow.cell 0
          have HR := Lib.hid hrow; clear hrow
          have HW := Lib.hid hown; clear hown
          go_wp2_with (at_builtin; refine wpList_app1 _ rfl _ _ _ rfl base 3 (.int .i64 0) 8 Try.underlying28 (by kernel_rfl) rfl _ _ rfl (HW.out.alloc _) w2.heap.size 1 (.int .i64 (at' : Int)) rfl ((row_new w2 3 [.int .i64 (at' : Int)]).cell 0) rfl ?c1 ?c2 ?c3 ?_)
          case c1 => rw [ints_len]; omega
          case c2 => rw [ints_len]; omega
          case c3 => simp; omega
          intro v' w3 hown' hgrow hv'
          obtain ⟨q1, q2, q3, q4, q5, q6⟩ := out_step (at' : Int) hbo hbs HR.out HW.out hB0 hown' hgrow HB2.out HK2.out
          have d4 : w3.cell? ⟨bo, 0, none⟩ = some v := q1.cell 0
          have f4 : w3.frozen? ⟨bo, 0, none⟩ = false := q1.frozen 0
          have d5 := cell_keep q4 HC2.out.2.2.2.2.1 HC2.out.2.2.2.2.2.1 c5
          have Q3 := Lib.hid q3
          have QC := Lib.hid (HC2.out.keep q4)
          have Q5 := Lib.hid q5
          have Q6 := Lib.hid q6
          obtain ⟨g, cap, rfl⟩ : ∃ g cap, v' = .slice (some ⟨g, 0, none⟩) (i + 1) cap := by
            rcases hown'.cases with ⟨h1, _⟩ | ⟨g, cap, h1, _⟩
            · exact absurd h1 hv'
            · exact ⟨g, cap, by rw [h1]; simp [ints, hx]⟩
          clear q1 q2 q3 q4 q5 q6 hown' hgrow hv' c1 c2 c3 c4 c5
          go_wp2_with fail
          refine (ih (i + 1) (at' + 1) (xs ++ [(at' : Int)]) _ (by omega) (by omega) (by simp; omega) QC.out Q3.out).mono ?_
          rintro e w4 ⟨rfl, h1, h2, h3⟩
          have G1 := Lib.hid h1; clear h1
          have G2 := Lib.hid h2; clear h2
          have G3 := Lib.hid h3; clear h3
          go_wp2_with fail
          refine bodyPost_ret (results_none rfl _ _ _) rfl ?_
          refine ⟨rfl, ?_, Q5.out.trans G2.out, Q6.out.trans G3.out⟩
          have hal : alI m.data.toList r.data.toList (f + 1) i k = (at' : Int) :: alI m.data.toList r.data.toList f (i + 1) (at' + 1) := by
            rw [alI, show r.data.toList.length = r.size from rfl, HPK.out, hpk1.out, if_pos HH.out]
          rw [hal]
          have := G1.out
          rwa [List.append_assoc] at this
        · rw [show hit m.data.toList r.data.toList i k at' = false by simpa using hh] at hT
          have HH := Lib.hid hh; clear hh
          go_wp2_with fail
          go_quiet ((go_at_call 46; exact Calls.quiet_of (differ_any _ _ _ _ _ hi1 hlt)))
          go_wp2_with fail
          go_roundw
          case rel =>
            refine ⟨at' + 1, nd + nq, by omega, by omega, by go_num, ?_, by rw [HWR.out, World.drewN_drewN]⟩
            rw [HPK.out, hpk1.out, if_neg HH.out]; rfl

          case measure => simp [intOf]; omega
      · obtain rfl : at' = r.size := by omega
        have hlt' : decide ((r.size : Int) < (r.size : Int)) = false := by simp
        obtain ⟨hbo, hbs, v, hrow, hown⟩ := id HO'.out
        have c4 : wr.cell? ⟨bo, 0, none⟩ = some v := hrow.cell 0
        have HR := Lib.hid hrow; clear hrow
        have HW := Lib.hid hown; clear hown
        go_wp2_with (at_builtin; refine wpList_app1 _ rfl _ _ _ rfl base 3 (.int .i64 0) 8 Try.underlying28 (by kernel_rfl) rfl _ _ rfl (HW.out.alloc _) wr.heap.size 1 (.int .i64 (-1)) rfl ((row_new wr 3 [.int .i64 (-1)]).cell 0) rfl ?c1 ?c2 ?c3 ?_)
        case c1 => rw [ints_len]; omega
        case c2 => rw [ints_len]; omega
        case c3 => exact Nat.le_trans hbs (by simp)
        intro v' w3 hown' hgrow hv'
        obtain ⟨q1, q2, q3, q4, q5, q6⟩ := out_step (-1) hbo hbs HR.out HW.out hB0 hown' hgrow HB'.out HK'.out
        have d4 : w3.cell? ⟨bo, 0, none⟩ = some v := q1.cell 0
        have f4 : w3.frozen? ⟨bo, 0, none⟩ = false := q1.frozen 0
        have d5 := cell_keep q4 HC'.out.2.2.2.2.1 HC'.out.2.2.2.2.2.1 c5
        have Q3 := Lib.hid q3
        have QC := Lib.hid (HC'.out.keep q4)
        have Q5 := Lib.hid q5
        have Q6 := Lib.hid q6
        obtain ⟨g, cap, rfl⟩ : ∃ g cap, v' = .slice (some ⟨g, 0, none⟩) (i + 1) cap := by
          rcases hown'.cases with ⟨h1, _⟩ | ⟨g, cap, h1, _⟩
          · exact absurd h1 hv'
          · exact ⟨g, cap, by rw [h1]; simp [ints, hx]⟩
        clear q1 q2 q3 q4 q5 q6 hown' hgrow hv' c1 c2 c3 c4 c5
        go_wp2_with fail
        refine (ih (i + 1) k (xs ++ [-1]) _ (by omega) hk (by simp; omega) QC.out Q3.out).mono ?_
        rintro e w4 ⟨rfl, h1, h2, h3⟩
        have G1 := Lib.hid h1; clear h1
        have G2 := Lib.hid h2; clear h2
        have G3 := Lib.hid h3; clear h3
        go_wp2_with fail
        go_end0
        refine ⟨rfl, ?_, Q5.out.trans G2.out, Q6.out.trans G3.out⟩
        have hal : alI m.data.toList r.data.toList (f + 1) i k = -1 :: alI m.data.toList r.data.toList f (i + 1) k := by
          rw [alI, show r.data.toList.length = r.size from rfl, HPK.out, Nat.sub_self]; rfl
        rw [hal]
        have := G1.out
        rwa [List.append_assoc] at this
end Go.Proofs.Ytpnfipemencgnaa
