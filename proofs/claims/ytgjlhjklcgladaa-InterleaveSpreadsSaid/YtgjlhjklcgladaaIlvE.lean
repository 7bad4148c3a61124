/-
  The contract of Order of package interleave: it returns what the plain function ordR computes, where the numbers on the way stay small.
-/
import Derived.Test.YtgjlhjklcgladaaIlvD
import Derived.Test.YtgjlhjklcgladaaMap
namespace Go.Proofs.Ytgjlhjklcgladaa
open Go.RowKit

/-- The rest of a cycle: what is met is kept as a number's bits. -/
def cyc (to : Nat → Nat) : Nat → Nat → Nat → Nat → Nat × Nat
  | 0, met, _, size => (met, size)
  | f + 1, met, k, size => if met.testBit k then (met, size) else cyc to f (met ||| 1 <<< k) (to k) (size + 1)
def ordK (to : Nat → Nat) (n : Nat) : Nat → Nat × Nat
  | 0 => (0, 1)
  | i + 1 => ((cyc to (n + 1) (ordK to n i).1 i 0).1, if 0 < (cyc to (n + 1) (ordK to n i).1 i 0).2 then (ordK to n i).2 * ((cyc to (n + 1) (ordK to n i).1 i 0).2 / Nat.gcd (ordK to n i).2 (cyc to (n + 1) (ordK to n i).1 i 0).2) else (ordK to n i).2)
theorem ordK_succ (to : Nat → Nat) (n i : Nat) : ordK to n (i + 1) = ((cyc to (n + 1) (ordK to n i).1 i 0).1, if 0 < (cyc to (n + 1) (ordK to n i).1 i 0).2 then (ordK to n i).2 * ((cyc to (n + 1) (ordK to n i).1 i 0).2 / Nat.gcd (ordK to n i).2 (cyc to (n + 1) (ordK to n i).1 i 0).2) else (ordK to n i).2) := rfl
def unmet (n met : Nat) : Nat := (List.range n).countP fun k => !met.testBit k
theorem unmet_le (n met : Nat) : unmet n met ≤ n := by
  have := List.countP_le_length (p := fun k => !met.testBit k) (l := List.range n)
  simpa [unmet] using this
theorem testBit_put (met k j : Nat) : (met ||| 1 <<< k).testBit j = (met.testBit j || decide (j = k)) := by
  rw [Nat.testBit_or, Nat.one_shiftLeft, Nat.testBit_two_pow]
  congr 1
  simp [eq_comm]
theorem unmet_put : ∀ (n met k : Nat), k < n → met.testBit k = false → unmet n (met ||| 1 <<< k) + 1 = unmet n met
  | 0, _, _, h, _ => by omega
  | n + 1, met, k, h, hk => by
    unfold unmet
    rw [List.range_succ, List.countP_append, List.countP_append]
    simp only [List.countP_cons, List.countP_nil, Nat.zero_add, testBit_put]
    by_cases hkn : k < n
    · have ih := unmet_put n met k hkn hk
      unfold unmet at ih
      have h1 : decide (n = k) = false := by simp; omega
      simp only [testBit_put] at ih
      rw [h1, Bool.or_false]
      omega
    · obtain rfl : k = n := by omega
      have h2 : (List.range k).countP (fun j => !(met.testBit j || decide (j = k))) = (List.range k).countP (fun j => !met.testBit j) := by
        apply List.countP_congr
        intro x hx
        have hx' : decide (x = k) = false := by simp; have := List.mem_range.1 hx; omega
        rw [hx', Bool.or_false]
      rw [h2, hk]
      simp

def metF (m : Nat) (k : Int) : Option Value := if m.testBit k.toNat && decide (0 ≤ k) then some (.bool true) else none
theorem metF_yes {m k : Nat} (h : m.testBit k = true) : (metF m (k : Int)).getD (.bool false) = .bool true := by simp [metF, h]
theorem metF_no {m k : Nat} (h : m.testBit k = false) : (metF m (k : Int)).getD (.bool false) = .bool false := by simp [metF, h]
theorem metF_put (m k : Nat) (k' : Int) : (if k' == (k : Int) then some (Value.bool true) else metF m k') = metF (m ||| 1 <<< k) k' := by
  unfold metF
  rw [testBit_put]
  by_cases h : k' = (k : Int)
  · subst h; simp
  · have h1 : (k' == (k : Int)) = false := by simp [h]
    rw [h1]
    by_cases h0 : 0 ≤ k'
    · have h2 : decide (k'.toNat = k) = false := by simp; omega
      simp [h2]
    · simp [h0]

def ordE (rows n : Int) : Int := if fitsE rows n ≠ 0 then fitsE rows n else if 4096 < n then 4 else 0
def ordR (r n : Nat) : Nat := (ordK (posn (n / r) r) n n).2
def ordV (rows n : Int) : Int := if ordE rows n ≠ 0 then 0 else (ordR rows.toNat n.toNat : Nat)

theorem encI_nat (k : Nat) : Value.int .i64 (k : Int) = encI (k : Int) := rfl

set_option maxHeartbeats 800000 in
theorem order_ok (r n : Nat) (w : World) (hf : fitsE r n = 0) (hn : n ≤ 4096) (hbd : ∀ i, i ≤ n → 1 ≤ (ordK (posn (n / r) r) n i).2 ∧ (ordK (posn (n / r) r) n i).2 ≤ 1000000) :
    Calls Try.prog 15 #[.int .i64 r, .int .i64 n] w fun e w' =>
      e = .returned (.tuple #[.int .i64 (ordR r n : Nat), .int .i64 0]) ∧ Below w.heap.size w w' := by
  obtain ⟨hr1, hr2, hn1, hn2, hm⟩ := fits_ok hf
  have hf' : (fitsE r n != 0) = false := by simp [hf]
  have hp := Lib.hid (div_parts (n := n) (r := r) (by omega) hm)
  have Hbd := Lib.hid hbd
  clear hf hm hbd
  have hmm := @run_makeMap Try.prog
  go_enter Try.func15, Try.ntmps15
  go_wp2_with fail
  refine (fits_any _ _ _).mono ?_
  rintro e w1 ⟨rfl, rfl⟩
  go_wp2_with fail
  refine (block_any r n _ (by omega) (by omega)).mono ?_
  rintro e w2 ⟨rfl, q1, q2, q3, q4⟩
  have Q1 := Lib.hid q1; clear q1
  have Q2 := Lib.hid q2; clear q2
  have Q3 := Lib.hid q3; clear q3
  have Q4 := Lib.hid q4; clear q4
  go_wp2_with fail
  have hlt2 : ∀ a : Addr, a.block < w.heap.size + 2 → (w2.alloc (.map #[] 0)).cell? a = w2.cell? a := fun a ha => World.cell?_alloc_lt _ _ _ (by have := Q3.out; omega)
  have HLT := Lib.hid hlt2; clear hlt2
  go_loopw [9, 26] (fun v i wr => ∃ j : Nat, j ≤ n ∧ v = .int .i64 ((ordK (posn (n / r) r) n j).2 : Nat) ∧ i = .int .i64 j ∧ MapIs wr w2.heap.size encI (metF (ordK (posn (n / r) r) n j).1) ∧
    wr.cell? ⟨w.heap.size + 1, 0, none⟩ = some (.int .i64 ((n / r : Nat) : Int)) ∧ wr.cell? ⟨w.heap.size, 0, none⟩ = some (.int .i64 r) ∧ Below w.heap.size w wr) (fun _ i _ => n - (intOf i).toNat)
  case atStart =>
    refine ⟨0, by omega, rfl, rfl, (mapIs_new w2 encI).congr fun k => by simp [metF, ordK], ?_, ?_, Q4.out.alloc (by have := Q3.out; omega) _⟩
    · rw [HLT.out _ (by dsimp only; omega)]; exact Q1.out
    · rw [HLT.out _ (by dsimp only; omega)]; exact Q2.out
  case round =>
    obtain ⟨j, hj, rfl, rfl, hmap, hc1, hc2, hb⟩ := hrel
    have HM := Lib.hid hmap; clear hmap
    have HC1 := Lib.hid hc1; clear hc1
    have HC2 := Lib.hid hc2; clear hc2
    have HB := Lib.hid hb; clear hb
    by_cases hlt : j < n
    · have hord := Hbd.out j hj
      have hord1 := Hbd.out (j + 1) hlt
      generalize hmo : ordK (posn (n / r) r) n j = mo at *
      have HMO := Lib.hid hmo; clear hmo
      obtain ⟨met0, ord0⟩ := mo
      dsimp only at *
      go_wp2_with fail
      go_loopw [11, 12] (fun s k wr2 => ∃ f met k' sz : Nat, cyc (posn (n / r) r) f met k' sz = cyc (posn (n / r) r) (n + 1) met0 j 0 ∧ unmet n met < f ∧ k' < n ∧ sz + unmet n met ≤ n ∧ s = .int .i64 sz ∧ k = .int .i64 k' ∧
        MapIs wr2 w2.heap.size encI (metF met) ∧ wr2.cell? ⟨w.heap.size + 1, 0, none⟩ = some (.int .i64 ((n / r : Nat) : Int)) ∧ wr2.cell? ⟨w.heap.size, 0, none⟩ = some (.int .i64 r) ∧ Below w.heap.size w wr2) (fun s _ _ => n + 1 - (intOf s).toNat)
      case atStart =>
        have := unmet_le n met0
        exact ⟨n + 1, met0, j, 0, rfl, by omega, hlt, by omega, rfl, rfl, HM.out, HC1.out, HC2.out, HB.out⟩
      case round =>
        obtain ⟨f, met, k, sz, hcy, huf, hkn, hsz, rfl, rfl, hmap, hc1, hc2, hb⟩ := hrel
        have HCY := Lib.hid hcy; clear hcy
        have HM2 := Lib.hid hmap; clear hmap
        have HC1' := Lib.hid hc1; clear hc1
        have HC2' := Lib.hid hc2; clear hc2
        have HB2 := Lib.hid hb; clear hb
        by_cases htb : met.testBit k = true
        · have hgot := metF_yes htb
          have HG := Lib.hid hgot; clear hgot
          have HTB := Lib.hid htb; clear htb
          have hR : cyc (posn (n / r) r) (n + 1) met0 j 0 = (met, sz) := by
            rw [← HCY.out]
            obtain ⟨f', rfl⟩ : ∃ f', f = f' + 1 := ⟨f - 1, by omega⟩
            rw [cyc, if_pos HTB.out]
          have HR := Lib.hid hR; clear hR
          by_cases hs0 : 0 < sz
          · have hO : ordK (posn (n / r) r) n (j + 1) = (met, ord0 * (sz / Nat.gcd ord0 sz)) := by
              rw [ordK_succ, HMO.out]; dsimp only; rw [HR.out]; dsimp only; rw [if_pos hs0]
            have HO2 := Lib.hid hO; clear hO
            have hg : ((Int.gcd (ord0 : Int) (sz : Int) : Nat) : Int) = ((Nat.gcd ord0 sz : Nat) : Int) := by rw [Int.gcd_natCast_natCast]
            have hg1 : 1 ≤ Nat.gcd ord0 sz := Nat.gcd_pos_of_pos_right _ hs0
            have HG2 := Lib.hid hg; clear hg
            have hq : sz / Nat.gcd ord0 sz ≤ 4096 := Nat.le_trans (Nat.div_le_self _ _) (by omega)
            have hpr : ord0 * (sz / Nat.gcd ord0 sz) ≤ 1000000 := by
              have := hord1.2; rw [HO2.out] at this; exact this
            have hpr' : (ord0 : Int) * ((sz : Int) / ((Nat.gcd ord0 sz : Nat) : Int)) ≤ 1000000 := by
              have h : ((ord0 * (sz / Nat.gcd ord0 sz) : Nat) : Int) ≤ ((1000000 : Nat) : Int) := Int.ofNat_le.2 hpr
              exact h
            have hpr0 : 0 ≤ (ord0 : Int) * ((sz : Int) / ((Nat.gcd ord0 sz : Nat) : Int)) := by
              have h : ((0 : Nat) : Int) ≤ ((ord0 * (sz / Nat.gcd ord0 sz) : Nat) : Int) := Int.ofNat_le.2 (Nat.zero_le _)
              exact h
            have hq0 : 0 ≤ (sz : Int) / ((Nat.gcd ord0 sz : Nat) : Int) := by
              have h : ((0 : Nat) : Int) ≤ ((sz / Nat.gcd ord0 sz : Nat) : Int) := Int.ofNat_le.2 (Nat.zero_le _)
              exact h
            have hq' : (sz : Int) / ((Nat.gcd ord0 sz : Nat) : Int) ≤ 4096 := by
              have h : ((sz / Nat.gcd ord0 sz : Nat) : Int) ≤ ((4096 : Nat) : Int) := Int.ofNat_le.2 hq
              exact h
            clear hpr hq
            go_wp2_with (at_lookup; refine wpList_lookM _ rfl _ _ _ rfl Try.underlying42 (keyLaw_int Try.underlying3) (z := .bool false) (by kernel_rfl) _ _ rfl HM2.out (k : Int) rfl ?_; rw [HG.out])
            refine (gcd_any ord0 sz _ (by omega) (by omega)).mono ?_
            rw [HG2.out]
            rintro e w5 ⟨rfl, nq, rfl⟩
            go_wp2_with fail
            go_roundw
            case rel =>
              refine ⟨j + 1, by omega, ?_, by go_num, ?_, HC1'.out, HC2'.out, below_drewN HB2.out _⟩
              · rw [HO2.out]; rfl
              · rw [HO2.out]; exact HM2.out
            case measure => simp [intOf]; omega
          · have hO : ordK (posn (n / r) r) n (j + 1) = (met, ord0) := by
              rw [ordK_succ, HMO.out]; dsimp only; rw [HR.out]; dsimp only; rw [if_neg hs0]
            have HO2 := Lib.hid hO; clear hO
            go_wp2_with (at_lookup; refine wpList_lookM _ rfl _ _ _ rfl Try.underlying42 (keyLaw_int Try.underlying3) (z := .bool false) (by kernel_rfl) _ _ rfl HM2.out (k : Int) rfl ?_; rw [HG.out])
            go_roundw
            case rel =>
              refine ⟨j + 1, by omega, ?_, by go_num, ?_, HC1'.out, HC2'.out, HB2.out⟩
              · rw [HO2.out]
              · rw [HO2.out]; exact HM2.out
            case measure => simp [intOf]; omega
        · have htb' : met.testBit k = false := by simpa using htb
          clear htb
          have hgot := metF_no htb'
          have HG := Lib.hid hgot; clear hgot
          have HTB := Lib.hid htb'; clear htb'
          have hun := unmet_put n met k hkn HTB.out
          have HUN := Lib.hid hun; clear hun
          go_wp2_with (first | (at_lookup; refine wpList_lookM _ rfl _ _ _ rfl Try.underlying42 (keyLaw_int Try.underlying3) (z := .bool false) (by kernel_rfl) _ _ rfl HM2.out (k : Int) rfl ?_; rw [HG.out]) | (at_mapUpdate; refine wpList_putM _ rfl _ _ _ _ rfl Try.underlying42 (keyLaw_int Try.underlying3) _ _ rfl HM2.out (k : Int) rfl ?_; intro w6 m6 g6 s6; have M6 := Lib.hid m6; clear m6; have G6 := Lib.hid g6; clear g6; have S6 := Lib.hid s6; clear s6))
          refine (blockTo_any (n / r) r k _ _ _ hp.out.1 (by omega) (by omega) (by exact G6.out.cell HC1'.out (by have := Q3.out; simp; omega)) (by exact G6.out.cell HC2'.out (by have := Q3.out; simp; omega))).mono ?_
          rintro e w7 ⟨rfl, nq, rfl⟩
          go_wp2_with fail
          go_roundw
          case rel =>
            have hU := HUN.out
            refine ⟨f - 1, met ||| 1 <<< k, posn (n / r) r k, sz + 1, ?_, by omega, posn_le _ _ _ _ hp.out.1 hp.out.2 hkn, by omega, by go_num, rfl, M6.out.congr fun k' => metF_put met k k', ?_, ?_, ?_⟩
            · rw [← HCY.out]
              obtain ⟨f', rfl⟩ : ∃ f', f = f' + 1 := ⟨f - 1, by omega⟩
              rw [Nat.add_sub_cancel]
              conv => rhs; rw [cyc, if_neg (by rw [HTB.out]; decide)]
            · exact G6.out.cell HC1'.out (by have := Q3.out; simp; omega)
            · exact G6.out.cell HC2'.out (by have := Q3.out; simp; omega)
            · exact below_drewN (HB2.out.grown G6.out (by have := HB2.out.size; omega) (by intro k hk; have := Q3.out; simp at hk; omega)) _
          case measure => simp [intOf]; have := HUN.out; omega
    · obtain rfl : j = n := by omega
      go_wp2_with fail
      go_ret2
      exact ⟨rfl, HB.out⟩

set_option maxHeartbeats 400000 in
theorem order_not (rows n : Int) (w : World) (hf : ordE rows n ≠ 0) :
    Calls Try.prog 15 #[.int .i64 rows, .int .i64 n] w fun e w' =>
      e = .returned (.tuple #[.int .i64 0, .int .i64 (ordE rows n)]) ∧ Below w.heap.size w w' := by
  by_cases hc : fitsE rows n = 0
  · have hE : ordE rows n = if 4096 < n then 4 else 0 := by rw [ordE, if_neg (by simp [hc])]
    have h4 : 4096 < n := by
      rcases Int.lt_or_le 4096 n with h | h
      · exact h
      · exfalso; apply hf; rw [hE, if_neg (by omega)]
    have HE := Lib.hid (show ordE rows n = 4 by rw [hE, if_pos h4])
    have hc' : (fitsE rows n != 0) = false := by simp [hc]
    clear hc hE hf
    go_enter Try.func15, Try.ntmps15
    go_wp2_with (go_at_call 32; refine (fits_any _ _ _).mono ?_; rintro e w' ⟨rfl, rfl⟩)
    go_ret2
    exact ⟨by rw [HE.out]; rfl, Below.refl _ _⟩
  · have HE := Lib.hid (show ordE rows n = fitsE rows n by rw [ordE, if_pos hc])
    have hc' : (fitsE rows n != 0) = true := by simp [hc]
    clear hc hf
    go_enter Try.func15, Try.ntmps15
    go_wp2_with (go_at_call 32; refine (fits_any _ _ _).mono ?_; rintro e w' ⟨rfl, rfl⟩)
    go_ret2
    exact ⟨by rw [HE.out]; rfl, Below.refl _ _⟩
end Go.Proofs.Ytgjlhjklcgladaa
