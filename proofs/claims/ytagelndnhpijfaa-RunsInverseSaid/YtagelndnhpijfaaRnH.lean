/-
  Same.
-/
import Derived.Test.YtagelndnhpijfaaRnF
namespace Go.Proofs.Ytagelndnhpijfaa
open Go.RowKit

theorem pair_ne {l k : List (Int × Int)} {j : Nat} (h1 : j < l.length) (h2 : j < k.length) (h : l[j] ≠ k[j]) : l ≠ k := by
  rintro rfl; exact h rfl

set_option maxHeartbeats 1000000 in
set_option maxRecDepth 100000 in
theorem Same_any (v v' : Value) (l k : List (Int × Int)) (w : World) (hv : HoldsP w v l) (hv' : HoldsP w v' k) (hl : l.length ≤ 1000000) (_hk : k.length ≤ 1000000) :
    Calls Try.prog 34 #[v, v'] w fun e w' => e = .returned (.bool (decide (l = k))) ∧ ∃ n, w' = w.drewN n := by
  obtain ⟨a, c, rfl, hc⟩ := hv
  obtain ⟨a', c', rfl, hc'⟩ := hv'
  have HC := Lib.hid hc; clear hc
  have HC' := Lib.hid hc'; clear hc'
  by_cases hlen : l.length = k.length
  · have HL := Lib.hid hlen
    rw [← hlen]
    clear hlen
    go_enter Try.func34, Try.ntmps34
    go_wp2_with fail
    go_loopw [5] (fun i wr => ∃ j n : Nat, j ≤ l.length ∧ i = .int .i64 j ∧ wr = w.drewN n ∧ l.take j = k.take j) (fun i _ => l.length - (intOf i).toNat)
    case atStart => exact ⟨0, 0, by omega, rfl, rfl, rfl⟩
    case round =>
      obtain ⟨j, n, hj, rfl, hw, hrel⟩ := hrel
      have HWR := Lib.hid hw; clear hw
      have HR := Lib.hid hrel; clear hrel
      by_cases hlt : j < l.length
      · have hlt' : j < k.length := by have := HL.out; omega
        obtain ⟨g, o, rfl, c1, c2⟩ := HC.out j hlt
        obtain ⟨g', o', rfl, c1', c2'⟩ := HC'.out j hlt'
        replace c1 : wr.cell? ⟨g, o + j * 2, none⟩ = some (.int .i64 l[j].1) := by rw [HWR.out]; exact c1
        replace c2 : wr.cell? ⟨g, o + j * 2 + 1, none⟩ = some (.int .i64 l[j].2) := by rw [HWR.out]; exact c2
        replace c1' : wr.cell? ⟨g', o' + j * 2, none⟩ = some (.int .i64 k[j].1) := by rw [HWR.out]; exact c1'
        replace c2' : wr.cell? ⟨g', o' + j * 2 + 1, none⟩ = some (.int .i64 k[j].2) := by rw [HWR.out]; exact c2'
        have HT := Lib.hid (show (l[j] = k[j] → l.take (j + 1) = k.take (j + 1)) ∧ (l[j] ≠ k[j] → decide (l = k) = false) from
          ⟨fun h => by rw [take_snoc' l j hlt, take_snoc' k j hlt', HR.out, h], fun h => decide_eq_false (pair_ne hlt hlt' h)⟩)
        generalize l[j] = p at *
        generalize k[j] = q at *
        obtain ⟨p1, p2⟩ := p
        obtain ⟨q1, q2⟩ := q
        clear hlt'
        by_cases h1 : p1 = q1
        · subst h1
          by_cases h2 : p2 = q2
          · subst h2
            have HT2 := Lib.hid (HT.out.1 rfl)
            go_wp2_with fail
            go_quiet (fail)
            go_wp2_with fail
            go_roundw
            case rel => exact ⟨j + 1, n + nq, by omega, by go_num, by rw [HWR.out, World.drewN_drewN], HT2.out⟩
            case measure => simp [intOf]; omega
          · have HT2 := Lib.hid (HT.out.2 (by simpa using h2))
            have hq : (p2 == q2) = false := by simpa using h2
            clear h2
            go_wp2_with fail
            go_quiet (fail)
            go_wp2_with fail
            go_ret
            exact ⟨by rw [HT2.out]; rfl, _, by rw [HWR.out, World.drewN_drewN]⟩
        · have HT2 := Lib.hid (HT.out.2 (by simp [h1]))
          have hq : (p1 == q1) = false := by simpa using h1
          clear h1
          go_wp2_with fail
          go_quiet (fail)
          go_wp2_with fail
          go_ret
          exact ⟨by rw [HT2.out]; rfl, _, by rw [HWR.out, World.drewN_drewN]⟩
      · obtain rfl : j = l.length := by omega
        have hd : decide ((l.length : Int) < (l.length : Int)) = false := by simp
        have hlk : l = k := by have := HR.out; rwa [List.take_length, HL.out, List.take_length] at this
        have HLK := Lib.hid hlk; clear hlk
        go_wp2_with fail
        go_ret
        exact ⟨by rw [decide_eq_true HLK.out]; rfl, n, HWR.out⟩
  · have hb : ((l.length : Int) != (k.length : Int)) = true := by simp; omega
    have hlk := Lib.hid (show decide (l = k) = false from decide_eq_false fun h => hlen (by rw [h]))
    clear hlen
    go_enter Try.func34, Try.ntmps34
    go_wp2_with fail
    go_ret
    exact ⟨by rw [hlk.out]; rfl, 0, rfl⟩
end Go.Proofs.Ytagelndnhpijfaa
