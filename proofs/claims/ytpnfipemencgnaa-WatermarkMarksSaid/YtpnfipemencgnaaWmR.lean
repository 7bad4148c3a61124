/-
  The contract of watermark.Sparse: a word of zeros with ones at some offsets.
-/
import Derived.Test.YtpnfipemencgnaaPl
import Derived.Test.YtpnfipemencgnaaByt
import Derived.Test.YtpnfipemencgnaaWmK
namespace Go.Proofs.Ytpnfipemencgnaa
open Go.RowKit

/-- What Sparse does from the offsets l on, p being the offset before. -/
def spGo (n : Nat) : List Int → Option Int → List UInt8 → Int × List UInt8
  | [], _, b => (0, b)
  | x :: l, p, b => if x < 0 ∨ (n : Int) ≤ x then (2, []) else if (∃ y, p = some y ∧ x ≤ y) then (10, []) else spGo n l (some x) (b.set x.toNat 49)
def spR (n : Int) (l : List Int) : Int × List UInt8 := if n < 0 ∨ 65536 < n then (2, []) else spGo n.toNat l none (List.replicate n.toNat 48)
def prevOf (l : List Int) (k : Nat) : Option Int := if k = 0 then none else some (l.getD (k - 1) 0)
theorem prevOf_succ (l : List Int) (k : Nat) (h : k < l.length) : prevOf l (k + 1) = some l[k] := by
  rw [prevOf, if_neg (by omega), Nat.add_sub_cancel, List.getD_eq_getElem?_getD, List.getElem?_eq_getElem h]; rfl

set_option maxHeartbeats 1000000 in
set_option maxRecDepth 100000 in
theorem sparse_ok (n : Nat) (v : Value) (l : List Int) (w : World) (hn : n ≤ 65536) (hv : Holds w v l) (hl : l.length ≤ 9223372036854775807) (hbd : ∀ x ∈ l, -9223372036854775808 ≤ x ∧ x ≤ 9223372036854775807) :
    Calls Try.prog 31 #[.int .i64 n, v] w fun e w' => e = .returned (.tuple #[.string ⟨(spR n l).2.toArray⟩, .int .i64 (spR n l).1]) ∧ Below w.heap.size w w' := by
  obtain ⟨a, c, rfl, hcell⟩ := hv.parts
  have HC := Lib.hid hcell; clear hcell hv
  have HBD := Lib.hid hbd; clear hbd
  have g1 : decide ((n : Int) < 0) = false := by simp
  have g2 : decide ((65536 : Int) < (n : Int)) = false := by simp; omega
  have HR := Lib.hid (show spR n l = spGo n l none (List.replicate n 48) by rw [spR, if_neg (by omega)]; rfl)
  have c5 := fun w => Try.strings_Repeat ⟨#[48]⟩ n w (by omega) (by show 1 * n ≤ _; omega)
  obtain ⟨z, hz⟩ : ∃ z : ByteArray, z = ⟨(Lib.repeatL [48] n).toArray⟩ := ⟨_, rfl⟩
  rw [show (⟨#[48]⟩ : ByteArray).data.toList = [48] from rfl, ← hz] at c5
  have hzd : z.data.toList = List.replicate n 48 := by rw [hz]; exact repeatL_one 48 n
  have hzs : z.size = n := by rw [show z.size = z.data.toList.length from rfl, hzd, List.length_replicate]
  have C5 := Lib.hid c5; clear c5
  have HZD := Lib.hid hzd; clear hzd hz
  go_enter Try.func31, Try.ntmps31
  go_wp2_with fail
  refine (C5.out _).mono ?_
  rintro e w1 ⟨rfl, h1⟩
  have HB1 := Lib.hid h1
  have hs1 : w.heap.size ≤ w1.heap.size := h1.size
  clear h1
  go_wp2_with (refine wpList_bytes _ rfl _ 9 36 5 rfl Try.underlying9 Try.underlying36 Try.underlying5 z rfl ?_)
  intro w2 c2 hrow hb hz2 hc2
  have HR0 := Lib.hid hrow; clear hrow
  have HB2 := Lib.hid (HB1.out.trans (hb.mono hs1)); clear hb
  clear hzs hc2
  go_wp2_with fail
  go_loopw [20] (fun i wr => ∃ (k : Nat) (b : List UInt8), k ≤ l.length ∧ i = .int .i64 k ∧ b.length = n ∧ spGo n (l.drop k) (prevOf l k) b = spGo n l none (List.replicate n 48) ∧ RowP wr w1.heap.size 5 (bts b) ∧ Below w.heap.size w wr) (fun i _ => l.length - (intOf i).toNat)
  case atStart => exact ⟨0, List.replicate n 48, by omega, rfl, List.length_replicate, rfl, by rw [← HZD.out]; exact HR0.out, HB2.out⟩
  case round =>
    obtain ⟨k, b, hk, rfl, hbl, hgo, hrow, hb⟩ := hrel
    have HB := Lib.hid hb; clear hb
    have HROW := Lib.hid hrow; clear hrow
    have HGO := Lib.hid hgo; clear hgo
    have HBL := Lib.hid hbl; clear hbl
    by_cases hlt : k < l.length
    · obtain ⟨g, o, rfl, hc⟩ := HC.out k hlt
      have hcz : wr.cell? ⟨g, o + k, none⟩ = some (.int .i64 l[k]) := cell_below hc HB.out (cell_lt hc)
      have HCZ := Lib.hid (fun j (hj : j < l.length) => (show wr.cell? ⟨g, o + j, none⟩ = some (.int .i64 l[j]) by
        obtain ⟨g', o', he, h⟩ := HC.out j hj
        cases he
        exact cell_below h HB.out (cell_lt h)))
      have HD := Lib.hid (drop_at l k hlt)
      obtain ⟨bd1, bd2⟩ := HBD.out l[k] (List.getElem_mem hlt)
      clear hc
      by_cases h0 : l[k] < 0
      · have HE := Lib.hid (show spR n l = (2, []) by rw [HR.out, ← HGO.out, HD.out, spGo, if_pos (.inl h0)])
        have t1 : decide (l[k] < 0) = true := by simpa using h0
        clear h0
        go_wp2_with fail
        go_ret2
        exact ⟨by rw [HE.out]; rfl, HB.out⟩
      · have t1 : decide (l[k] < 0) = false := by simpa using h0
        by_cases h1 : (n : Int) ≤ l[k]
        · have HE := Lib.hid (show spR n l = (2, []) by rw [HR.out, ← HGO.out, HD.out, spGo, if_pos (.inr h1)])
          have t2 : decide ((n : Int) ≤ l[k]) = true := by simpa using h1
          clear h1 h0
          go_wp2_with fail
          go_ret2
          exact ⟨by rw [HE.out]; rfl, HB.out⟩
        · have t2 : decide ((n : Int) ≤ l[k]) = false := by simpa using h1
          obtain ⟨x, hxe⟩ := Int.eq_ofNat_of_zero_le (show 0 ≤ l[k] by omega)
          have hxn : x < n := by omega
          have HG2 := Lib.hid (show spGo n (l.drop k) (prevOf l k) b = if (∃ y, prevOf l k = some y ∧ l[k] ≤ y) then (10, []) else spGo n (l.drop (k + 1)) (some l[k]) (b.set x 49) by
            rw [HD.out, spGo, if_neg (by omega)]; simp only [hxe, Int.toNat_natCast])
          have hlen : (bts b).length = n := by rw [bts_len]; exact HBL.out
          obtain ⟨old, hold⟩ : ∃ old, wr.cell? ⟨w1.heap.size, x, none⟩ = some old := by
            rw [HROW.out.cell x (by omega), List.getElem?_eq_getElem (by omega)]; exact ⟨_, rfl⟩
          have hfz := HROW.out.frozen x (by omega)
          have HSET := Lib.hid (HROW.out.set x (.int .u8 ((49 : UInt8).toNat : Int)) (by omega))
          have hnext : (¬ ∃ y, prevOf l k = some y ∧ l[k] ≤ y) → spGo n (l.drop (k + 1)) (prevOf l (k + 1)) (b.set x 49) = spGo n l none (List.replicate n 48) := fun hno => by
            rw [prevOf_succ l k hlt, ← HGO.out, HG2.out, if_neg hno]
          have HNEXT := Lib.hid hnext; clear hnext hlen
          have HXE := Lib.hid hxe
          rw [hxe] at hcz t1 t2
          clear h0 h1 bd1 bd2 hxe
          by_cases hk0 : k = 0
          · subst hk0
            rw [Nat.add_zero] at hcz
            have HNO := Lib.hid (HNEXT.out (by rintro ⟨y, hy, _⟩; simp [prevOf] at hy))
            go_wp2_with fail
            go_roundw
            case rel => exact ⟨1, b.set x 49, by omega, by go_num, by rw [List.length_set]; exact HBL.out, HNO.out, by rw [← bts_set]; exact HSET.out, HB.out.setCell (p := ⟨w1.heap.size, x, none⟩) hs1 _⟩
            case measure => simp [intOf]; omega
          · have hk1 : k - 1 < l.length := by omega
            have hcp := HCZ.out (k - 1) hk1
            have t3 : decide ((0 : Int) < (k : Int)) = true := by simp; omega
            have HP := Lib.hid (show prevOf l k = some l[k - 1] by
              obtain ⟨j, rfl⟩ : ∃ j, k = j + 1 := ⟨k - 1, by omega⟩
              exact prevOf_succ l j (by omega))
            by_cases hord : l[k] ≤ l[k - 1]
            · have HE := Lib.hid (show spR n l = (10, []) by rw [HR.out, ← HGO.out, HG2.out, if_pos ⟨_, HP.out, hord⟩])
              rw [HXE.out] at hord
              have t4 : decide ((x : Int) ≤ l[k - 1]) = true := by simpa using hord
              clear hord
              go_wp2_with fail
              go_ret2
              exact ⟨by rw [HE.out]; rfl, HB.out⟩
            · have HNO := Lib.hid (HNEXT.out (by rintro ⟨y, hy, hy2⟩; rw [HP.out] at hy; cases hy; exact hord hy2))
              rw [HXE.out] at hord
              have t4 : decide ((x : Int) ≤ l[k - 1]) = false := by simpa using hord
              clear hord
              go_wp2_with fail
              go_roundw
              case rel => exact ⟨k + 1, b.set x 49, by omega, by go_num, by rw [List.length_set]; exact HBL.out, HNO.out, by rw [← bts_set]; exact HSET.out, HB.out.setCell (p := ⟨w1.heap.size, x, none⟩) hs1 _⟩
              case measure => simp [intOf]; omega
    · obtain rfl : k = l.length := by omega
      have hd : decide ((l.length : Int) < (l.length : Int)) = false := by simp
      have HE := Lib.hid (show spR n l = (0, b) by rw [HR.out, ← HGO.out, List.drop_length, spGo])
      have hcv := run_string_rowP (P := Try.prog) (w := wr) (src := 36) (dst := 9) (c := c2) (n := n) Try.underlying36 Try.underlying5 Try.underlying9 HROW.out HBL.out
      go_wp2_with fail
      go_ret2
      exact ⟨by rw [HE.out]; rfl, HB.out⟩

set_option maxHeartbeats 400000 in
theorem sparse_any (n : Int) (v : Value) (l : List Int) (w : World) (hv : Holds w v l) (hl : l.length ≤ 9223372036854775807) (hbd : ∀ x ∈ l, -9223372036854775808 ≤ x ∧ x ≤ 9223372036854775807) :
    Calls Try.prog 31 #[.int .i64 n, v] w fun e w' => e = .returned (.tuple #[.string ⟨(spR n l).2.toArray⟩, .int .i64 (spR n l).1]) ∧ Below w.heap.size w w' := by
  by_cases h1 : n < 0
  · have g1 : decide (n < 0) = true := by simpa using h1
    have HE := Lib.hid (show spR n l = (2, []) by rw [spR, if_pos (.inl h1)])
    clear h1 hv hbd
    go_enter Try.func31, Try.ntmps31
    go_wp2_with fail
    go_ret2
    exact ⟨by rw [HE.out]; rfl, Below.refl _ _⟩
  · by_cases h2 : 65536 < n
    · have g1 : decide (n < 0) = false := by simpa using h1
      have g2 : decide (65536 < n) = true := by simpa using h2
      have HE := Lib.hid (show spR n l = (2, []) by rw [spR, if_pos (.inr h2)])
      clear h1 h2 hv hbd
      go_enter Try.func31, Try.ntmps31
      go_wp2_with fail
      go_ret2
      exact ⟨by rw [HE.out]; rfl, Below.refl _ _⟩
    · obtain ⟨k, rfl⟩ := Int.eq_ofNat_of_zero_le (show 0 ≤ n by omega)
      exact sparse_ok k v l w (by omega) hv hl hbd
end Go.Proofs.Ytpnfipemencgnaa
