/-
  The helper cost of the statements: the cost of an alignment.
-/
import Derived.Test.YtpnfipemencgnaaWmO
import Derived.Test.YtpnfipemencgnaaWmF
import Derived.Test.YtpnfipemencgnaaEql
namespace Go.Proofs.Ytpnfipemencgnaa
open Go.RowKit

/-- The rest of the cost, as the helper adds it up. -/
def cstGo (m r : List UInt8) : List Int → Nat → Int → Int → Int → Option Int
  | [], _, sum, _, used => some (sum + 2 * (r.length - used))
  | x :: l, i, sum, last, used => if x = -1 then cstGo m r l (i + 1) (sum + 2) last used else if x ≤ last ∨ (r.length : Int) ≤ x then none
    else cstGo m r l (i + 1) (sum + (dif (m.getD i 0) (r.getD x.toNat 0) : Nat)) x (used + 1)
def costG (m r : List UInt8) (l : List Int) : Option Int := if l.length = m.length then cstGo m r l 0 0 (-1) 0 else none
theorem cstGo_eq (m r : List UInt8) : ∀ (l : List Int) (i k : Nat) (sum used : Int), i + l.length = m.length → k ≤ r.length →
    cstGo m r l i sum ((k : Int) - 1) used = (cstI m r i k l).map fun c : Nat => sum + (c : Int) + 2 * (k - used)
  | [], i, k, sum, used, hi, hk => by
    simp only [List.length_nil, Nat.add_zero] at hi
    rw [cstGo, cstI, if_pos hi]
    simp only [Option.map_some, Option.some.injEq]; omega
  | x :: l, i, k, sum, used, hi, hk => by
    simp only [List.length_cons] at hi
    rw [cstGo, cstI, if_neg (show ¬ m.length ≤ i by omega)]
    by_cases hx : x = -1
    · rw [if_pos hx, if_pos hx, cstGo_eq m r l (i + 1) k (sum + 2) used (by omega) hk]
      cases cstI m r (i + 1) k l with
      | none => rfl
      | some c => simp only [Option.map_some, Option.some.injEq]; omega
    · rw [if_neg hx, if_neg hx]
      by_cases hb : x < k ∨ (r.length : Int) ≤ x
      · rw [if_pos (by omega), if_pos hb]; rfl
      · rw [if_neg (by omega), if_neg hb]
        obtain ⟨n, rfl⟩ := Int.eq_ofNat_of_zero_le (show 0 ≤ x by omega)
        have := cstGo_eq m r l (i + 1) (n + 1) (sum + (dif (m.getD i 0) (r.getD n 0) : Nat)) (used + 1) (by omega) (by omega)
        rw [show (((n + 1 : Nat) : Int) - 1) = (n : Int) by omega] at this
        rw [Int.toNat_natCast, this]
        cases cstI m r (i + 1) (n + 1) l with
        | none => rfl
        | some c => simp only [Option.map_some, Option.some.injEq]; omega
theorem costG_eq (m r : List UInt8) (l : List Int) (h : l.length = m.length) : costG m r l = (cstI m r 0 0 l).map fun c : Nat => (c : Int) := by
  rw [costG, if_pos h]
  have := cstGo_eq m r l 0 0 0 0 (by omega) (by omega)
  rw [show (((0 : Nat) : Int) - 1) = -1 from rfl] at this
  rw [this]
  congr 1; funext c; omega
theorem cstI_len (m r : List UInt8) : ∀ (l : List Int) (i k c : Nat), cstI m r i k l = some c → i + l.length = m.length
  | [], i, k, c, h => by
    rw [cstI] at h; split at h
    · simp; assumption
    · cases h
  | x :: l, i, k, c, h => by
    rw [cstI] at h
    split at h
    · cases h
    · split at h
      · rw [Option.map_eq_some_iff] at h
        obtain ⟨d, h1, _⟩ := h
        have := cstI_len m r l _ _ _ h1
        simp only [List.length_cons]; omega
      · split at h
        · cases h
        · rw [Option.map_eq_some_iff] at h
          obtain ⟨d, h1, _⟩ := h
          have := cstI_len m r l _ _ _ h1
          simp only [List.length_cons]; omega

theorem cstI_mem (m r : List UInt8) : ∀ (l : List Int) (i k c : Nat), cstI m r i k l = some c → ∀ x ∈ l, -1 ≤ x ∧ x < r.length
  | [], i, k, c, h => by simp
  | x :: l, i, k, c, h => by
    rw [cstI] at h
    split at h
    · cases h
    · split at h
      · rename_i hx
        rw [Option.map_eq_some_iff] at h
        obtain ⟨d, h1, _⟩ := h
        intro y hy
        rcases List.mem_cons.1 hy with rfl | hy
        · omega
        · exact cstI_mem m r l _ _ _ h1 y hy
      · split at h
        · cases h
        · rw [Option.map_eq_some_iff] at h
          obtain ⟨d, h1, _⟩ := h
          intro y hy
          rcases List.mem_cons.1 hy with rfl | hy
          · omega
          · exact cstI_mem m r l _ _ _ h1 y hy
theorem wcI_00 (m r : List UInt8) : wcI m r 0 0 = wc m r := wcI_eq m r 0 0
theorem alL_cost (m r : List UInt8) : cstI m r 0 0 (alL m r) = some (wc m r) := by
  rw [alL, alI_cost m r m.length 0 0 (by omega) (by omega), wcI_00]
theorem costG_al (m r : List UInt8) : costG m r (alL m r) = some (wc m r : Nat) := by
  rw [costG_eq m r _ (alL_len m r), alL_cost]; rfl
theorem alL_mem (m r : List UInt8) : ∀ x ∈ alL m r, -1 ≤ x ∧ x < r.length := cstI_mem m r _ 0 0 _ (alL_cost m r)
theorem costG_some {m r : List UInt8} {l : List Int} {d : Int} (h : costG m r l = some d) : ∃ c : Nat, d = c ∧ cstI m r 0 0 l = some c ∧ l.length = m.length := by
  have hl : l.length = m.length := by
    unfold costG at h; split at h
    · assumption
    · cases h
  rw [costG_eq m r l hl, Option.map_eq_some_iff] at h
  obtain ⟨c, h1, rfl⟩ := h
  exact ⟨c, rfl, h1, hl⟩
/-- No alignment has a lesser cost, nor an earlier one the same. -/
theorem costG_least {m r : List UInt8} {l : List Int} {d : Int} (h : costG m r l = some d) : (wc m r : Int) ≤ d ∧ (d = wc m r → 0 ≤ lexI r.length l (alL m r)) ∧ ∀ x ∈ l, -1 ≤ x ∧ x < r.length := by
  obtain ⟨c, rfl, h1, hl⟩ := costG_some h
  refine ⟨?_, fun hd => ?_, cstI_mem m r l 0 0 c h1⟩
  · have := cst_least m r l 0 0 c (by omega) (by omega) h1
    rw [wcI_00] at this; omega
  · refine cst_lex m r m.length l 0 0 (by omega) (by omega) ?_
    rw [h1, wcI_00]; congr 1; omega
theorem costG_le {m r : List UInt8} {l : List Int} {d : Int} (h : costG m r l = some d) : 0 ≤ d := by
  obtain ⟨c, rfl, _, _⟩ := costG_some h; omega

/-- A slice of ints, its address open. -/
theorem Holds.parts {w : World} {v : Value} {l : List Int} (h : Holds w v l) : ∃ a c, v = .slice a l.length c ∧ ∀ j (hj : j < l.length), ∃ g o, a = some ⟨g, o, none⟩ ∧ w.cell? ⟨g, o + j, none⟩ = some (.int .i64 l[j]) := by
  rcases h with ⟨a, c, rfl, rfl⟩ | ⟨g, o, c, rfl, hc⟩
  · exact ⟨a, c, rfl, fun j hj => by simp at hj⟩
  · refine ⟨_, c, rfl, fun j hj => ⟨g, o, rfl, ?_⟩⟩
    rw [hc j hj, List.getD_eq_getElem?_getD, List.getElem?_eq_getElem hj]; rfl
theorem drop_at (l : List Int) (j : Nat) (h : j < l.length) : l.drop j = l[j] :: l.drop (j + 1) := List.drop_eq_getElem_cons h

def CostRel (m r : List UInt8) (l : List Int) (j : Nat) (sum last used : Int) : Prop :=
  cstGo m r (l.drop j) j sum last used = cstGo m r l 0 0 (-1) 0 ∧ 0 ≤ sum ∧ sum ≤ 2 * j ∧ -1 ≤ last ∧ last < r.length ∧ 0 ≤ used ∧ used ≤ j

set_option maxHeartbeats 1000000 in
set_option maxRecDepth 100000 in
theorem costL_any (m r : ByteArray) (v : Value) (l : List Int) (w : World) (hv : Holds w v l) (hm : m.size ≤ 4096) (hr : r.size ≤ 4096) (hl : l.length ≤ 4096) :
    Calls Try.prog 16 #[.string m, .string r, v] w fun e w' => e = .returned (.tuple #[.int .i64 ((costG m.data.toList r.data.toList l).getD 0), .bool (costG m.data.toList r.data.toList l).isSome]) ∧ ∃ q, w' = w.drewN q := by
  obtain ⟨a, c, rfl, hcell⟩ := hv.parts
  have HC := Lib.hid hcell; clear hcell hv
  by_cases hlen : l.length = m.size
  · have hne : ((l.length : Int) != (m.size : Int)) = false := by simp [hlen]
    have HG := Lib.hid (show costG m.data.toList r.data.toList l = cstGo m.data.toList r.data.toList l 0 0 (-1) 0 by rw [costG, if_pos (by simpa using hlen)])
    have HLN := Lib.hid hlen; clear hlen
    go_enter Try.func16, Try.ntmps16
    go_wp2_with fail
    go_loopw [8, 9, 10, 20] (fun s la us i wr => ∃ (j n : Nat) (sum last used : Int), j ≤ l.length ∧ i = .int .i64 j ∧ s = .int .i64 sum ∧ la = .int .i64 last ∧ us = .int .i64 used ∧ CostRel m.data.toList r.data.toList l j sum last used ∧ wr = w.drewN n) (fun _ _ _ i _ => l.length - (intOf i).toNat)
    case atStart => exact ⟨0, 0, 0, -1, 0, by omega, rfl, rfl, rfl, rfl, ⟨rfl, by omega, by omega, by omega, by omega, by omega, by omega⟩, rfl⟩
    case round =>
      obtain ⟨j, n, sum, last, used, hj, rfl, rfl, rfl, rfl, ⟨hgo, b1, b2, b3, b4, b5, b6⟩, rfl⟩ := hrel
      have b4' : last < r.size := b4
      clear b4
      have HGO := Lib.hid hgo; clear hgo
      by_cases hlt : j < l.length
      · obtain ⟨g, o, rfl, hc⟩ := HC.out j hlt
        have hjm : j < m.size := by have := HLN.out; omega
        have hc' : (w.drewN n).cell? ⟨g, o + j, none⟩ = some (.int .i64 l[j]) := hc
        have HD := Lib.hid (drop_at l j hlt)
        clear hc
        by_cases hx : l[j] = -1
        · have HE := Lib.hid (show cstGo m.data.toList r.data.toList (l.drop j) j sum last used = cstGo m.data.toList r.data.toList (l.drop (j + 1)) (j + 1) (sum + 2) last used by rw [HD.out, cstGo, if_pos hx])
          rw [hx] at hc'
          clear hx
          go_wp2_with fail
          go_roundw
          case rel => exact ⟨j + 1, n, sum + 2, last, used, by omega, by go_num, rfl, rfl, rfl, ⟨by rw [← HE.out]; exact HGO.out, by omega, by omega, by omega, b4', by omega, by omega⟩, rfl⟩
          case measure => simp [intOf]; omega
        · have hx1 : (l[j] == -1) = false := by simpa using hx
          have HX := Lib.hid hx
          clear hx
          by_cases hb1 : l[j] ≤ last
          · have HE := Lib.hid (show costG m.data.toList r.data.toList l = none by rw [HG.out, ← HGO.out, HD.out, cstGo, if_neg HX.out, if_pos (.inl hb1)])
            have g1 : decide (l[j] ≤ last) = true := by simpa using hb1
            clear hb1
            go_wp2_with fail
            go_ret2
            exact ⟨by rw [HE.out]; rfl, _, rfl⟩
          · have g1 : decide (l[j] ≤ last) = false := by simpa using hb1
            by_cases hb2 : (r.size : Int) ≤ l[j]
            · have HE := Lib.hid (show costG m.data.toList r.data.toList l = none by rw [HG.out, ← HGO.out, HD.out, cstGo, if_neg HX.out, if_pos (.inr hb2)])
              have g2 : decide ((r.size : Int) ≤ l[j]) = true := by simpa using hb2
              clear hb1 hb2
              go_wp2_with fail
              go_ret2
              exact ⟨by rw [HE.out]; rfl, _, rfl⟩
            · have g2 : decide ((r.size : Int) ≤ l[j]) = false := by simpa using hb2
              obtain ⟨x, hxe⟩ := Int.eq_ofNat_of_zero_le (show 0 ≤ l[j] by omega)
              have HE := Lib.hid (show cstGo m.data.toList r.data.toList (l.drop j) j sum last used = cstGo m.data.toList r.data.toList (l.drop (j + 1)) (j + 1) (sum + (dif (m.data.toList.getD j 0) (r.data.toList.getD x 0) : Nat)) l[j] (used + 1) by
                have hn : ¬ (l[j] ≤ last ∨ (r.data.toList.length : Int) ≤ l[j]) := by
                  have : (r.data.toList.length : Int) = r.size := rfl
                  omega
                rw [HD.out, cstGo, if_neg HX.out, if_neg hn, hxe, Int.toNat_natCast])
              rw [hxe] at hc' g1 g2 hb1 hb2 hx1 HE
              have hxr : x < r.size := by omega
              have e1 : m.data.toList.getD j 0 = m[j] := getD_of _ _ (by simpa using hjm)
              have e2 : r.data.toList.getD x 0 = r[x] := getD_of _ _ (by simpa using hxr)
              have hd1 := dif_le m[j] r[x]
              rw [e1, e2] at HE
              clear e1 e2 hb2
              by_cases hmr : m[j] = r[x]
              · have hb : (((m[j].toNat : Nat) : Int) != ((r[x].toNat : Nat) : Int)) = false := by rw [hmr]; simp
                have hd : dif m[j] r[x] = 0 := by rw [dif, if_pos hmr]
                rw [hd] at HE
                clear hmr hd hd1
                go_wp2_with fail
                go_quiet (fail)
                go_wp2_with fail
                go_roundw
                case rel => exact ⟨j + 1, _, sum, x, used + 1, by omega, by go_num, rfl, rfl, rfl, ⟨by rw [← HGO.out, HE.out]; simp, by omega, by omega, by omega, by have : r.data.toList.length = r.size := rfl; omega, by omega, by omega⟩, rfl⟩
                case measure => simp [intOf]; omega
              · have hb : (((m[j].toNat : Nat) : Int) != ((r[x].toNat : Nat) : Int)) = true := by
                  rw [bne_iff_ne]; intro he; apply hmr; rw [← UInt8.toNat_inj]; omega
                have hd : dif m[j] r[x] = 1 := by rw [dif, if_neg hmr]
                rw [hd] at HE
                clear hmr hd hd1
                go_wp2_with fail
                go_quiet (fail)
                go_wp2_with fail
                go_roundw
                case rel => exact ⟨j + 1, _, sum + 1, x, used + 1, by omega, by go_num, rfl, rfl, rfl, ⟨by rw [← HGO.out, HE.out]; rfl, by omega, by omega, by omega, by have : r.data.toList.length = r.size := rfl; omega, by omega, by omega⟩, rfl⟩
                case measure => simp [intOf]; omega
      · obtain rfl : j = l.length := by omega
        have hd : decide ((l.length : Int) < (l.length : Int)) = false := by simp
        have HE := Lib.hid (show costG m.data.toList r.data.toList l = some (sum + 2 * (r.size - used)) by
          rw [HG.out, ← HGO.out, List.drop_length, cstGo]; rfl)
        go_wp2_with fail
        go_ret2
        exact ⟨by rw [HE.out]; rfl, _, rfl⟩
  · have hne : ((l.length : Int) != (m.size : Int)) = true := by simp; omega
    have HE := Lib.hid (show costG m.data.toList r.data.toList l = none by rw [costG, if_neg (by simpa using hlen)])
    clear hlen
    go_enter Try.func16, Try.ntmps16
    go_wp2_with fail
    go_ret2
    exact ⟨by rw [HE.out]; rfl, 0, rfl⟩
end Go.Proofs.Ytpnfipemencgnaa
