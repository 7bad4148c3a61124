/-
  The runs of a word: the plain function rnS; the contracts of grouped, split and Split.
-/
import Derived.Test.YtagelndnhpijfaaApp2
import Derived.Test.YtagelndnhpijfaaByt
import Derived.Test.YtagelndnhpijfaaPl
namespace Go.Proofs.Ytagelndnhpijfaa
open Go.RowKit

def bump : List (UInt8 × Nat) → List (UInt8 × Nat)
  | [] => []
  | [p] => [(p.1, p.2 + 1)]
  | p :: q :: l => p :: bump (q :: l)
theorem bump_snoc : ∀ (l : List (UInt8 × Nat)) (c : UInt8) (n : Nat), bump (l ++ [(c, n)]) = l ++ [(c, n + 1)]
  | [], _, _ => rfl
  | [p], c, n => rfl
  | p :: q :: l, c, n => by
    have := bump_snoc (q :: l) c n
    simp only [List.cons_append] at this ⊢
    rw [bump, this]
/-- The runs of the first k letters. -/
def rnS (l : List UInt8) : Nat → List (UInt8 × Nat)
  | 0 => []
  | k + 1 => if 0 < k ∧ l.getD k 0 = l.getD (k - 1) 0 then bump (rnS l k) else rnS l k ++ [(l.getD k 0, 1)]
theorem rnS_new (l : List UInt8) (i : Nat) (h : i = 0 ∨ l.getD i 0 ≠ l.getD (i - 1) 0) : rnS l (i + 1) = rnS l i ++ [(l.getD i 0, 1)] := by
  rw [rnS, if_neg]
  rintro ⟨h1, h2⟩
  rcases h with h | h
  · omega
  · exact h h2
theorem rnS_more (l : List UInt8) (i k : Nat) (hik : i < k) (h : rnS l k = rnS l i ++ [(l.getD i 0, k - i)]) (h1 : l.getD (k - 1) 0 = l.getD i 0) (h2 : l.getD k 0 = l.getD i 0) : rnS l (k + 1) = rnS l i ++ [(l.getD i 0, k + 1 - i)] := by
  rw [rnS, if_pos ⟨by omega, by rw [h2, h1]⟩, h, bump_snoc]
  congr 3; omega

/-- A part of the word, from a to b. -/
def partV (B c : Nat) (p : Nat × Nat) : Value := .slice (some ⟨B, p.1, none⟩) (p.2 - p.1) (c - p.1)
def partR (l : List UInt8) (p : Nat × Nat) : UInt8 × Nat := (l.getD p.1 0, p.2 - p.1)

set_option maxHeartbeats 2000000 in
set_option maxRecDepth 100000 in
theorem grouped_any (l : List UInt8) (B c : Nat) (w : World) (hr : RowP w B 5 (bts l)) (hc : l.length ≤ c) (hl : l.length ≤ 65536) :
    Calls Try.prog 59 #[.slice (some ⟨B, 0, none⟩) l.length c] w fun e w' => ∃ (v : Value) (gs : List (Nat × Nat)), e = .returned v ∧ Own w' w.heap.size 62 v (gs.map (partV B c)) ∧ rnS l l.length = gs.map (partR l) ∧ (∀ p ∈ gs, p.1 < p.2 ∧ p.2 ≤ l.length) ∧ Below w.heap.size w w' := by
  have HR := Lib.hid hr; clear hr
  go_enter Try.func59, Try.ntmps59
  go_wp2_with fail
  go_loopw [3, 4] (fun v ii wr => ∃ (i : Nat) (gs : List (Nat × Nat)), i ≤ l.length ∧ ii = .int .i64 i ∧ (i < l.length → i = 0 ∨ l.getD i 0 ≠ l.getD (i - 1) 0) ∧ rnS l i = gs.map (partR l) ∧ (∀ p ∈ gs, p.1 < p.2 ∧ p.2 ≤ l.length) ∧ gs.length ≤ i ∧ Own wr w.heap.size 62 v (gs.map (partV B c)) ∧ Below w.heap.size w wr) (fun _ ii _ => l.length - (intOf ii).toNat)
  case atStart => exact ⟨0, [], by omega, rfl, fun _ => .inl rfl, rfl, by simp, by simp, own_nil _ _ _, Below.refl _ _⟩
  case round =>
    obtain ⟨i, gs, hi, rfl, hnew, hrn, hgs, hgl, hown, hb⟩ := hrel
    have HN := Lib.hid hnew; clear hnew
    have HRN := Lib.hid hrn; clear hrn
    have HGS := Lib.hid hgs; clear hgs
    have HW := Lib.hid hown; clear hown
    have HB := Lib.hid hb; clear hb
    by_cases hlt : i < l.length
    · obtain ⟨wo, rfl⟩ : ∃ wo : World, wo = wr := ⟨_, rfl⟩
      go_wp2_with fail
      go_loopw [5] (fun kk wr2 => ∃ k nd : Nat, i < k ∧ k ≤ l.length ∧ kk = .int .i64 k ∧ rnS l k = rnS l i ++ [(l.getD i 0, k - i)] ∧ l.getD (k - 1) 0 = l.getD i 0 ∧ wr2 = wo.drewN nd) (fun kk _ => l.length - (intOf kk).toNat)
      case atStart => exact ⟨i + 1, 0, by omega, by omega, by go_num, by rw [rnS_new l i (HN.out hlt)]; congr 3; omega, by rw [Nat.add_sub_cancel], rfl⟩
      case round =>
        obtain ⟨k, nd, hk1, hk2, rfl, hrk, hprev, hwr⟩ := hrel
        have HRK := Lib.hid hrk; clear hrk
        have HPV := Lib.hid hprev; clear hprev
        have HW2 : Hid (Own wr w.heap.size 62 u3 (gs.map (partV B c))) := Lib.hid (by rw [hwr]; exact HW.out.drewN _)
        have HB2 : Hid (Below w.heap.size w wr) := Lib.hid (by rw [hwr]; exact below_drewN HB.out _)
        have HWR := Lib.hid hwr; clear hwr
        have hrow := HR.out.below HB2.out HR.out.lt
        have cI : wr.cell? ⟨B, i, none⟩ = some (.int .u8 ((l.getD i 0).toNat : Int)) := by
          rw [hrow.cell i (by rw [bts_len]; exact hlt), bts_get, List.getElem?_eq_getElem hlt, List.getD_eq_getElem?_getD, List.getElem?_eq_getElem hlt]; rfl
        by_cases hkl : k < l.length
        · have cK : wr.cell? ⟨B, k, none⟩ = some (.int .u8 ((l.getD k 0).toNat : Int)) := by
            rw [hrow.cell k (by rw [bts_len]; exact hkl), bts_get, List.getElem?_eq_getElem hkl, List.getD_eq_getElem?_getD, List.getElem?_eq_getElem hkl]; rfl
          have HROW := Lib.hid hrow; clear hrow
          have hkd : decide ((k : Int) < (l.length : Int)) = true := by simp; omega
          obtain ⟨ci, hci⟩ : ∃ ci, ci = l.getD i 0 := ⟨_, rfl⟩
          obtain ⟨ck, hck⟩ : ∃ ck, ck = l.getD k 0 := ⟨_, rfl⟩
          rw [← hci] at cI
          rw [← hck] at cK
          have HCI := Lib.hid hci; clear hci
          have HCK := Lib.hid hck; clear hck
          by_cases he : ck = ci
          · have hb : (((ck.toNat : Nat) : Int) == ((ci.toNat : Nat) : Int)) = true := by rw [he]; simp
            have HE := Lib.hid he; clear he
            go_wp2_with fail
            go_quiet (fail)
            go_wp2_with fail
            go_roundw
            case rel => exact ⟨k + 1, _, by omega, by omega, by go_num, rnS_more l i k hk1 HRK.out HPV.out (by rw [← HCK.out, HE.out, HCI.out]), by rw [Nat.add_sub_cancel, ← HCK.out, HE.out, HCI.out], by rw [HWR.out, World.drewN_drewN]⟩
            case measure => simp [intOf]; omega
          · have hb : (((ck.toNat : Nat) : Int) == ((ci.toNat : Nat) : Int)) = false := by
              rw [beq_eq_false_iff_ne]; intro h; apply he; rw [← UInt8.toNat_inj]; omega
            have HE := Lib.hid (show k < l.length → l.getD k 0 ≠ l.getD (k - 1) 0 from fun _ => by rw [HPV.out, ← HCK.out, ← HCI.out]; exact he); clear he
            go_wp2_with fail
            go_quiet (fail)
            go_wp2_with (at_builtin; refine wpList_app1 _ rfl _ _ _ rfl w.heap.size 62 (.slice none 0 0) 24 Try.underlying93 (by kernel_rfl) rfl _ _ rfl ((HW2.out.alloc _).drewN _) wr.heap.size 1 (partV B c (i, k)) rfl ((row_new wr 62 [partV B c (i, k)]).cell 0) rfl ?c1 ?c2 ?c3 ?_)
            case c1 => rw [List.length_map]; omega
            case c2 => rw [List.length_map]; omega
            case c3 => have := HB2.out.size; simp; omega
            intro v' w3 hown' hgrow _
            have HO3 := Lib.hid hown'; clear hown'
            have HB3 := Lib.hid (below_grown (below_drewN (HB2.out.alloc HB2.out.size _) _) ((HW2.out.alloc _).drewN _) hgrow (by have := HB2.out.size; simp; omega)); clear hgrow
            go_wp2_with fail
            go_roundw
            case rel =>
              refine ⟨k, gs ++ [(i, k)], by omega, rfl, fun h => .inr (HE.out h), by rw [HRK.out, HRN.out, List.map_append]; rfl, ?_, by rw [List.length_append, List.length_singleton]; omega, by rw [List.map_append]; exact HO3.out, HB3.out⟩
              intro p hp
              rcases List.mem_append.1 hp with hp | hp
              · exact HGS.out p hp
              · simp only [List.mem_singleton] at hp; subst hp; exact ⟨hk1, hk2⟩
            case measure => simp [intOf]; omega
        · obtain rfl : k = l.length := by omega
          have hkd : decide ((l.length : Int) < (l.length : Int)) = false := by simp
          have HE := Lib.hid (show l.length < l.length → l.getD l.length 0 ≠ l.getD (l.length - 1) 0 from fun h => by omega)
          clear hrow cI
          go_wp2_with fail
          go_quiet (fail)
          go_wp2_with (at_builtin; refine wpList_app1 _ rfl _ _ _ rfl w.heap.size 62 (.slice none 0 0) 24 Try.underlying93 (by kernel_rfl) rfl _ _ rfl ((HW2.out.alloc _).drewN _) wr.heap.size 1 (partV B c (i, l.length)) rfl ((row_new wr 62 [partV B c (i, l.length)]).cell 0) rfl ?c1 ?c2 ?c3 ?_)
          case c1 => rw [List.length_map]; omega
          case c2 => rw [List.length_map]; omega
          case c3 => have := HB2.out.size; simp; omega
          intro v' w3 hown' hgrow _
          have HO3 := Lib.hid hown'; clear hown'
          have HB3 := Lib.hid (below_grown (below_drewN (HB2.out.alloc HB2.out.size _) _) ((HW2.out.alloc _).drewN _) hgrow (by have := HB2.out.size; simp; omega)); clear hgrow
          go_wp2_with fail
          go_roundw
          case rel =>
            refine ⟨l.length, gs ++ [(i, l.length)], by omega, rfl, fun h => .inr (HE.out h), by rw [HRK.out, HRN.out, List.map_append]; rfl, ?_, by rw [List.length_append, List.length_singleton]; omega, by rw [List.map_append]; exact HO3.out, HB3.out⟩
            intro p hp
            rcases List.mem_append.1 hp with hp | hp
            · exact HGS.out p hp
            · simp only [List.mem_singleton] at hp; subst hp; exact ⟨hk1, hk2⟩
          case measure => simp [intOf]; omega
    · obtain rfl : i = l.length := by omega
      have hd : decide ((l.length : Int) < (l.length : Int)) = false := by simp
      go_wp2_with fail
      go_ret
      exact ⟨_, gs, rfl, HW.out, HRN.out, HGS.out, HB.out⟩

theorem bump_len : ∀ l : List (UInt8 × Nat), (bump l).length = l.length
  | [] => rfl
  | [_] => rfl
  | p :: q :: l => by rw [bump, List.length_cons, bump_len (q :: l)]; rfl
theorem rnS_len (l : List UInt8) : ∀ k, (rnS l k).length ≤ k
  | 0 => Nat.le_refl _
  | k + 1 => by
    have := rnS_len l k
    rw [rnS]; split
    · rw [bump_len]; omega
    · rw [List.length_append]; simp; omega
/-- The runs, as pairs of numbers. -/
def rp (l : List UInt8) (k : Nat) : List (Int × Int) := (rnS l k).map fun p => (digit p.1, ((p.2 : Nat) : Int))
theorem take_snoc' {α : Type} (l : List α) (j : Nat) (h : j < l.length) : l.take (j + 1) = l.take j ++ [l[j]] := List.take_succ_eq_append_getElem h

set_option maxHeartbeats 2000000 in
set_option maxRecDepth 100000 in
theorem split_any (s : ByteArray) (w : World) (hs : s.size ≤ 65536) :
    Calls Try.prog 44 #[.string s] w fun e w' => ∃ v, e = .returned v ∧ Own2 w' w.heap.size 50 v (rp s.data.toList s.size) ∧ Below w.heap.size w w' := by
  go_enter Try.func44, Try.ntmps44
  go_wp2_with (refine wpList_bytes _ rfl _ 9 62 5 rfl Try.underlying9 Try.underlying62 Try.underlying5 s rfl ?_)
  intro w1 c hrow hb1 hz1 hc
  have HR := Lib.hid hrow; clear hrow
  have HB1 := Lib.hid hb1; clear hb1
  go_wp2_with fail
  refine (grouped_any s.data.toList w.heap.size c _ HR.out hc hs).mono ?_
  rintro e w2 ⟨v, gs, rfl, hown, hrn, hgs, hb2⟩
  have HO := Lib.hid hown
  have HRN := Lib.hid hrn; clear hrn
  have HGS := Lib.hid hgs; clear hgs
  have HB2 := Lib.hid (HB1.out.trans (hb2.mono HB1.out.size))
  have hsz : w.heap.size ≤ w2.heap.size := HB2.out.size
  have HR2 := Lib.hid (HR.out.below hb2 HR.out.lt); clear hb2
  have hgl : gs.length ≤ 65536 := by
    have h1 := rnS_len s.data.toList s.data.toList.length
    rw [HRN.out, List.length_map] at h1
    have e : s.data.toList.length = s.size := rfl
    omega
  obtain ⟨a, cp, rfl, HC⟩ : ∃ a cp, v = .slice a gs.length cp ∧ Hid (∀ j (h : j < gs.length), ∃ g, a = some ⟨g, 0, none⟩ ∧ w2.cell? ⟨g, j, none⟩ = some (partV w.heap.size c gs[j])) := by
    rcases hown.cases with ⟨h1, h2⟩ | ⟨g, cap, h1, _, _, _, h5, _⟩
    · have h3 : gs = [] := List.map_eq_nil_iff.1 h2
      exact ⟨none, 0, by rw [h1, h3]; rfl, Lib.hid (fun j h => by rw [h3] at h; simp at h)⟩
    · refine ⟨_, cap, by rw [h1, List.length_map], Lib.hid (fun j h => ⟨g, rfl, ?_⟩)⟩
      rw [h5 j (by rw [List.length_map]; exact h), List.getElem?_map, List.getElem?_eq_getElem h]; rfl
  clear hown
  have HRP := Lib.hid (show rp s.data.toList s.size = gs.map (fun p => (digit (s.data.toList.getD p.1 0), ((p.2 - p.1 : Nat) : Int))) by
    have h1 := HRN.out
    have e : s.data.toList.length = s.size := rfl
    rw [e] at h1
    rw [rp, h1, List.map_map]; rfl)
  go_wp2_with fail
  go_loopw [3, 10] (fun u i wr => ∃ j : Nat, j ≤ gs.length ∧ i = .int .i64 j ∧ Own2 wr w2.heap.size 50 u ((rp s.data.toList s.size).take j) ∧ Below w2.heap.size w2 wr) (fun _ i _ => gs.length - (intOf i).toNat)
  case atStart => exact ⟨0, by omega, rfl, own2_nil _ _ _, Below.refl _ _⟩
  case round =>
    obtain ⟨j, hj, rfl, hou, hbb⟩ := hrel
    have HOU := Lib.hid hou; clear hou
    have HBB := Lib.hid hbb; clear hbb
    by_cases hlt : j < gs.length
    · obtain ⟨g, rfl, hc1⟩ := HC.out j hlt
      obtain ⟨hp1, hp2⟩ := HGS.out gs[j] (List.getElem_mem hlt)
      have hcj := cell_below hc1 HBB.out (cell_lt hc1)
      have e : s.data.toList.length = s.size := rfl
      rw [e] at hp2
      have HPJ := Lib.hid (show (rp s.data.toList s.size).take (j + 1) = (rp s.data.toList s.size).take j ++ [(digit (s.data.toList.getD gs[j].1 0), ((gs[j].2 - gs[j].1 : Nat) : Int))] by
        have hl : j < (rp s.data.toList s.size).length := by rw [HRP.out, List.length_map]; exact hlt
        rw [take_snoc' _ j hl]
        congr 2
        simp only [HRP.out, List.getElem_map])
      have HLT := Lib.hid (show ((rp s.data.toList s.size).take j).length ≤ j from List.length_take_le _ _)
      generalize gs[j] = p at *
      obtain ⟨p1, p2⟩ := p
      have hcj' : wr.cell? ⟨g, j, none⟩ = some (.slice (some ⟨w.heap.size, p1, none⟩) (p2 - p1) (c - p1)) := hcj
      have hp1' : p1 < p2 := hp1
      have hp2' : p2 ≤ s.size := hp2
      have hps : p1 < s.size := by omega
      have hrw := HR2.out.below HBB.out HR2.out.lt
      have hcl : wr.cell? ⟨w.heap.size, p1, none⟩ = some (.int .u8 (s[p1].toNat : Int)) := by
        rw [hrw.cell p1 (by rw [bts_len]; exact hps), bts_get, List.getElem?_eq_getElem (by simpa using hps)]; rfl
      have HG := Lib.hid (show s.data.toList.getD p1 0 = s[p1] by rw [List.getD_eq_getElem?_getD, List.getElem?_eq_getElem (by simpa using hps)]; rfl)
      clear hcj hc1 hp1 hp2 hrw e
      go_wp2_with fail
      refine (Try.strings_IndexByte _ _ _).mono ?_
      rintro e w' ⟨rfl, hw⟩
      obtain rfl : wr = w' := hw.symm
      go_wp2_with (at_builtin; go_loud (refine wpList_app2 _ rfl _ _ _ rfl w2.heap.size 50 (.agg #[.int .i64 0, .int .i64 0]) 16 Try.underlying36 (by kernel_rfl) rfl _ _ rfl (HOU.out.alloc _) wr.heap.size 1 (Lib.indexByte [48, 49, 50, 51, 52, 53, 54, 55, 56, 57, 97, 98, 99, 100, 101, 102] s[p1], ((p2 - p1 : Nat) : Int)) rfl (by exact (row_new wr 50 [_, _]).cell 0) (by exact (row_new wr 50 [_, _]).cell 1) ?c1 ?c2 ?c3 ?_))
      case c1 => have := HLT.out; omega
      case c2 => have := HLT.out; omega
      case c3 => have := HBB.out.size; simp; omega
      intro v' w3 hown' hgrow _
      have HO3 := Lib.hid hown'; clear hown'
      have HB3 := Lib.hid (below_grown2 (HBB.out.alloc HBB.out.size _) (HOU.out.alloc _) hgrow (by have := HBB.out.size; simp; omega)); clear hgrow
      go_wp2_with fail
      go_roundw
      case rel =>
        refine ⟨j + 1, by omega, rfl, ?_, HB3.out⟩
        rw [HPJ.out, HG.out]; exact HO3.out
      case measure => simp [intOf]; omega
    · obtain rfl : j = gs.length := by omega
      have hd : decide ((gs.length : Int) < (gs.length : Int)) = false := by simp
      have HTK := Lib.hid (show (rp s.data.toList s.size).take gs.length = rp s.data.toList s.size from List.take_of_length_le (by rw [HRP.out, List.length_map]; exact Nat.le_refl _))
      go_wp2_with fail
      go_ret
      refine ⟨_, rfl, ?_, (HB2.out.trans (HBB.out.mono HB2.out.size))⟩
      rw [← HTK.out]; exact HOU.out.mono HB2.out.size
end Go.Proofs.Ytagelndnhpijfaa
