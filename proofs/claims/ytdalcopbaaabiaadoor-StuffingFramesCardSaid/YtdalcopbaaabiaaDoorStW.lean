/-
  The contract of the reference Deframe, and Deframe of what is no word.
-/
import Derived.Test.YtdalcopbaaabiaaDoorStS
import Derived.Test.YtdalcopbaaabiaaDoorStU
import Derived.Test.YtdalcopbaaabiaaDoorStI
import Derived.Test.YtdalcopbaaabiaaDoorApp
namespace Go.Proofs.YtdalcopbaaabiaaDoor
open Go.RowKit

attribute [local go_sem] Oper.semAt_some
set_option maxHeartbeats 1000000 in
theorem Deframe_bad (s : ByteArray) (w : World) (hc : chk 2 s.data.toList ≠ 0) :
    Calls Tryd.prog 38 #[.string s] w fun e w' => e = .returned (.tuple #[.slice none 0 0, .int .i64 0, .int .i64 (chk 2 s.data.toList)]) ∧ Below w.heap.size w w' := by
  have hc' : (chk 2 s.data.toList != 0) = true := by simpa using hc
  clear hc
  go_enter Tryd.func38, Tryd.ntmps38
  go_wp2_with fail
  refine (check_any _ _ _).mono ?_
  rintro e w1 ⟨rfl, n, rfl⟩
  have hb0 := bxN (((Boxed.new w 40 (.slice none 0 0)).alloc (.cells #[.int .i64 0] 3)).alloc (.cells #[.int .i64 0] 26)) n
  have hb1 := bxN ((Boxed.new (w.alloc (.cells #[.slice none 0 0] 40)) 3 (.int .i64 0)).alloc (.cells #[.int .i64 0] 26)) n
  have hb2 := bxN (Boxed.new ((w.alloc (.cells #[.slice none 0 0] 40)).alloc (.cells #[.int .i64 0] 3)) 26 (.int .i64 0)) n
  have hBL := below_drewN ((((Below.refl w.heap.size w).alloc (Nat.le_refl _) (.cells #[.slice none 0 0] 40)).alloc (by simp) (.cells #[.int .i64 0] 3)).alloc (by simp; omega) (.cells #[.int .i64 0] 26)) n
  obtain ⟨W, hW⟩ : ∃ W, (((w.alloc (.cells #[.slice none 0 0] 40)).alloc (.cells #[.int .i64 0] 3)).alloc (.cells #[.int .i64 0] 26)).drewN n = W := ⟨_, rfl⟩
  simp only [World.size_alloc] at hb0 hb1 hb2 hBL hW
  rw [hW] at hb0 hb1 hb2 hBL ⊢
  clear hW
  have c0 := hb0.cell; have c1 := hb1.cell; have c2 := hb2.cell
  have f0 := hb0.frozen; have f1 := hb1.frozen; have f2 := hb2.frozen
  go_wp2_with fail
  have y0 := (((hb0.set (.slice none 0 0)).other (B' := w.heap.size + 1) (by omega) (.int .i64 0)).other (B' := w.heap.size + 1 + 1) (by omega) (.int .i64 (chk 2 s.data.toList))).cell
  have y1 := (((hb1.other (B' := w.heap.size) (by omega) (.slice none 0 0)).set (.int .i64 0)).other (B' := w.heap.size + 1 + 1) (by omega) (.int .i64 (chk 2 s.data.toList))).cell
  have y2 := (((hb2.other (B' := w.heap.size) (by omega) (.slice none 0 0)).other (B' := w.heap.size + 1) (by omega) (.int .i64 0)).set (.int .i64 (chk 2 s.data.toList))).cell
  have hBF := ((hBL.setCell (p := ⟨w.heap.size, 0, none⟩) (Nat.le_refl _) (.slice none 0 0)).setCell (p := ⟨w.heap.size + 1, 0, none⟩) (by simp only; omega) (.int .i64 0)).setCell (p := ⟨w.heap.size + 1 + 1, 0, none⟩) (by simp only; omega) (.int .i64 (chk 2 s.data.toList))
  refine ⟨rfl, .tuple #[.slice none 0 0, .int .i64 0, .int .i64 (chk 2 s.data.toList)], ?_, rfl, hBF⟩
  simp [results, Tryd.f38, go_sem, y0, y1, y2]

/-! ### plain laws of the scan -/
theorem occ_drop (l : List UInt8) (b j : Nat) : Lib.occAt (l.drop b) flag j = Lib.occAt l flag (b + j) := by
  unfold Lib.occAt; rw [List.drop_drop]
theorem occ_iff {l : List UInt8} {i : Nat} : Lib.occAt l flag i = true ↔ (l.drop i).take 8 = flag := by
  unfold Lib.occAt
  rw [List.isPrefixOf_iff_prefix, List.prefix_iff_eq_take]
  exact ⟨fun h => h.symm, fun h => h.symm⟩
theorem ctf_hit {l : List UInt8} {b i : Nat} (hb : b ≤ i) (hi : i + 8 ≤ l.length) (ho : Lib.occAt l flag i = true) (hn : ∀ j, b ≤ j → j < i → Lib.occAt l flag j = false) :
    ctf (l.drop b) = ((l.drop b).take (i - b), l.drop (i + 8), true) := by
  have h := Lib.index_first (s := l.drop b) (sub := flag) (i := i - b) (by simp; omega) (by rw [occ_drop, show b + (i - b) = i by omega]; exact ho) (fun j hj => by rw [occ_drop]; exact hn _ (by omega) (by omega))
  rw [cut_hit h, List.drop_drop, show b + (i - b + 8) = i + 8 by omega]
theorem ctf_miss {l : List UInt8} {b i : Nat} (hi : l.length < i + 8) (hn : ∀ j, b ≤ j → j < i → Lib.occAt l flag j = false) : (ctf (l.drop b)).2.2 = false := by
  rw [cut_miss (Lib.index_none fun j hj => ?_)]
  rw [occ_drop]
  by_cases h : b + j < i
  · exact hn _ (by omega) h
  · rw [Bool.eq_false_iff]
    intro ho
    have := congrArg List.length (occ_iff.1 ho)
    simp [flag] at this
    omega
/-- Where the scan stands: before the first flag, or behind one. -/
def Scan (l : List UInt8) (b : Int) (i : Nat) (pre : List (List UInt8)) : Prop :=
  (b = -1 ∧ pre = [] ∧ ∀ j, j < i → Lib.occAt l flag j = false) ∨
  ∃ (c n : Nat), b = c ∧ c ≤ i ∧ c ≤ l.length ∧ (l.drop c).length < n ∧ stL l = pre ++ stF n (l.drop c) ∧ ∀ j, c ≤ j → j < i → Lib.occAt l flag j = false
theorem Scan.next {l : List UInt8} {b : Int} {i : Nat} {pre : List (List UInt8)} (h : Scan l b i pre) (ho : Lib.occAt l flag i = false) : Scan l b (i + 1) pre := by
  rcases h with ⟨h1, h2, h3⟩ | ⟨c, n, h1, h2, h3, h4, h5, h6⟩
  · refine .inl ⟨h1, h2, fun j hj => ?_⟩
    by_cases h : j = i
    · rw [h]; exact ho
    · exact h3 j (by omega)
  · refine .inr ⟨c, n, h1, by omega, h3, h4, h5, fun j hc hj => ?_⟩
    by_cases h : j = i
    · rw [h]; exact ho
    · exact h6 j hc (by omega)
theorem Scan.first {l : List UInt8} {i : Nat} {pre : List (List UInt8)} (h : Scan l (-1) i pre) (hi : i + 8 ≤ l.length) (ho : Lib.occAt l flag i = true) : Scan l ((i : Int) + 8) (i + 8) pre := by
  rcases h with ⟨_, h2, h3⟩ | ⟨c, n, h1, _⟩
  · refine .inr ⟨i + 8, l.length + 1, by omega, Nat.le_refl _, by omega, by simp; omega, ?_, fun j h1 h2 => by omega⟩
    have := ctf_hit (l := l) (b := 0) (Nat.zero_le i) hi ho (fun j _ hj => h3 j hj)
    rw [List.drop_zero] at this
    rw [stL, this, h2]; rfl
  · omega
theorem Scan.hit {l : List UInt8} {c i : Nat} {pre : List (List UInt8)} (h : Scan l (c : Int) i pre) (hi : i + 8 ≤ l.length) (ho : Lib.occAt l flag i = true) : Scan l ((i : Int) + 8) (i + 8) (pre ++ [(l.drop c).take (i - c)]) := by
  rcases h with ⟨h1, _⟩ | ⟨c', n, h1, h2, h3, h4, h5, h6⟩
  · omega
  · obtain rfl : c = c' := by omega
    have hc := ctf_hit h2 hi ho h6
    obtain ⟨m, rfl⟩ : ∃ m, n = m + 1 := ⟨n - 1, by omega⟩
    refine .inr ⟨i + 8, m, by omega, Nat.le_refl _, by omega, ?_, ?_, fun j h1 h2 => by omega⟩
    · simp only [List.length_drop] at h4 ⊢; omega
    · rw [h5, stF, hc]; simp
theorem Scan.done {l : List UInt8} {b : Int} {i : Nat} {pre : List (List UInt8)} (h : Scan l b i pre) (hi : l.length < i + 8) : stL l = pre := by
  rcases h with ⟨_, h2, h3⟩ | ⟨c, n, h1, h2, h3, h4, h5, h6⟩
  · have := ctf_miss (l := l) (b := 0) hi (fun j _ hj => h3 j hj)
    rw [List.drop_zero] at this
    rw [stL, this, h2]; rfl
  · obtain ⟨m, rfl⟩ : ∃ m, n = m + 1 := ⟨n - 1, by omega⟩
    rw [h5, stF, ctf_miss hi h6]; simp
theorem Scan.bd {l : List UInt8} {b : Int} {i : Nat} {pre : List (List UInt8)} (h : Scan l b i pre) : b = -1 ∨ ∃ c : Nat, b = c ∧ c ≤ i := by
  rcases h with ⟨h1, _⟩ | ⟨c, n, h1, h2, _⟩
  · exact .inl h1
  · exact .inr ⟨c, h1, h2⟩
theorem seg_rus {l : List UInt8} (h : l.all isB = true) (c k : Nat) : rus 49 5 0 ((l.drop c).take k) = ust5 ((l.drop c).take k) := by
  refine (rus_ust 49 48 (by decide) 5 (by omega) _ fun a ha => ?_).2 0 (by omega)
  have := List.all_eq_true.1 h a (List.mem_of_mem_drop (List.mem_of_mem_take ha))
  rcases isB_cases this with rfl | rfl
  · exact .inr rfl
  · exact .inl rfl

theorem hitS (s : ByteArray) (i : Nat) : s.extract i (i + 8) = (⟨#[48, 49, 49, 49, 49, 49, 49, 48]⟩ : ByteArray) ↔ Lib.occAt s.data.toList flag i = true := by
  have e : (s.extract i (i + 8)).data.toList = (s.data.toList.drop i).take 8 := by rw [Lib.extract_data, show i + 8 - i = 8 by omega]
  rw [occ_iff, ← e]
  refine ⟨fun h => by rw [h]; rfl, fun h => ?_⟩
  apply ByteArray.ext; apply Array.ext'; rw [h]; rfl
theorem filterMap_snoc_none {pre : List (List UInt8)} {x : List UInt8} (h : ust5 x = none) : (pre ++ [x]).filterMap ust5 = pre.filterMap ust5 ∧ ((pre ++ [x]).filter fun x => (ust5 x).isNone).length = (pre.filter fun x => (ust5 x).isNone).length + 1 := by
  simp [List.filterMap_append, List.filter_append, h]
theorem filterMap_snoc_some {pre : List (List UInt8)} {x y : List UInt8} (h : ust5 x = some y) : (pre ++ [x]).filterMap ust5 = pre.filterMap ust5 ++ [y] ∧ ((pre ++ [x]).filter fun x => (ust5 x).isNone).length = (pre.filter fun x => (ust5 x).isNone).length := by
  simp [List.filterMap_append, List.filter_append, h]

set_option maxHeartbeats 1000000 in
set_option maxRecDepth 100000 in
theorem refDeframe_any (s : ByteArray) (w : World) (hs : s.size ≤ 400) (hc : chk 2 s.data.toList = 0) :
    Calls Tryd.prog 39 #[.string s] w fun e w' => ∃ v, e = .returned (.tuple #[v, .int .i64 ((stL s.data.toList).filter fun x => (ust5 x).isNone).length, .int .i64 0]) ∧ w'.ownsRow w.heap.size 9 1 v ((stL s.data.toList).filterMap ust5).length (strs ((stL s.data.toList).filterMap ust5)) ∧ Below w.heap.size w w' := by
  have HBI := Lib.hid (((chk2_iff _).1 hc).2)
  have HC := Lib.hid hc; clear hc
  have e0 : s.data.toList.length = s.size := rfl
  have HE0 := Lib.hid e0
  have HLN := Lib.hid (stL_len s.data.toList)
  clear e0
  go_enter Tryd.func39, Tryd.ntmps39
  go_wp2_with fail
  refine (refCheck_any _ _ _).mono ?_
  rintro e w1 ⟨rfl, rfl⟩
  rw [HC.out]
  go_wp2_with fail
  go_loopw [6, 7, 8, 9] (fun v bad b i wr => ∃ (j : Nat) (bb : Int) (pre : List (List UInt8)), j ≤ s.size ∧ i = .int .i64 j ∧ b = .int .i64 bb ∧ bad = .int .i64 (pre.filter fun x => (ust5 x).isNone).length ∧ pre.length ≤ j ∧ Own wr w.heap.size 9 v (strs (pre.filterMap ust5)) ∧ Below w.heap.size w wr ∧ Scan s.data.toList bb j pre) (fun _ _ _ i _ => s.size - (intOf i).toNat)
  case atStart => exact ⟨0, -1, [], by omega, rfl, rfl, rfl, by simp, own_lit w w.heap.size 9 [] (Nat.le_refl _) (by simp), (Below.refl _ _).alloc (Nat.le_refl _) _, .inl ⟨rfl, rfl, fun j hj => by omega⟩⟩
  case round =>
    obtain ⟨j, bb, pre, hj, rfl, rfl, rfl, hpj, hown, hb, hsc⟩ := hrel
    have HW := Lib.hid hown; clear hown
    have HB := Lib.hid hb; clear hb
    have HSC := Lib.hid hsc; clear hsc
    by_cases hlt : j + 8 ≤ s.size
    · have hlt' : decide ((j : Int) + 8 ≤ (s.size : Int)) = true := by simp; omega
      by_cases hx : s.extract j (j + 8) = (⟨#[48, 49, 49, 49, 49, 49, 49, 48]⟩ : ByteArray)
      · have HO := Lib.hid ((hitS s j).1 hx)
        rcases HSC.out.bd with rfl | ⟨c, rfl, hcj⟩
        · have HS2 := Lib.hid (HSC.out.first (by have := HE0.out; omega) HO.out)
          go_wp2_with fail
          go_roundw
          case rel => exact ⟨j + 8, _, pre, by omega, by go_num, rfl, rfl, by omega, HW.out, HB.out, HS2.out⟩
          case measure => simp [intOf]; omega
        · have HS2 := Lib.hid (HSC.out.hit (by have := HE0.out; omega) HO.out)
          have hex : (s.extract c j).data.toList = (s.data.toList.drop c).take (j - c) := Lib.extract_data _ _ _
          have HRU := Lib.hid (show rus 49 5 0 (s.extract c j).data.toList = ust5 ((s.data.toList.drop c).take (j - c)) by rw [hex]; exact seg_rus HBI.out c (j - c))
          have hez : (s.extract c j).size ≤ 400 := by
            have h1 := congrArg List.length hex
            have h2 : (s.extract c j).data.toList.length = (s.extract c j).size := rfl
            rw [List.length_take, List.length_drop] at h1
            have := HE0.out
            omega
          have hct : (c : Int).toNat = c := by omega
          have hfl := List.length_filter_le (fun x => (ust5 x).isNone) pre
          have hfm := List.length_filterMap_le ust5 pre
          cases hu : ust5 ((s.data.toList.drop c).take (j - c)) with
          | none =>
            have HA := Lib.hid (filterMap_snoc_none (pre := pre) hu)
            rw [hu] at HRU
            clear hu hex
            go_wp2_with fail
            refine (refunstuff_any 49 5 (s.extract c j) _ (by omega) (by omega) (by omega)).mono ?_
            rintro e w2 ⟨o, rfl, _, rfl⟩
            rw [HRU.out]
            go_wp2_with fail
            go_roundw
            case rel => exact ⟨j + 8, _, _, by omega, by go_num, rfl, by rw [HA.out.2]; go_num, by simp; omega, by rw [HA.out.1]; exact HW.out, HB.out, HS2.out⟩
            case measure => simp [intOf]; omega
          | some y =>
            have HA := Lib.hid (filterMap_snoc_some (pre := pre) hu)
            rw [hu] at HRU
            clear hu hex
            have HSZ := Lib.hid HB.out.size
            have HLE := Lib.hid (show (strs (pre.filterMap ust5)).length ≤ 400 by simp [strs]; omega)
            go_wp2_with fail
            refine (refunstuff_any 49 5 (s.extract c j) _ (by omega) (by omega) (by omega)).mono ?_
            rintro e w2 ⟨o, rfl, ho, rfl⟩
            obtain rfl := ho y HRU.out
            rw [HRU.out]
            go_wp2_with (at_builtin; refine wpList_app1 _ rfl _ _ _ rfl w.heap.size 9 (.string ⟨#[]⟩) 16 Tryd.underlying40 infoS rfl _ _ rfl (HW.out.alloc _) _ 1 (.string ⟨y.toArray⟩) rfl ((row_new _ 9 [.string ⟨y.toArray⟩]).cell 0) rfl ?c1 ?c2 ?c3 ?_)
            case c1 => have := HLE.out; omega
            case c2 => have := HLE.out; omega
            case c3 => exact Nat.le_trans HSZ.out (by simp)
            intro v' w3 hown' hgrow _
            have HO3 := Lib.hid hown'; clear hown'
            have HB3 := Lib.hid (below_grown (HB.out.alloc HSZ.out _) (HW.out.alloc _) hgrow (Nat.le_trans HSZ.out (by simp))); clear hgrow
            go_wp2_with fail
            go_roundw
            case rel => exact ⟨j + 8, _, _, by omega, by go_num, rfl, by rw [HA.out.2], by simp; omega, by rw [HA.out.1]; simpa [strs] using HO3.out, HB3.out, HS2.out⟩
            case measure => simp [intOf]; omega
      · have HO := Lib.hid (show Lib.occAt s.data.toList flag j = false by rw [Bool.eq_false_iff]; exact fun h => hx ((hitS s j).2 h))
        have HS2 := Lib.hid (HSC.out.next HO.out)
        have hx2 : ((s.extract j (j + 8)).toList == [48, 49, 49, 49, 49, 49, 49, 48]) = false := by
          rw [beq_eq_false_iff_ne, Lib.extract_toList, show j + 8 - j = 8 by omega]
          exact fun h => by have := HO.out; rw [occ_iff.2 h] at this; cases this
        clear hx
        go_wp2_with fail
        go_roundw
        case rel => exact ⟨j + 1, bb, pre, by omega, by go_num, rfl, rfl, by omega, HW.out, HB.out, HS2.out⟩
        case measure => simp [intOf]; omega
    · have hlt' : decide ((j : Int) + 8 ≤ (s.size : Int)) = false := by simp; omega
      have HP := Lib.hid (show stL s.data.toList = pre from HSC.out.done (by have := HE0.out; omega))
      have hPl : pre.length ≤ 50 := by have h1 := HLN.out; have h2 := HE0.out; rw [HP.out] at h1; omega
      have hst : (strs (pre.filterMap ust5)).length = (pre.filterMap ust5).length := by simp [strs]
      have hfw := HW.out
      unfold Own at hfw
      rw [hst] at hfw
      clear hst HW
      obtain ⟨a, c, rfl, _⟩ := srow_of_own rfl hfw
      have HF := Lib.hid hfw; clear hfw
      have hfm := List.length_filterMap_le ust5 pre
      have hfl := List.length_filter_le (fun x => (ust5 x).isNone) pre
      go_wp2_with fail
      go_ret3
      rw [HP.out]
      exact ⟨_, rfl, HF.out, HB.out⟩
set_option maxHeartbeats 1000000 in
theorem refDeframe_bad (s : ByteArray) (w : World) (hc : chk 2 s.data.toList ≠ 0) :
    Calls Tryd.prog 39 #[.string s] w fun e w' => (∃ a c, e = .returned (.tuple #[.slice a 0 c, .int .i64 0, .int .i64 (chk 2 s.data.toList)])) ∧ Below w.heap.size w w' := by
  have hc' : (chk 2 s.data.toList != 0) = true := by simpa using hc
  clear hc
  go_enter Tryd.func39, Tryd.ntmps39
  go_wp2_with fail
  refine (refCheck_any _ _ _).mono ?_
  rintro e w1 ⟨rfl, rfl⟩
  go_wp2_with fail
  go_ret3
  exact ⟨⟨_, _, rfl⟩, (Below.refl _ _).alloc (Nat.le_refl _) _⟩
end Go.Proofs.YtdalcopbaaabiaaDoor
