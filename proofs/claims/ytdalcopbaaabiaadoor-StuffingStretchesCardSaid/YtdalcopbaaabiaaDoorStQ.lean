/-
  The contract of Deframe.
-/
import Derived.Test.YtdalcopbaaabiaaDoorStP
import Derived.Test.YtdalcopbaaabiaaDoorStF
namespace Go.Proofs.YtdalcopbaaabiaaDoor
open Go.RowKit Go.Shelf
attribute [local go_sem] Oper.semAt_some

/-- What the stretches x hold when they are unstuffed; how many of them hold nothing. -/
def ust5 (x : List UInt8) : Option (List UInt8) := ust 49 48 5 0 false x
def dwO (pre : List Wd) : List (List UInt8) := pre.filterMap fun x => ust5 x.1.data.toList
def dwB (pre : List Wd) : Nat := (pre.filter fun x => (ust5 x.1.data.toList).isNone).length
theorem dwO_none (pre : List Wd) (x : Wd) (h : ust5 x.1.data.toList = none) : dwO (pre ++ [x]) = dwO pre := by simp [dwO, List.filterMap_append, h]
theorem dwO_some (pre : List Wd) (x : Wd) (z : List UInt8) (h : ust5 x.1.data.toList = some z) : dwO (pre ++ [x]) = dwO pre ++ [z] := by simp [dwO, List.filterMap_append, h]
theorem dwB_none (pre : List Wd) (x : Wd) (h : ust5 x.1.data.toList = none) : dwB (pre ++ [x]) = dwB pre + 1 := by simp [dwB, List.filter_append, h]
theorem dwB_some (pre : List Wd) (x : Wd) (z : List UInt8) (h : ust5 x.1.data.toList = some z) : dwB (pre ++ [x]) = dwB pre := by simp [dwB, List.filter_append, h]
theorem keeps_below {W W' : World} (h : Below W.heap.size W W') : KeepsOthers W W' := ⟨h.size, fun k _ hk _ => (h.block k (Array.getElem?_eq_some_iff.1 hk).1).trans hk⟩
theorem rowB {w w' : World} {B : Nat} {e : TypeId} {v : Value} {n : Nat} {xs : List Value} (h : w.ownsRow B e 1 v n xs) (hb : Below w.heap.size w w') : w'.ownsRow B e 1 v n xs := by
  rcases ho : v.ownBlock with _ | g
  · exact h.kept (grown_of_below hb none) (.inl ho)
  · exact h.kept (grown_of_below hb none) (.inr (by rw [ho]; simp))
def strs (l : List (List UInt8)) : List Value := l.map fun x => Value.string ⟨x.toArray⟩
theorem bxN {W : World} {B : Nat} {t : TypeId} {v : Value} (h : Boxed W B t v) (n : Nat) : Boxed (W.drewN n) B t v := h
theorem infoS : (Tryd.prog.info? 9).map (fun i => (i.zero, i.size, i.bytes)) = some (some (.string ⟨#[]⟩), 1, 16) := by kernel_rfl

set_option maxRecDepth 100000 in
set_option maxHeartbeats 4000000 in
theorem Deframe_in (s : ByteArray) (w : World) (hm : Mx w) (hs : s.size ≤ 1000) (hc : chk 2 s.data.toList = 0) :
    Calls Tryd.prog 38 #[.string s] w fun e w' => ∃ v, e = .returned (.tuple #[v, .int .i64 (dwB (bas (stL s.data.toList))), .int .i64 0]) ∧ w'.ownsRow w.heap.size 9 1 v (dwO (bas (stL s.data.toList))).length (strs (dwO (bas (stL s.data.toList)))) ∧ Below w.heap.size w w' := by
  obtain ⟨i0, hi, hz0, hzc, hz2⟩ := info_parts infoS
  obtain ⟨m, hmx⟩ := hm
  have hgl := cell_lt hmx
  have HC := Lib.hid hc; clear hc
  refine (callsIn_wide (n := 6)).1 ?_
  refine callsIn_of_wp_marks Tryd.func38 rfl trivial ?_ rfl
  simp only [Tryd.ntmps38, List.size_toArray, List.length_cons, List.length_nil, Nat.reduceAdd, Nat.reduceSub, Array.replicate_succ, Array.replicate_zero, List.push_toArray, List.append_toArray, List.nil_append, List.cons_append]
  gi_wp2_with (first | (refine ⟨trivial, ?_⟩; gi_at_call 45; refine ((callsIn_wide.2 (check_any 2 s _))).mono ?_; rintro e w1 ⟨rfl, n1, rfl⟩; rw [HC.out]) | (refine ⟨trivial, ?_⟩; gi_at_call 66; refine ((callsIn_wide.2 (stretches_any s _))).mono ?_; rintro e w1 ⟨rfl, rfl⟩))
  --RANGE
  have hb0 : Boxed ((((((((w).alloc (.cells #[.slice none 0 0] 40)).alloc (.cells #[.int .i64 0] 3)).alloc (.cells #[.int .i64 0] 26)).drewN n1).alloc (.cells #[.slice none 0 0] 40)).alloc (.cells #[.int .i64 0] 3)).alloc (.cells #[.string s] 9)) (w.heap.size) 40 (.slice none 0 0) := by
    have h : Boxed ((((((((w).alloc (.cells #[.slice none 0 0] 40)).alloc (.cells #[.int .i64 0] 3)).alloc (.cells #[.int .i64 0] 26)).drewN n1).alloc (.cells #[.slice none 0 0] 40)).alloc (.cells #[.int .i64 0] 3)).alloc (.cells #[.string s] 9)) (w).heap.size 40 (.slice none 0 0) := (((bxN (((Boxed.new (w) 40 (.slice none 0 0)).alloc _).alloc _) n1).alloc _).alloc _).alloc _
    have e : (w).heap.size = w.heap.size := by first | (simp; done) | simp [World.drewN]
    rw [e] at h; exact h
  have hb1 : Boxed ((((((((w).alloc (.cells #[.slice none 0 0] 40)).alloc (.cells #[.int .i64 0] 3)).alloc (.cells #[.int .i64 0] 26)).drewN n1).alloc (.cells #[.slice none 0 0] 40)).alloc (.cells #[.int .i64 0] 3)).alloc (.cells #[.string s] 9)) (w.heap.size + 1) 3 (.int .i64 0) := by
    have h : Boxed ((((((((w).alloc (.cells #[.slice none 0 0] 40)).alloc (.cells #[.int .i64 0] 3)).alloc (.cells #[.int .i64 0] 26)).drewN n1).alloc (.cells #[.slice none 0 0] 40)).alloc (.cells #[.int .i64 0] 3)).alloc (.cells #[.string s] 9)) ((w).alloc (.cells #[.slice none 0 0] 40)).heap.size 3 (.int .i64 0) := (((bxN ((Boxed.new ((w).alloc (.cells #[.slice none 0 0] 40)) 3 (.int .i64 0)).alloc _) n1).alloc _).alloc _).alloc _
    have e : ((w).alloc (.cells #[.slice none 0 0] 40)).heap.size = w.heap.size + 1 := by first | (simp; done) | simp [World.drewN]
    rw [e] at h; exact h
  have hb2 : Boxed ((((((((w).alloc (.cells #[.slice none 0 0] 40)).alloc (.cells #[.int .i64 0] 3)).alloc (.cells #[.int .i64 0] 26)).drewN n1).alloc (.cells #[.slice none 0 0] 40)).alloc (.cells #[.int .i64 0] 3)).alloc (.cells #[.string s] 9)) (w.heap.size + 1 + 1) 26 (.int .i64 0) := by
    have h : Boxed ((((((((w).alloc (.cells #[.slice none 0 0] 40)).alloc (.cells #[.int .i64 0] 3)).alloc (.cells #[.int .i64 0] 26)).drewN n1).alloc (.cells #[.slice none 0 0] 40)).alloc (.cells #[.int .i64 0] 3)).alloc (.cells #[.string s] 9)) (((w).alloc (.cells #[.slice none 0 0] 40)).alloc (.cells #[.int .i64 0] 3)).heap.size 26 (.int .i64 0) := (((bxN (Boxed.new (((w).alloc (.cells #[.slice none 0 0] 40)).alloc (.cells #[.int .i64 0] 3)) 26 (.int .i64 0)) n1).alloc _).alloc _).alloc _
    have e : (((w).alloc (.cells #[.slice none 0 0] 40)).alloc (.cells #[.int .i64 0] 3)).heap.size = w.heap.size + 1 + 1 := by first | (simp; done) | simp [World.drewN]
    rw [e] at h; exact h
  have hb3 : Boxed ((((((((w).alloc (.cells #[.slice none 0 0] 40)).alloc (.cells #[.int .i64 0] 3)).alloc (.cells #[.int .i64 0] 26)).drewN n1).alloc (.cells #[.slice none 0 0] 40)).alloc (.cells #[.int .i64 0] 3)).alloc (.cells #[.string s] 9)) (w.heap.size + 1 + 1 + 1) 40 (.slice none 0 0) := by
    have h : Boxed ((((((((w).alloc (.cells #[.slice none 0 0] 40)).alloc (.cells #[.int .i64 0] 3)).alloc (.cells #[.int .i64 0] 26)).drewN n1).alloc (.cells #[.slice none 0 0] 40)).alloc (.cells #[.int .i64 0] 3)).alloc (.cells #[.string s] 9)) (((((w).alloc (.cells #[.slice none 0 0] 40)).alloc (.cells #[.int .i64 0] 3)).alloc (.cells #[.int .i64 0] 26)).drewN n1).heap.size 40 (.slice none 0 0) := ((Boxed.new (((((w).alloc (.cells #[.slice none 0 0] 40)).alloc (.cells #[.int .i64 0] 3)).alloc (.cells #[.int .i64 0] 26)).drewN n1) 40 (.slice none 0 0)).alloc _).alloc _
    have e : (((((w).alloc (.cells #[.slice none 0 0] 40)).alloc (.cells #[.int .i64 0] 3)).alloc (.cells #[.int .i64 0] 26)).drewN n1).heap.size = w.heap.size + 1 + 1 + 1 := by first | (simp; done) | simp [World.drewN]
    rw [e] at h; exact h
  have hb4 : Boxed ((((((((w).alloc (.cells #[.slice none 0 0] 40)).alloc (.cells #[.int .i64 0] 3)).alloc (.cells #[.int .i64 0] 26)).drewN n1).alloc (.cells #[.slice none 0 0] 40)).alloc (.cells #[.int .i64 0] 3)).alloc (.cells #[.string s] 9)) (w.heap.size + 1 + 1 + 1 + 1) 3 (.int .i64 0) := by
    have h : Boxed ((((((((w).alloc (.cells #[.slice none 0 0] 40)).alloc (.cells #[.int .i64 0] 3)).alloc (.cells #[.int .i64 0] 26)).drewN n1).alloc (.cells #[.slice none 0 0] 40)).alloc (.cells #[.int .i64 0] 3)).alloc (.cells #[.string s] 9)) ((((((w).alloc (.cells #[.slice none 0 0] 40)).alloc (.cells #[.int .i64 0] 3)).alloc (.cells #[.int .i64 0] 26)).drewN n1).alloc (.cells #[.slice none 0 0] 40)).heap.size 3 (.int .i64 0) := (Boxed.new ((((((w).alloc (.cells #[.slice none 0 0] 40)).alloc (.cells #[.int .i64 0] 3)).alloc (.cells #[.int .i64 0] 26)).drewN n1).alloc (.cells #[.slice none 0 0] 40)) 3 (.int .i64 0)).alloc _
    have e : ((((((w).alloc (.cells #[.slice none 0 0] 40)).alloc (.cells #[.int .i64 0] 3)).alloc (.cells #[.int .i64 0] 26)).drewN n1).alloc (.cells #[.slice none 0 0] 40)).heap.size = w.heap.size + 1 + 1 + 1 + 1 := by first | (simp; done) | simp [World.drewN]
    rw [e] at h; exact h
  have hb5 : Boxed ((((((((w).alloc (.cells #[.slice none 0 0] 40)).alloc (.cells #[.int .i64 0] 3)).alloc (.cells #[.int .i64 0] 26)).drewN n1).alloc (.cells #[.slice none 0 0] 40)).alloc (.cells #[.int .i64 0] 3)).alloc (.cells #[.string s] 9)) (w.heap.size + 1 + 1 + 1 + 1 + 1) 9 (.string s) := by
    have h : Boxed ((((((((w).alloc (.cells #[.slice none 0 0] 40)).alloc (.cells #[.int .i64 0] 3)).alloc (.cells #[.int .i64 0] 26)).drewN n1).alloc (.cells #[.slice none 0 0] 40)).alloc (.cells #[.int .i64 0] 3)).alloc (.cells #[.string s] 9)) (((((((w).alloc (.cells #[.slice none 0 0] 40)).alloc (.cells #[.int .i64 0] 3)).alloc (.cells #[.int .i64 0] 26)).drewN n1).alloc (.cells #[.slice none 0 0] 40)).alloc (.cells #[.int .i64 0] 3)).heap.size 9 (.string s) := Boxed.new (((((((w).alloc (.cells #[.slice none 0 0] 40)).alloc (.cells #[.int .i64 0] 3)).alloc (.cells #[.int .i64 0] 26)).drewN n1).alloc (.cells #[.slice none 0 0] 40)).alloc (.cells #[.int .i64 0] 3)) 9 (.string s)
    have e : (((((((w).alloc (.cells #[.slice none 0 0] 40)).alloc (.cells #[.int .i64 0] 3)).alloc (.cells #[.int .i64 0] 26)).drewN n1).alloc (.cells #[.slice none 0 0] 40)).alloc (.cells #[.int .i64 0] 3)).heap.size = w.heap.size + 1 + 1 + 1 + 1 + 1 := by first | (simp; done) | simp [World.drewN]
    rw [e] at h; exact h
  have hBL : Below w.heap.size w ((((((((w).alloc (.cells #[.slice none 0 0] 40)).alloc (.cells #[.int .i64 0] 3)).alloc (.cells #[.int .i64 0] 26)).drewN n1).alloc (.cells #[.slice none 0 0] 40)).alloc (.cells #[.int .i64 0] 3)).alloc (.cells #[.string s] 9)) := (((below_drewN ((((Below.refl _ w).alloc (Nat.le_refl _) _).alloc (by simp) _).alloc (by simp; omega) _) n1).alloc (by simp; omega) _).alloc (by simp; omega) _).alloc (by simp; omega) _
  have hzL : ((((((((w).alloc (.cells #[.slice none 0 0] 40)).alloc (.cells #[.int .i64 0] 3)).alloc (.cells #[.int .i64 0] 26)).drewN n1).alloc (.cells #[.slice none 0 0] 40)).alloc (.cells #[.int .i64 0] 3)).alloc (.cells #[.string s] 9)).heap.size = w.heap.size + 1 + 1 + 1 + 1 + 1 + 1 := by first | (simp; done) | simp [World.drewN]
  obtain ⟨WL, hWL⟩ : ∃ WL, (((((((w).alloc (.cells #[.slice none 0 0] 40)).alloc (.cells #[.int .i64 0] 3)).alloc (.cells #[.int .i64 0] 26)).drewN n1).alloc (.cells #[.slice none 0 0] 40)).alloc (.cells #[.int .i64 0] 3)).alloc (.cells #[.string s] 9) = WL := ⟨_, rfl⟩
  rw [hWL] at hb0 hb1 hb2 hb3 hb4 hb5 hBL hzL ⊢
  clear hWL
  have hmL := cell_below hmx hBL hgl
  have HNL := Lib.hid (stL_len s.data.toList)
  have hNs : (stL s.data.toList).length ≤ 125 := by have h1 := stL_len s.data.toList; have e : s.data.toList.length = s.size := rfl; omega
  refine wpIn_rangeFunc_ownG rfl (by omega) (gf := 81) (lb := #[.pointer (some ⟨w.heap.size + 1 + 1 + 1 + 1 + 1, 0, none⟩)]) rfl trivial (enters_of Tryd.func81 (by kernel_rfl) rfl)
    (stretches_stops 5 (by omega) (w.heap.size + 1 + 1 + 1 + 1 + 1) w.heap.size m s (by omega) hgl WL (by omega) (by omega) hb5.cell hmL) belowK_t (belowK_b (by omega)) (Below.refl _ _) (fun _ => rfl)
    (fun pre W => (∃ v, Boxed W (w.heap.size + 1 + 1 + 1) 40 v ∧ W.ownsRow w.heap.size 9 1 v (dwO pre).length (strs (dwO pre)) ∧ True) ∧ Boxed W (w.heap.size + 1 + 1 + 1 + 1) 3 (.int .i64 (dwB pre)) ∧ Boxed W (w.heap.size) 40 (.slice none 0 0) ∧ Boxed W (w.heap.size + 1) 3 (.int .i64 0) ∧ Boxed W (w.heap.size + 1 + 1) 26 (.int .i64 0) ∧ Below w.heap.size w W)
    (fun _ _ _ => False)
    (OwnFrom.and (Own.from (holdsRow_own w.heap.size (w.heap.size + 1 + 1 + 1) 40 9 1 (fun pre => (dwO pre).length) (fun pre => strs (dwO pre)) (fun _ _ => True)) _) (OwnFrom.and (Own.from (boxed_own (w.heap.size + 1 + 1 + 1 + 1) 3 (fun pre => .int .i64 (dwB pre))) _) (OwnFrom.and (Own.from (boxed_own (w.heap.size) 40 (fun _ => .slice none 0 0)) _) (OwnFrom.and (Own.from (boxed_own (w.heap.size + 1) 3 (fun _ => .int .i64 0)) _) (OwnFrom.and (Own.from (boxed_own (w.heap.size + 1 + 1) 26 (fun _ => .int .i64 0)) _) (ownFrom_below (Nat.le_refl _) (by omega)))))))
    (fun _ _ _ _ _ hs _ _ => hs)
    ⟨⟨_, hb3, World.ownsRow_nil _ _ _ _, trivial⟩, hb4, hb0, hb1, hb2, hBL⟩
    (fun x => { tmps := #[.string s, undef, .pointer (some ⟨w.heap.size, 0, none⟩), .pointer (some ⟨w.heap.size + 1, 0, none⟩), .pointer (some ⟨w.heap.size + 1 + 1, 0, none⟩), .int .i64 0, .pointer (some ⟨w.heap.size + 1 + 1 + 1, 0, none⟩), .pointer (some ⟨w.heap.size + 1 + 1 + 1 + 1, 0, none⟩), .string x.1, undef, undef, .string s, .int .i64 0, .int .i64 0, .bool false, undef, .string s, .func (.func 81) #[] #[.pointer (some ⟨w.heap.size + 1 + 1 + 1 + 1 + 1, 0, none⟩)], .string x.1, undef, undef, undef, undef, undef, undef, undef, undef, undef, undef, undef, undef, undef, undef, undef, undef, undef, undef], defers := [] }) ?assign ?body ?done ?stop
  case assign =>
    intro l x W K hK
    gi_wp2
    exact hK
  case body =>
    rintro l pre x W ⟨⟨v, hv, hrow, _⟩, hw, hr0, hr1, hr2, hB⟩ hlt
    have hpl : (dwO pre).length ≤ pre.length := List.length_filterMap_le _ _
    have hpb : dwB pre ≤ pre.length := List.length_filter_le _ _
    have hx2 := x.2
    rcases hu : ust5 x.1.data.toList with _ | z
    · have HU1 : Hid (ustO 49 48 5 x.1.data.toList = []) := Lib.hid (by have h := hu; unfold ust5 at h; rw [ustO, h]; rfl)
      have HU2 : Hid (ustB 49 48 5 x.1.data.toList = false) := Lib.hid (by have h := hu; unfold ust5 at h; rw [ustB, h]; rfl)
      have HO := Lib.hid (dwO_none pre x hu)
      have HBB := Lib.hid (dwB_none pre x hu)
      clear hu
      gi_wp2_with (refine ⟨trivial, ?_⟩; gi_at_call 58; refine (CallsIn.inRound l (callsIn_wide.2 (unstuffed_any 49 48 5 x.1 _ (by omega) (by omega) (by omega)))).mono ?_; rintro e W1 ⟨rfl, hb1⟩; rw [HU1.out, HU2.out]; have hw1 := hw.kept (grown_of_below hb1 none) (by simp); have hwc := hw1.cell; have hwf := hw1.frozen)
      have hv1 := hv.kept (grown_of_below hb1 none) (by simp)
      have hrow1 := rowB hrow hb1
      have r0 := hr0.kept (grown_of_below hb1 none) (by simp)
      have r1 := hr1.kept (grown_of_below hb1 none) (by simp)
      have r2 := hr2.kept (grown_of_below hb1 none) (by simp)
      have hbH : Below w.heap.size W W1 := hb1.mono hB.size
      have hne := hw1.not_row (by decide) hrow1
      exact ⟨((keeps_below hb1).trans (KeepsOthers.setCell _ _ _)).from _, hbH.setCell (p := ⟨w.heap.size + 1 + 1 + 1 + 1, 0, none⟩) (by simp only; omega) _, ⟨v, hv1.other (by omega) _, by rw [HO.out]; exact hrow1.kept (grownBy_setCell' W1 _ _) (.inr hne.symm), trivial⟩, by rw [HBB.out]; exact hw1.set _, r0.other (by omega) _, r1.other (by omega) _, r2.other (by omega) _, (hB.trans hbH).setCell (p := ⟨w.heap.size + 1 + 1 + 1 + 1, 0, none⟩) (by simp only; omega) _⟩
    · have HU1 : Hid (ustO 49 48 5 x.1.data.toList = z) := Lib.hid (by have h := hu; unfold ust5 at h; rw [ustO, h]; rfl)
      have HU2 : Hid (ustB 49 48 5 x.1.data.toList = true) := Lib.hid (by have h := hu; unfold ust5 at h; rw [ustB, h]; rfl)
      have HO := Lib.hid (dwO_some pre x z hu)
      have HBB := Lib.hid (dwB_some pre x z hu)
      clear hu
      have hBs := hB.size
      gi_wp2_with (first | (refine ⟨trivial, ?_⟩; gi_at_call 58; refine (CallsIn.inRound l (callsIn_wide.2 (unstuffed_any 49 48 5 x.1 _ (by omega) (by omega) (by omega)))).mono ?_; rintro e W1 ⟨rfl, hb1⟩; rw [HU1.out, HU2.out]; have hz1 := hb1.size; have hv1 := hv.kept (grown_of_below hb1 none) (by simp); have hc1 := hv1.cell; have hrow1 := rowB hrow hb1) | (gi_at_builtin; refine wpListIn_append_own _ rfl _ _ 40 rfl w.heap.size 9 i0 (.string ⟨#[]⟩) 1 16 Tryd.underlying40 hi hz0 hzc hz2 rfl (by decide) _ _ _ rfl (hrow1.alloc _) ⟨W1.heap.size, 0, none⟩ 1 1 [.string ⟨z.toArray⟩] rfl rfl (cell_one_new _ _ _) (by simp [Value.oneCell']) (by unfold maxLen; omega) (by omega) (by simp; omega) ?_; intro v' w2 hown' hgrow _; obtain ⟨g', cap', rfl⟩ := ownsRow_succ hown'; obtain ⟨hv3, hv2, hr2', hk2, hb2⟩ := hv1.appended (by decide) hrow1 (by omega) (by omega) hown' hgrow; have hc3 := hv3.cell; have hf3 := hv3.frozen; have hc4 := hv2.cell))
      have hbH : Below w.heap.size W W1 := hb1.mono hB.size
      have hw1 := hw.kept (grown_of_below hb1 none) (by simp)
      have hw1' := (hw1.alloc _).kept hgrow (hw1.not_row (by decide) hrow1)
      have r0 := hr0.kept (grown_of_below hb1 none) (by simp)
      have r0' := (r0.alloc _).kept hgrow (r0.not_row (by decide) hrow1)
      have r1 := hr1.kept (grown_of_below hb1 none) (by simp)
      have r1' := (r1.alloc _).kept hgrow (r1.not_row (by decide) hrow1)
      have r2 := hr2.kept (grown_of_below hb1 none) (by simp)
      have r2' := (r2.alloc _).kept hgrow (r2.not_row (by decide) hrow1)
      exact ⟨((keeps_below hb1).trans hk2).from _, hbH.trans hb2, ⟨_, hv2, by rw [HO.out]; simpa [strs] using hr2', trivial⟩, by rw [HBB.out]; exact hw1'.other (by omega) _, r0'.other (by omega) _, r1'.other (by omega) _, r2'.other (by omega) _, (hB.trans hbH).trans hb2⟩
  case done =>
    rintro D ys W hD rfl ⟨⟨v, hv, hrow, _⟩, hw, hr0, hr1, hr2, hB⟩ hK
    obtain ⟨ao, n', cap, rfl⟩ : ∃ ao n' cap, v = .slice ao n' cap := by
      rcases hrow.2 with ⟨hv', _⟩ | ⟨g, cap, cur, hv', _⟩
      · exact ⟨_, _, _, hv'⟩
      · exact ⟨_, _, _, hv'⟩
    have c0 := hv.cell
    have c1 := hw.cell
    have c2 := hr0.cell
    have c3 := hr1.cell
    have c4 := hr2.cell
    have f2 := hr0.frozen
    have f3 := hr1.frozen
    have f4 := hr2.frozen
    gi_wp2
    gi_region
    all_goals gi_wp2
    have x0 : Boxed ((((W.setCell ⟨w.heap.size, 0, none⟩ (.slice ao n' cap)).setCell ⟨w.heap.size + 1, 0, none⟩ (.int .i64 (dwB (bas (stL s.data.toList))))).setCell ⟨w.heap.size + 1 + 1, 0, none⟩ (.int .i64 0)).drew) (w.heap.size) 40 (.slice ao n' cap) := ((hr0.set _).other (by omega) _).other (by omega) _
    have x1 : Boxed ((((W.setCell ⟨w.heap.size, 0, none⟩ (.slice ao n' cap)).setCell ⟨w.heap.size + 1, 0, none⟩ (.int .i64 (dwB (bas (stL s.data.toList))))).setCell ⟨w.heap.size + 1 + 1, 0, none⟩ (.int .i64 0)).drew) (w.heap.size + 1) 3 (.int .i64 (dwB (bas (stL s.data.toList)))) := ((hr1.other (by omega) _).set _).other (by omega) _
    have x2 : Boxed ((((W.setCell ⟨w.heap.size, 0, none⟩ (.slice ao n' cap)).setCell ⟨w.heap.size + 1, 0, none⟩ (.int .i64 (dwB (bas (stL s.data.toList))))).setCell ⟨w.heap.size + 1 + 1, 0, none⟩ (.int .i64 0)).drew) (w.heap.size + 1 + 1) 26 (.int .i64 0) := ((hr2.other (by omega) _).other (by omega) _).set _
    have hrF : ((((W.setCell ⟨w.heap.size, 0, none⟩ (.slice ao n' cap)).setCell ⟨w.heap.size + 1, 0, none⟩ (.int .i64 (dwB (bas (stL s.data.toList))))).setCell ⟨w.heap.size + 1 + 1, 0, none⟩ (.int .i64 0)).drew).ownsRow w.heap.size 9 1 (.slice ao n' cap) (dwO (bas (stL s.data.toList))).length (strs (dwO (bas (stL s.data.toList)))) := by
      have q0 := hrow.kept (grownBy_setCell' W (w.heap.size) (.slice ao n' cap)) (.inr (hr0.not_row (by decide) hrow).symm)
      have q1 := q0.kept (grownBy_setCell' _ (w.heap.size + 1) (.int .i64 (dwB (bas (stL s.data.toList))))) (.inr (hr1.not_row (by decide) hrow).symm)
      have q2 := q1.kept (grownBy_setCell' _ (w.heap.size + 1 + 1) (.int .i64 0)) (.inr (hr2.not_row (by decide) hrow).symm)
      exact q2
    have hBF : Below w.heap.size w ((((W.setCell ⟨w.heap.size, 0, none⟩ (.slice ao n' cap)).setCell ⟨w.heap.size + 1, 0, none⟩ (.int .i64 (dwB (bas (stL s.data.toList))))).setCell ⟨w.heap.size + 1 + 1, 0, none⟩ (.int .i64 0)).drew) := (((hB.setCell (p := ⟨w.heap.size, 0, none⟩) (Nat.le_refl _) _).setCell (p := ⟨w.heap.size + 1, 0, none⟩) (by simp only; omega) _).setCell (p := ⟨w.heap.size + 1 + 1, 0, none⟩) (by simp only; omega) _).drew
    have hK' : ((((W.setCell ⟨w.heap.size, 0, none⟩ (.slice ao n' cap)).setCell ⟨w.heap.size + 1, 0, none⟩ (.int .i64 (dwB (bas (stL s.data.toList))))).setCell ⟨w.heap.size + 1 + 1, 0, none⟩ (.int .i64 0)).drew).heap[D]? = some (.deferred (some [])) := ((((KeepsOthers.setCell W _ _).trans (KeepsOthers.setCell _ _ _)).trans (KeepsOthers.setCell _ _ _)).trans (KeepsOthers.drew _)).same D _ hK rfl
    refine ⟨by simp, .inl ⟨_, _, rfl, run_takeDeferred hK', ?_⟩⟩
    have y0 := cell_kept x0.cell (grownBy_putObj' _ D (.deferred none)) (fun r e => by cases e; exact ⟨_, hK', rfl⟩)
    have y1 := cell_kept x1.cell (grownBy_putObj' _ D (.deferred none)) (fun r e => by cases e; exact ⟨_, hK', rfl⟩)
    have y2 := cell_kept x2.cell (grownBy_putObj' _ D (.deferred none)) (fun r e => by cases e; exact ⟨_, hK', rfl⟩)
    refine ⟨.tuple #[.slice ao n' cap, .int .i64 (dwB (bas (stL s.data.toList))), .int .i64 0], ?_, _, rfl, ownsRow_putObj hrF _ hK' rfl, hBF.trans (belowK_b (w := w) (Nat.le_refl _) _ D _ _ (by omega) hK' rfl rfl)⟩
    simp [results, Tryd.f38, go_sem, y0, y1, y2]
  case stop =>
    rintro D c pre W _ _ h _
    exact h.elim
  --END
end Go.Proofs.YtdalcopbaaabiaaDoor
