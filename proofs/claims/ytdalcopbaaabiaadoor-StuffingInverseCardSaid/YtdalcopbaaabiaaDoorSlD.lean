/-
  The law of stuffing there and back.
-/
import Derived.Test.YtdalcopbaaabiaaDoorStK
import Derived.Test.YtdalcopbaaabiaaDoorSlA
import Derived.Laws.EntriesVeiled
namespace Go.Proofs.YtdalcopbaaabiaaDoor
open Go.RowKit

theorem cellB {x y : World} {b : Nat} {T : TypeId} {v : Value} (hb : Below x.heap.size x y) (h : Row x b T [v]) : y.cell? ⟨b, 0, none⟩ = some v := (h.below hb h.lt).cell 0

set_option maxHeartbeats 400000 in
theorem inv1_any (s : ByteArray) (bb : Nat) (B : Nat) (w : World) (c0 : w.cell? ⟨bb, 0, none⟩ = some (.int .i64 B)) :
    Calls Tryd.prog 29 #[.string s, .pointer (some ⟨bb, 0, none⟩)] w fun e w' => e = .returned (.tuple #[.string ⟨(stO B s.data.toList).toArray⟩, .int .i64 (stE B s.data.toList)]) ∧ Below w.heap.size w w' := by
  go_enter Tryd.func29, Tryd.ntmps29
  go_wp2_with fail
  refine (Stuff_any _ s w).mono ?_
  rintro e w2 ⟨rfl, hb⟩
  have HB := Lib.hid hb; clear hb
  go_wp2_with fail
  go_ret2
  exact ⟨rfl, HB.out⟩

set_option maxHeartbeats 400000 in
theorem inv2_any (s : ByteArray) (bb : Nat) (B : Nat) (w : World) (c0 : w.cell? ⟨bb, 0, none⟩ = some (.int .i64 B)) :
    Calls Tryd.prog 30 #[.string s, .pointer (some ⟨bb, 0, none⟩)] w fun e w' => e = .returned (.tuple #[.string ⟨(usO B s.data.toList).toArray⟩, .int .i64 (usE B s.data.toList)]) ∧ Below w.heap.size w w' := by
  go_enter Tryd.func30, Tryd.ntmps30
  go_wp2_with fail
  refine (Unstuff_any _ s w).mono ?_
  rintro e w2 ⟨rfl, hb⟩
  have HB := Lib.hid hb; clear hb
  go_wp2_with fail
  go_ret2
  exact ⟨rfl, HB.out⟩

set_option maxHeartbeats 400000 in
theorem inv3_any (s : ByteArray) (ba : Nat) (A : Nat) (w : World) (hmx : Mx w) (c0 : w.cell? ⟨ba, 0, none⟩ = some (.int .i64 A)) :
    Calls Tryd.prog 31 #[.string s, .pointer (some ⟨ba, 0, none⟩)] w fun e w' => e = .returned (.tuple #[.string ⟨(pdO A s.data.toList).toArray⟩, .int .i64 (pdE A s.data.toList)]) ∧ Below w.heap.size w w' := by
  go_enter Tryd.func31, Tryd.ntmps31
  go_wp2_with fail
  refine (Pad_any _ s w hmx).mono ?_
  rintro e w2 ⟨rfl, hb⟩
  have HB := Lib.hid hb; clear hb
  go_wp2_with fail
  go_ret2
  exact ⟨rfl, HB.out⟩

set_option maxHeartbeats 400000 in
theorem inv4_any (s : ByteArray) (ba : Nat) (A : Nat) (w : World) (c0 : w.cell? ⟨ba, 0, none⟩ = some (.int .i64 A)) :
    Calls Tryd.prog 32 #[.string s, .pointer (some ⟨ba, 0, none⟩)] w fun e w' => e = .returned (.tuple #[.string ⟨(upO A s.data.toList).toArray⟩, .int .i64 (upE A s.data.toList)]) ∧ Below w.heap.size w w' := by
  go_enter Tryd.func32, Tryd.ntmps32
  go_wp2_with fail
  refine (Unpad_any _ s w).mono ?_
  rintro e w2 ⟨rfl, hb⟩
  have HB := Lib.hid hb; clear hb
  go_wp2_with fail
  go_ret2
  exact ⟨rfl, HB.out⟩

set_option maxHeartbeats 400000 in
theorem inv5_any (s : ByteArray) (ba bb : Nat) (A B : Nat) (w : World) (hmx : Mx w) (c0 : w.cell? ⟨ba, 0, none⟩ = some (.int .i64 A)) (c1 : w.cell? ⟨bb, 0, none⟩ = some (.int .i64 B)) :
    Calls Tryd.prog 33 #[.string s, .pointer (some ⟨ba, 0, none⟩), .pointer (some ⟨bb, 0, none⟩)] w fun e w' => e = .returned (.tuple #[.string ⟨(boO A B s.data.toList).toArray⟩, .int .i64 (boE A B s.data.toList)]) ∧ Below w.heap.size w w' := by
  go_enter Tryd.func33, Tryd.ntmps33
  go_wp2_with fail
  refine (Both_any _ _ s w hmx).mono ?_
  rintro e w2 ⟨rfl, hb⟩
  have HB := Lib.hid hb; clear hb
  go_wp2_with fail
  go_ret2
  exact ⟨rfl, HB.out⟩

set_option maxHeartbeats 400000 in
theorem inv6_any (s : ByteArray) (ba bb : Nat) (A B : Nat) (w : World) (c0 : w.cell? ⟨ba, 0, none⟩ = some (.int .i64 A)) (c1 : w.cell? ⟨bb, 0, none⟩ = some (.int .i64 B)) :
    Calls Tryd.prog 34 #[.string s, .pointer (some ⟨ba, 0, none⟩), .pointer (some ⟨bb, 0, none⟩)] w fun e w' => e = .returned (.tuple #[.string ⟨(ubO A B s.data.toList).toArray⟩, .int .i64 (ubE A B s.data.toList)]) ∧ Below w.heap.size w w' := by
  go_enter Tryd.func34, Tryd.ntmps34
  go_wp2_with fail
  refine (Unboth_any _ _ s w).mono ?_
  rintro e w2 ⟨rfl, hb⟩
  have HB := Lib.hid hb; clear hb
  go_wp2_with fail
  go_ret2
  exact ⟨rfl, HB.out⟩

set_option maxHeartbeats 4000000 in
set_option maxRecDepth 100000 in
theorem law_stuffingInverse (a0 a1 : Int) (s : ByteArray) (w0 : (Lit.int .u8 a0).wf = true) (w1 : (Lit.int .u8 a1).wf = true) (_w2 : s.size ≤ maxLen) (w : World) (hsh : w.ShapedOpen Tryd.prog) :
    Calls Tryd.prog 6 #[.int .u8 a0, .int .u8 a1, .string s] w fun e w' => e = .returned (.bool true) ∧ Below w.heap.size w w' := by
  have hmf : ∀ fn first cap w, (Instr.makeFunc fn first cap).run Tryd.prog w = .ok (.func fn first cap) w := fun _ _ _ _ => rfl
  have HMX := Lib.hid (mx_of hsh); clear hsh
  have HW0 := Lib.hid w0
  have HW1 := Lib.hid w1
  clear w0 w1
  by_cases hbin : binT s.data.toList = true
  · obtain ⟨hl, hall⟩ : s.size ≤ 60 ∧ s.data.toList.all isB = true := by
      simp only [binT, Bool.and_eq_true, decide_eq_true_eq] at hbin
      exact ⟨hbin.1, ((chk2_iff _).1 hbin.2).2⟩
    have HB := Lib.hid hbin
    have HA := Lib.hid hall; clear hbin hall
    go_enter Tryd.func6, Tryd.ntmps6
    go_wp2_with fail
    refine (binary_any _ _).mono ?_
    rintro e x1 ⟨rfl, h1⟩
    rw [HB.out]
    have HM1 := Lib.hid (HMX.out.below h1 (Nat.le_refl _))
    have H1 := Lib.hid h1; clear h1
    go_wp2_with fail
    refine (numbers_any _ _ HW0.out HW1.out _).mono ?_
    rintro e x2 ⟨⟨A, B, hAB, hB, rfl⟩, rfl⟩
    go_wp2_with fail
    have hr1 := ((row_new x1 3 [.int .i64 (A : Int)]).alloc (.cells #[.int .i64 (B : Int)] 3)).alloc (.cells #[.func (.func 29) #[] #[.pointer (some ⟨x1.heap.size + 1, 0, none⟩)], .func (.func 30) #[] #[.pointer (some ⟨x1.heap.size + 1, 0, none⟩)], .func (.func 31) #[] #[.pointer (some ⟨x1.heap.size, 0, none⟩)], .func (.func 32) #[] #[.pointer (some ⟨x1.heap.size, 0, none⟩)], .func (.func 33) #[] #[.pointer (some ⟨x1.heap.size, 0, none⟩), .pointer (some ⟨x1.heap.size + 1, 0, none⟩)], .func (.func 34) #[] #[.pointer (some ⟨x1.heap.size, 0, none⟩), .pointer (some ⟨x1.heap.size + 1, 0, none⟩)]] 38)
    have hr2 := (row_new (x1.alloc (.cells #[.int .i64 (A : Int)] 3)) 3 [.int .i64 (B : Int)]).alloc (.cells #[.func (.func 29) #[] #[.pointer (some ⟨x1.heap.size + 1, 0, none⟩)], .func (.func 30) #[] #[.pointer (some ⟨x1.heap.size + 1, 0, none⟩)], .func (.func 31) #[] #[.pointer (some ⟨x1.heap.size, 0, none⟩)], .func (.func 32) #[] #[.pointer (some ⟨x1.heap.size, 0, none⟩)], .func (.func 33) #[] #[.pointer (some ⟨x1.heap.size, 0, none⟩), .pointer (some ⟨x1.heap.size + 1, 0, none⟩)], .func (.func 34) #[] #[.pointer (some ⟨x1.heap.size, 0, none⟩), .pointer (some ⟨x1.heap.size + 1, 0, none⟩)]] 38)
    have hr3 := row_new ((x1.alloc (.cells #[.int .i64 (A : Int)] 3)).alloc (.cells #[.int .i64 (B : Int)] 3)) 38 [.func (.func 29) #[] #[.pointer (some ⟨x1.heap.size + 1, 0, none⟩)], .func (.func 30) #[] #[.pointer (some ⟨x1.heap.size + 1, 0, none⟩)], .func (.func 31) #[] #[.pointer (some ⟨x1.heap.size, 0, none⟩)], .func (.func 32) #[] #[.pointer (some ⟨x1.heap.size, 0, none⟩)], .func (.func 33) #[] #[.pointer (some ⟨x1.heap.size, 0, none⟩), .pointer (some ⟨x1.heap.size + 1, 0, none⟩)], .func (.func 34) #[] #[.pointer (some ⟨x1.heap.size, 0, none⟩), .pointer (some ⟨x1.heap.size + 1, 0, none⟩)]]
    have hlb := (((Below.refl x1.heap.size x1).alloc (Nat.le_refl _) (.cells #[.int .i64 (A : Int)] 3)).alloc (by simp) (.cells #[.int .i64 (B : Int)] 3)).alloc (by simp; omega) (.cells #[.func (.func 29) #[] #[.pointer (some ⟨x1.heap.size + 1, 0, none⟩)], .func (.func 30) #[] #[.pointer (some ⟨x1.heap.size + 1, 0, none⟩)], .func (.func 31) #[] #[.pointer (some ⟨x1.heap.size, 0, none⟩)], .func (.func 32) #[] #[.pointer (some ⟨x1.heap.size, 0, none⟩)], .func (.func 33) #[] #[.pointer (some ⟨x1.heap.size, 0, none⟩), .pointer (some ⟨x1.heap.size + 1, 0, none⟩)], .func (.func 34) #[] #[.pointer (some ⟨x1.heap.size, 0, none⟩), .pointer (some ⟨x1.heap.size + 1, 0, none⟩)]] 38)
    obtain ⟨x2, hx2⟩ : ∃ x2, ((x1.alloc (.cells #[.int .i64 (A : Int)] 3)).alloc (.cells #[.int .i64 (B : Int)] 3)).alloc (.cells #[.func (.func 29) #[] #[.pointer (some ⟨x1.heap.size + 1, 0, none⟩)], .func (.func 30) #[] #[.pointer (some ⟨x1.heap.size + 1, 0, none⟩)], .func (.func 31) #[] #[.pointer (some ⟨x1.heap.size, 0, none⟩)], .func (.func 32) #[] #[.pointer (some ⟨x1.heap.size, 0, none⟩)], .func (.func 33) #[] #[.pointer (some ⟨x1.heap.size, 0, none⟩), .pointer (some ⟨x1.heap.size + 1, 0, none⟩)], .func (.func 34) #[] #[.pointer (some ⟨x1.heap.size, 0, none⟩), .pointer (some ⟨x1.heap.size + 1, 0, none⟩)]] 38) = x2 := ⟨_, rfl⟩
    simp only [World.size_alloc] at hr1 hr2 hr3 hlb hx2
    rw [hx2]
    have HR1 : Hid (Row x2 (x1.heap.size) 3 [.int .i64 (A : Int)]) := Lib.hid (by rw [← hx2]; exact hr1)
    have HR2 : Hid (Row x2 (x1.heap.size + 1) 3 [.int .i64 (B : Int)]) := Lib.hid (by rw [← hx2]; exact hr2)
    have HR3 : Hid (Row x2 (x1.heap.size + 1 + 1) 38 [.func (.func 29) #[] #[.pointer (some ⟨x1.heap.size + 1, 0, none⟩)], .func (.func 30) #[] #[.pointer (some ⟨x1.heap.size + 1, 0, none⟩)], .func (.func 31) #[] #[.pointer (some ⟨x1.heap.size, 0, none⟩)], .func (.func 32) #[] #[.pointer (some ⟨x1.heap.size, 0, none⟩)], .func (.func 33) #[] #[.pointer (some ⟨x1.heap.size, 0, none⟩), .pointer (some ⟨x1.heap.size + 1, 0, none⟩)], .func (.func 34) #[] #[.pointer (some ⟨x1.heap.size, 0, none⟩), .pointer (some ⟨x1.heap.size + 1, 0, none⟩)]]) := Lib.hid (by rw [← hx2]; exact hr3)
    have HLB : Hid (Below x1.heap.size x1 x2) := Lib.hid (by rw [← hx2]; exact hlb)
    have hbl : x1.heap.size + 1 + 1 < x2.heap.size := HR3.out.lt
    clear hr1 hr2 hr3 hlb hx2
    have HB2 := Lib.hid (H1.out.trans (HLB.out.mono H1.out.size))
    have HM2 := Lib.hid (HM1.out.below HLB.out (Nat.le_refl _))
    have e0 : s.data.toList.length = s.size := rfl
    have P1 := Lib.hid (pair_st (B := B) (l := s.data.toList) (by omega) hB hl HA.out)
    have P2 := Lib.hid (pair_pd (A := A) (l := s.data.toList) (by omega) hl HA.out)
    have P3 := Lib.hid (pair_bo (A := A) (B := B) (l := s.data.toList) hAB hB hl HA.out)
    clear e0
    go_loopw [40] (fun i wr => ∃ j : Nat, j ≤ 3 ∧ i = .int .i64 j ∧ Below x2.heap.size x2 wr) (fun i _ => 3 - (intOf i).toNat)
    case atStart => exact ⟨0, by omega, rfl, Below.refl _ _⟩
    case round =>
      obtain ⟨j, hj, rfl, hbw⟩ := hrel
      have HBW := Lib.hid hbw; clear hbw
      have HSZ := Lib.hid HBW.out.size
      rcases (show j = 0 ∨ j = 1 ∨ j = 2 ∨ j = 3 by omega) with rfl | rfl | rfl | rfl
      · have c0 : wr.cell? ⟨x1.heap.size + 1 + 1, 0, none⟩ = some (.func (.func 29) #[] #[.pointer (some ⟨x1.heap.size + 1, 0, none⟩)]) := (HR3.out.below HBW.out hbl).cell 0
        have c1 : wr.cell? ⟨x1.heap.size + 1 + 1, 1, none⟩ = some (.func (.func 30) #[] #[.pointer (some ⟨x1.heap.size + 1, 0, none⟩)]) := (HR3.out.below HBW.out hbl).cell 1
        have HZ := Lib.hid (HBW.out.alloc HBW.out.size (.cells #[.func (.func 29) #[] #[.pointer (some ⟨x1.heap.size + 1, 0, none⟩)], .func (.func 30) #[] #[.pointer (some ⟨x1.heap.size + 1, 0, none⟩)]] 38))
        have HT0 := Lib.hid (row_new wr 38 [.func (.func 29) #[] #[.pointer (some ⟨x1.heap.size + 1, 0, none⟩)], .func (.func 30) #[] #[.pointer (some ⟨x1.heap.size + 1, 0, none⟩)]])
        obtain ⟨X, hX⟩ : ∃ X, stO B s.data.toList = X := ⟨_, rfl⟩
        obtain ⟨Z, hZ⟩ : ∃ Z, usO B s.data.toList = Z := ⟨_, rfl⟩
        have F1 := Lib.hid (show stE B s.data.toList = 0 from P1.out.go)
        have F2 := Lib.hid (show (usO B X, usE B X) = (s.data.toList, 0) by rw [← hX]; exact P1.out.back)
        have F2a := Lib.hid (show usO B X = s.data.toList from congrArg Prod.fst F2.out)
        have F2b := Lib.hid (show usE B X = 0 from congrArg Prod.snd F2.out)
        have F3 : (usE B s.data.toList = 0 ∧ (stO B Z, stE B Z) = (s.data.toList, 0)) ∨ (usE B s.data.toList = 13 ∧ Z = []) := by rw [← hZ]; exact P1.out.other
        have HX := Lib.hid hX; clear hX
        have HZZ := Lib.hid hZ; clear hZ
        rcases F3 with ⟨g0, g1⟩ | ⟨g0, g1⟩
        · have G0 := Lib.hid g0
          have G1 := Lib.hid (show stO B Z = s.data.toList from congrArg Prod.fst g1)
          have G2 := Lib.hid (show stE B Z = 0 from congrArg Prod.snd g1)
          clear g0 g1
          go_wp2_with fail
          refine (inv1_any s _ B _ (cellB HZ.out HR2.out)).mono ?_
          rintro e y1 ⟨rfl, hb⟩
          rw [F1.out, HX.out]
          have B1 := Lib.hid (HZ.out.trans (hb.mono HZ.out.size))
          have HT1 := Lib.hid (HT0.out.below hb HT0.out.lt); clear hb
          have d1 : y1.cell? ⟨wr.heap.size, 1, none⟩ = some (.func (.func 30) #[] #[.pointer (some ⟨x1.heap.size + 1, 0, none⟩)]) := HT1.out.cell 1
          go_wp2_with fail
          refine (inv2_any ⟨X.toArray⟩ _ B _ (cellB B1.out HR2.out)).mono ?_
          rintro e y2 ⟨rfl, hb⟩
          rw [show usO B (⟨X.toArray⟩ : ByteArray).data.toList = s.data.toList from F2a.out, show usE B (⟨X.toArray⟩ : ByteArray).data.toList = 0 from F2b.out, show (⟨s.data.toList.toArray⟩ : ByteArray) = s from by simp]
          have B2 := Lib.hid (B1.out.trans (hb.mono B1.out.size))
          have HT2 := Lib.hid (HT1.out.below hb HT1.out.lt); clear hb d1
          have d2 : y2.cell? ⟨wr.heap.size, 1, none⟩ = some (.func (.func 30) #[] #[.pointer (some ⟨x1.heap.size + 1, 0, none⟩)]) := HT2.out.cell 1
          go_wp2_with fail
          refine (inv2_any s _ B _ (cellB B2.out HR2.out)).mono ?_
          rintro e y3 ⟨rfl, hb⟩
          rw [G0.out, HZZ.out]
          have B3 := Lib.hid (B2.out.trans (hb.mono B2.out.size))
          have HT3 := Lib.hid (HT2.out.below hb HT2.out.lt); clear hb d2
          have d3 : y3.cell? ⟨wr.heap.size, 0, none⟩ = some (.func (.func 29) #[] #[.pointer (some ⟨x1.heap.size + 1, 0, none⟩)]) := HT3.out.cell 0
          go_wp2_with fail
          refine (inv1_any ⟨Z.toArray⟩ _ B _ (cellB B3.out HR2.out)).mono ?_
          rintro e y4 ⟨rfl, hb⟩
          rw [show stO B (⟨Z.toArray⟩ : ByteArray).data.toList = s.data.toList from G1.out, show stE B (⟨Z.toArray⟩ : ByteArray).data.toList = 0 from G2.out, show (⟨s.data.toList.toArray⟩ : ByteArray) = s from by simp]
          have B4 := Lib.hid (B3.out.trans (hb.mono B3.out.size)); clear hb
          go_wp2_with fail
          go_roundw
          case rel => exact ⟨1, by omega, by go_num, B4.out⟩
          case measure => simp [intOf]
        · have G0 := Lib.hid g0
          have G1 := Lib.hid g1
          clear g0 g1
          go_wp2_with fail
          refine (inv1_any s _ B _ (cellB HZ.out HR2.out)).mono ?_
          rintro e y1 ⟨rfl, hb⟩
          rw [F1.out, HX.out]
          have B1 := Lib.hid (HZ.out.trans (hb.mono HZ.out.size))
          have HT1 := Lib.hid (HT0.out.below hb HT0.out.lt); clear hb
          have d1 : y1.cell? ⟨wr.heap.size, 1, none⟩ = some (.func (.func 30) #[] #[.pointer (some ⟨x1.heap.size + 1, 0, none⟩)]) := HT1.out.cell 1
          go_wp2_with fail
          refine (inv2_any ⟨X.toArray⟩ _ B _ (cellB B1.out HR2.out)).mono ?_
          rintro e y2 ⟨rfl, hb⟩
          rw [show usO B (⟨X.toArray⟩ : ByteArray).data.toList = s.data.toList from F2a.out, show usE B (⟨X.toArray⟩ : ByteArray).data.toList = 0 from F2b.out, show (⟨s.data.toList.toArray⟩ : ByteArray) = s from by simp]
          have B2 := Lib.hid (B1.out.trans (hb.mono B1.out.size))
          have HT2 := Lib.hid (HT1.out.below hb HT1.out.lt); clear hb d1
          have d2 : y2.cell? ⟨wr.heap.size, 1, none⟩ = some (.func (.func 30) #[] #[.pointer (some ⟨x1.heap.size + 1, 0, none⟩)]) := HT2.out.cell 1
          go_wp2_with fail
          refine (inv2_any s _ B _ (cellB B2.out HR2.out)).mono ?_
          rintro e y3 ⟨rfl, hb⟩
          rw [G0.out, HZZ.out]
          have B3 := Lib.hid (B2.out.trans (hb.mono B2.out.size))
          have HT3 := Lib.hid (HT2.out.below hb HT2.out.lt); clear hb d2
          rw [G1.out]
          go_wp2_with fail
          go_roundw
          case rel => exact ⟨1, by omega, by go_num, B3.out⟩
          case measure => simp [intOf]
      · have c0 : wr.cell? ⟨x1.heap.size + 1 + 1, 2, none⟩ = some (.func (.func 31) #[] #[.pointer (some ⟨x1.heap.size, 0, none⟩)]) := (HR3.out.below HBW.out hbl).cell 2
        have c1 : wr.cell? ⟨x1.heap.size + 1 + 1, 3, none⟩ = some (.func (.func 32) #[] #[.pointer (some ⟨x1.heap.size, 0, none⟩)]) := (HR3.out.below HBW.out hbl).cell 3
        have HZ := Lib.hid (HBW.out.alloc HBW.out.size (.cells #[.func (.func 31) #[] #[.pointer (some ⟨x1.heap.size, 0, none⟩)], .func (.func 32) #[] #[.pointer (some ⟨x1.heap.size, 0, none⟩)]] 38))
        have HT0 := Lib.hid (row_new wr 38 [.func (.func 31) #[] #[.pointer (some ⟨x1.heap.size, 0, none⟩)], .func (.func 32) #[] #[.pointer (some ⟨x1.heap.size, 0, none⟩)]])
        obtain ⟨X, hX⟩ : ∃ X, pdO A s.data.toList = X := ⟨_, rfl⟩
        obtain ⟨Z, hZ⟩ : ∃ Z, upO A s.data.toList = Z := ⟨_, rfl⟩
        have F1 := Lib.hid (show pdE A s.data.toList = 0 from P2.out.go)
        have F2 := Lib.hid (show (upO A X, upE A X) = (s.data.toList, 0) by rw [← hX]; exact P2.out.back)
        have F2a := Lib.hid (show upO A X = s.data.toList from congrArg Prod.fst F2.out)
        have F2b := Lib.hid (show upE A X = 0 from congrArg Prod.snd F2.out)
        have F3 : (upE A s.data.toList = 0 ∧ (pdO A Z, pdE A Z) = (s.data.toList, 0)) ∨ (upE A s.data.toList = 13 ∧ Z = []) := by rw [← hZ]; exact P2.out.other
        have HX := Lib.hid hX; clear hX
        have HZZ := Lib.hid hZ; clear hZ
        rcases F3 with ⟨g0, g1⟩ | ⟨g0, g1⟩
        · have G0 := Lib.hid g0
          have G1 := Lib.hid (show pdO A Z = s.data.toList from congrArg Prod.fst g1)
          have G2 := Lib.hid (show pdE A Z = 0 from congrArg Prod.snd g1)
          clear g0 g1
          go_wp2_with fail
          refine (inv3_any s _ A _ (HM2.out.below HZ.out (Nat.le_refl _)) (cellB HZ.out HR1.out)).mono ?_
          rintro e y1 ⟨rfl, hb⟩
          rw [F1.out, HX.out]
          have B1 := Lib.hid (HZ.out.trans (hb.mono HZ.out.size))
          have HT1 := Lib.hid (HT0.out.below hb HT0.out.lt); clear hb
          have d1 : y1.cell? ⟨wr.heap.size, 1, none⟩ = some (.func (.func 32) #[] #[.pointer (some ⟨x1.heap.size, 0, none⟩)]) := HT1.out.cell 1
          go_wp2_with fail
          refine (inv4_any ⟨X.toArray⟩ _ A _ (cellB B1.out HR1.out)).mono ?_
          rintro e y2 ⟨rfl, hb⟩
          rw [show upO A (⟨X.toArray⟩ : ByteArray).data.toList = s.data.toList from F2a.out, show upE A (⟨X.toArray⟩ : ByteArray).data.toList = 0 from F2b.out, show (⟨s.data.toList.toArray⟩ : ByteArray) = s from by simp]
          have B2 := Lib.hid (B1.out.trans (hb.mono B1.out.size))
          have HT2 := Lib.hid (HT1.out.below hb HT1.out.lt); clear hb d1
          have d2 : y2.cell? ⟨wr.heap.size, 1, none⟩ = some (.func (.func 32) #[] #[.pointer (some ⟨x1.heap.size, 0, none⟩)]) := HT2.out.cell 1
          go_wp2_with fail
          refine (inv4_any s _ A _ (cellB B2.out HR1.out)).mono ?_
          rintro e y3 ⟨rfl, hb⟩
          rw [G0.out, HZZ.out]
          have B3 := Lib.hid (B2.out.trans (hb.mono B2.out.size))
          have HT3 := Lib.hid (HT2.out.below hb HT2.out.lt); clear hb d2
          have d3 : y3.cell? ⟨wr.heap.size, 0, none⟩ = some (.func (.func 31) #[] #[.pointer (some ⟨x1.heap.size, 0, none⟩)]) := HT3.out.cell 0
          go_wp2_with fail
          refine (inv3_any ⟨Z.toArray⟩ _ A _ (HM2.out.below B3.out (Nat.le_refl _)) (cellB B3.out HR1.out)).mono ?_
          rintro e y4 ⟨rfl, hb⟩
          rw [show pdO A (⟨Z.toArray⟩ : ByteArray).data.toList = s.data.toList from G1.out, show pdE A (⟨Z.toArray⟩ : ByteArray).data.toList = 0 from G2.out, show (⟨s.data.toList.toArray⟩ : ByteArray) = s from by simp]
          have B4 := Lib.hid (B3.out.trans (hb.mono B3.out.size)); clear hb
          go_wp2_with fail
          go_roundw
          case rel => exact ⟨2, by omega, by go_num, B4.out⟩
          case measure => simp [intOf]
        · have G0 := Lib.hid g0
          have G1 := Lib.hid g1
          clear g0 g1
          go_wp2_with fail
          refine (inv3_any s _ A _ (HM2.out.below HZ.out (Nat.le_refl _)) (cellB HZ.out HR1.out)).mono ?_
          rintro e y1 ⟨rfl, hb⟩
          rw [F1.out, HX.out]
          have B1 := Lib.hid (HZ.out.trans (hb.mono HZ.out.size))
          have HT1 := Lib.hid (HT0.out.below hb HT0.out.lt); clear hb
          have d1 : y1.cell? ⟨wr.heap.size, 1, none⟩ = some (.func (.func 32) #[] #[.pointer (some ⟨x1.heap.size, 0, none⟩)]) := HT1.out.cell 1
          go_wp2_with fail
          refine (inv4_any ⟨X.toArray⟩ _ A _ (cellB B1.out HR1.out)).mono ?_
          rintro e y2 ⟨rfl, hb⟩
          rw [show upO A (⟨X.toArray⟩ : ByteArray).data.toList = s.data.toList from F2a.out, show upE A (⟨X.toArray⟩ : ByteArray).data.toList = 0 from F2b.out, show (⟨s.data.toList.toArray⟩ : ByteArray) = s from by simp]
          have B2 := Lib.hid (B1.out.trans (hb.mono B1.out.size))
          have HT2 := Lib.hid (HT1.out.below hb HT1.out.lt); clear hb d1
          have d2 : y2.cell? ⟨wr.heap.size, 1, none⟩ = some (.func (.func 32) #[] #[.pointer (some ⟨x1.heap.size, 0, none⟩)]) := HT2.out.cell 1
          go_wp2_with fail
          refine (inv4_any s _ A _ (cellB B2.out HR1.out)).mono ?_
          rintro e y3 ⟨rfl, hb⟩
          rw [G0.out, HZZ.out]
          have B3 := Lib.hid (B2.out.trans (hb.mono B2.out.size))
          have HT3 := Lib.hid (HT2.out.below hb HT2.out.lt); clear hb d2
          rw [G1.out]
          go_wp2_with fail
          go_roundw
          case rel => exact ⟨2, by omega, by go_num, B3.out⟩
          case measure => simp [intOf]
      · have c0 : wr.cell? ⟨x1.heap.size + 1 + 1, 4, none⟩ = some (.func (.func 33) #[] #[.pointer (some ⟨x1.heap.size, 0, none⟩), .pointer (some ⟨x1.heap.size + 1, 0, none⟩)]) := (HR3.out.below HBW.out hbl).cell 4
        have c1 : wr.cell? ⟨x1.heap.size + 1 + 1, 5, none⟩ = some (.func (.func 34) #[] #[.pointer (some ⟨x1.heap.size, 0, none⟩), .pointer (some ⟨x1.heap.size + 1, 0, none⟩)]) := (HR3.out.below HBW.out hbl).cell 5
        have HZ := Lib.hid (HBW.out.alloc HBW.out.size (.cells #[.func (.func 33) #[] #[.pointer (some ⟨x1.heap.size, 0, none⟩), .pointer (some ⟨x1.heap.size + 1, 0, none⟩)], .func (.func 34) #[] #[.pointer (some ⟨x1.heap.size, 0, none⟩), .pointer (some ⟨x1.heap.size + 1, 0, none⟩)]] 38))
        have HT0 := Lib.hid (row_new wr 38 [.func (.func 33) #[] #[.pointer (some ⟨x1.heap.size, 0, none⟩), .pointer (some ⟨x1.heap.size + 1, 0, none⟩)], .func (.func 34) #[] #[.pointer (some ⟨x1.heap.size, 0, none⟩), .pointer (some ⟨x1.heap.size + 1, 0, none⟩)]])
        obtain ⟨X, hX⟩ : ∃ X, boO A B s.data.toList = X := ⟨_, rfl⟩
        obtain ⟨Z, hZ⟩ : ∃ Z, ubO A B s.data.toList = Z := ⟨_, rfl⟩
        have F1 := Lib.hid (show boE A B s.data.toList = 0 from P3.out.go)
        have F2 := Lib.hid (show (ubO A B X, ubE A B X) = (s.data.toList, 0) by rw [← hX]; exact P3.out.back)
        have F2a := Lib.hid (show ubO A B X = s.data.toList from congrArg Prod.fst F2.out)
        have F2b := Lib.hid (show ubE A B X = 0 from congrArg Prod.snd F2.out)
        have F3 : (ubE A B s.data.toList = 0 ∧ (boO A B Z, boE A B Z) = (s.data.toList, 0)) ∨ (ubE A B s.data.toList = 13 ∧ Z = []) := by rw [← hZ]; exact P3.out.other
        have HX := Lib.hid hX; clear hX
        have HZZ := Lib.hid hZ; clear hZ
        rcases F3 with ⟨g0, g1⟩ | ⟨g0, g1⟩
        · have G0 := Lib.hid g0
          have G1 := Lib.hid (show boO A B Z = s.data.toList from congrArg Prod.fst g1)
          have G2 := Lib.hid (show boE A B Z = 0 from congrArg Prod.snd g1)
          clear g0 g1
          go_wp2_with fail
          refine (inv5_any s _ _ A B _ (HM2.out.below HZ.out (Nat.le_refl _)) (cellB HZ.out HR1.out) (cellB HZ.out HR2.out)).mono ?_
          rintro e y1 ⟨rfl, hb⟩
          rw [F1.out, HX.out]
          have B1 := Lib.hid (HZ.out.trans (hb.mono HZ.out.size))
          have HT1 := Lib.hid (HT0.out.below hb HT0.out.lt); clear hb
          have d1 : y1.cell? ⟨wr.heap.size, 1, none⟩ = some (.func (.func 34) #[] #[.pointer (some ⟨x1.heap.size, 0, none⟩), .pointer (some ⟨x1.heap.size + 1, 0, none⟩)]) := HT1.out.cell 1
          go_wp2_with fail
          refine (inv6_any ⟨X.toArray⟩ _ _ A B _ (cellB B1.out HR1.out) (cellB B1.out HR2.out)).mono ?_
          rintro e y2 ⟨rfl, hb⟩
          rw [show ubO A B (⟨X.toArray⟩ : ByteArray).data.toList = s.data.toList from F2a.out, show ubE A B (⟨X.toArray⟩ : ByteArray).data.toList = 0 from F2b.out, show (⟨s.data.toList.toArray⟩ : ByteArray) = s from by simp]
          have B2 := Lib.hid (B1.out.trans (hb.mono B1.out.size))
          have HT2 := Lib.hid (HT1.out.below hb HT1.out.lt); clear hb d1
          have d2 : y2.cell? ⟨wr.heap.size, 1, none⟩ = some (.func (.func 34) #[] #[.pointer (some ⟨x1.heap.size, 0, none⟩), .pointer (some ⟨x1.heap.size + 1, 0, none⟩)]) := HT2.out.cell 1
          go_wp2_with fail
          refine (inv6_any s _ _ A B _ (cellB B2.out HR1.out) (cellB B2.out HR2.out)).mono ?_
          rintro e y3 ⟨rfl, hb⟩
          rw [G0.out, HZZ.out]
          have B3 := Lib.hid (B2.out.trans (hb.mono B2.out.size))
          have HT3 := Lib.hid (HT2.out.below hb HT2.out.lt); clear hb d2
          have d3 : y3.cell? ⟨wr.heap.size, 0, none⟩ = some (.func (.func 33) #[] #[.pointer (some ⟨x1.heap.size, 0, none⟩), .pointer (some ⟨x1.heap.size + 1, 0, none⟩)]) := HT3.out.cell 0
          go_wp2_with fail
          refine (inv5_any ⟨Z.toArray⟩ _ _ A B _ (HM2.out.below B3.out (Nat.le_refl _)) (cellB B3.out HR1.out) (cellB B3.out HR2.out)).mono ?_
          rintro e y4 ⟨rfl, hb⟩
          rw [show boO A B (⟨Z.toArray⟩ : ByteArray).data.toList = s.data.toList from G1.out, show boE A B (⟨Z.toArray⟩ : ByteArray).data.toList = 0 from G2.out, show (⟨s.data.toList.toArray⟩ : ByteArray) = s from by simp]
          have B4 := Lib.hid (B3.out.trans (hb.mono B3.out.size)); clear hb
          go_wp2_with fail
          go_roundw
          case rel => exact ⟨3, by omega, by go_num, B4.out⟩
          case measure => simp [intOf]
        · have G0 := Lib.hid g0
          have G1 := Lib.hid g1
          clear g0 g1
          go_wp2_with fail
          refine (inv5_any s _ _ A B _ (HM2.out.below HZ.out (Nat.le_refl _)) (cellB HZ.out HR1.out) (cellB HZ.out HR2.out)).mono ?_
          rintro e y1 ⟨rfl, hb⟩
          rw [F1.out, HX.out]
          have B1 := Lib.hid (HZ.out.trans (hb.mono HZ.out.size))
          have HT1 := Lib.hid (HT0.out.below hb HT0.out.lt); clear hb
          have d1 : y1.cell? ⟨wr.heap.size, 1, none⟩ = some (.func (.func 34) #[] #[.pointer (some ⟨x1.heap.size, 0, none⟩), .pointer (some ⟨x1.heap.size + 1, 0, none⟩)]) := HT1.out.cell 1
          go_wp2_with fail
          refine (inv6_any ⟨X.toArray⟩ _ _ A B _ (cellB B1.out HR1.out) (cellB B1.out HR2.out)).mono ?_
          rintro e y2 ⟨rfl, hb⟩
          rw [show ubO A B (⟨X.toArray⟩ : ByteArray).data.toList = s.data.toList from F2a.out, show ubE A B (⟨X.toArray⟩ : ByteArray).data.toList = 0 from F2b.out, show (⟨s.data.toList.toArray⟩ : ByteArray) = s from by simp]
          have B2 := Lib.hid (B1.out.trans (hb.mono B1.out.size))
          have HT2 := Lib.hid (HT1.out.below hb HT1.out.lt); clear hb d1
          have d2 : y2.cell? ⟨wr.heap.size, 1, none⟩ = some (.func (.func 34) #[] #[.pointer (some ⟨x1.heap.size, 0, none⟩), .pointer (some ⟨x1.heap.size + 1, 0, none⟩)]) := HT2.out.cell 1
          go_wp2_with fail
          refine (inv6_any s _ _ A B _ (cellB B2.out HR1.out) (cellB B2.out HR2.out)).mono ?_
          rintro e y3 ⟨rfl, hb⟩
          rw [G0.out, HZZ.out]
          have B3 := Lib.hid (B2.out.trans (hb.mono B2.out.size))
          have HT3 := Lib.hid (HT2.out.below hb HT2.out.lt); clear hb d2
          rw [G1.out]
          go_wp2_with fail
          go_roundw
          case rel => exact ⟨3, by omega, by go_num, B3.out⟩
          case measure => simp [intOf]
      · have hd : decide ((3 : Int) < 3) = false := by decide
        go_wp2_with fail
        refine (awake_any _ (HM2.out.below HBW.out (Nat.le_refl _))).mono ?_
        rintro e x9 ⟨rfl, h9⟩
        have H9 := Lib.hid ((HB2.out.trans (HBW.out.mono HB2.out.size)).trans (h9.mono (HB2.out.trans (HBW.out.mono HB2.out.size)).size)); clear h9
        go_wp2_with fail
        go_ret
        exact ⟨rfl, H9.out⟩
  · have HB := Lib.hid (show binT s.data.toList = false by simpa using hbin)
    clear hbin
    go_enter Tryd.func6, Tryd.ntmps6
    go_wp2_with fail
    refine (binary_any _ _).mono ?_
    rintro e x1 ⟨rfl, h1⟩
    rw [HB.out]
    have HM1 := Lib.hid (HMX.out.below h1 (Nat.le_refl _))
    have H1 := Lib.hid h1; clear h1
    go_wp2_with fail
    refine (awake_any _ HM1.out).mono ?_
    rintro e x2 ⟨rfl, h2⟩
    have H2 := Lib.hid (H1.out.trans (h2.mono H1.out.size)); clear h2
    go_wp2_with fail
    go_ret
    exact ⟨rfl, H2.out⟩
end Go.Proofs.YtdalcopbaaabiaaDoor
