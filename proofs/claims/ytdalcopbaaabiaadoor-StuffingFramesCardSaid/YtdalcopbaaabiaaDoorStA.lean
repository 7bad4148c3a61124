/-
  Stuffing: the plain functions, the closure that counts, and the contract of stuffed.
-/
import Derived.Test.YtdalcopbaaabiaaDoorBld
import Derived.Test.YtdalcopbaaabiaaDoorByt
namespace Go.Proofs.YtdalcopbaaabiaaDoor
open Go.RowKit

/-- A word with the letter put behind each n letters c in a row, run of which stand ahead. -/
def stf (c put : UInt8) (n : Nat) : Nat → List UInt8 → List UInt8
  | _, [] => []
  | run, a :: l => if a = c then (if run + 1 < n then a :: stf c put n (run + 1) l else a :: put :: stf c put n 0 l) else a :: stf c put n 0 l
def nxt (c : UInt8) (n run : Nat) (a : UInt8) : Nat := if a = c then (if run + 1 < n then run + 1 else 0) else 0
def msT (c : UInt8) (n run : Nat) (a : UInt8) : Bool := decide (a = c) && decide (n ≤ run + 1)
theorem stf_cons (c put : UInt8) (n run : Nat) (a : UInt8) (l : List UInt8) : stf c put n run (a :: l) = a :: (if msT c n run a then put :: stf c put n (nxt c n run a) l else stf c put n (nxt c n run a) l) := by
  unfold msT nxt
  rw [stf]
  by_cases h : a = c
  · by_cases h2 : run + 1 < n
    · have : decide (n ≤ run + 1) = false := by simp; omega
      simp [h, h2, this]
    · have : decide (n ≤ run + 1) = true := by simp; omega
      simp [h, h2, this]
  · simp [h]
theorem nxt_lt (c : UInt8) (n run : Nat) (a : UInt8) (h : 0 < n) : nxt c n run a < n := by
  unfold nxt; split
  · split <;> omega
  · exact h
theorem drop_cons {l : List UInt8} {k : Nat} (h : k < l.length) : l.drop k = l[k] :: l.drop (k + 1) := List.drop_eq_getElem_cons h

/-- What the closure captures. -/
def Env (w : World) (bc br bn : Nat) (c : UInt8) (run n : Nat) : Prop :=
  bc ≠ br ∧ bn ≠ br ∧ Row w bc 5 [.int .u8 (c.toNat : Int)] ∧ Row w br 3 [.int .i64 (run : Int)] ∧ Row w bn 3 [.int .i64 (n : Int)]

theorem set_grown (w : World) (b : Nat) (u : Value) : w.grownBy (w.setCell ⟨b, 0, none⟩ u) (some b) :=
  ⟨rfl, rfl, rfl, by simp [World.setCell], fun k _ hk => Below.heap_setCell _ _ _ _ (fun e => hk (by simp [e]))⟩
theorem set_grown2 (w : World) (b : Nat) (u v : Value) : w.grownBy ((w.setCell ⟨b, 0, none⟩ u).setCell ⟨b, 0, none⟩ v) (some b) :=
  ⟨rfl, rfl, rfl, by simp [World.setCell], fun k _ hk => by
    rw [Below.heap_setCell _ _ _ _ (fun e => hk (by simp [e])), Below.heap_setCell _ _ _ _ (fun e => hk (by simp [e]))]⟩
theorem Env.set {w : World} {bc br bn : Nat} {c : UInt8} {run n : Nat} (h : Env w bc br bn c run n) (r : Nat) : Env (w.setCell ⟨br, 0, none⟩ (.int .i64 (r : Int))) bc br bn c r n :=
  ⟨h.1, h.2.1, h.2.2.1.set_other _ _ h.1, h.2.2.2.1.set 0 _, h.2.2.2.2.set_other _ _ h.2.1⟩

set_option maxHeartbeats 400000 in
theorem must_any (a c : UInt8) (run n bc br bn : Nat) (w : World) (h : Env w bc br bn c run n) (hr : run < n) (hn : n ≤ 70000) :
    Calls Tryd.prog 87 #[.int .u8 a.toNat, .pointer (some ⟨bc, 0, none⟩), .pointer (some ⟨br, 0, none⟩), .pointer (some ⟨bn, 0, none⟩)] w
      fun e w' => e = .returned (.bool (msT c n run a)) ∧ Env w' bc br bn c (nxt c n run a) n ∧ w.grownBy w' (some br) ∧ Below br w w' := by
  have HE := Lib.hid h
  have c0 : w.cell? ⟨bc, 0, none⟩ = some (.int .u8 (c.toNat : Int)) := h.2.2.1.cell 0
  have c1 : w.cell? ⟨br, 0, none⟩ = some (.int .i64 (run : Int)) := h.2.2.2.1.cell 0
  have c2 : w.cell? ⟨bn, 0, none⟩ = some (.int .i64 (n : Int)) := h.2.2.2.2.cell 0
  have f1 := h.2.2.2.1.frozen 0
  by_cases ha : a = c
  · have ht : ((a.toNat : Int) != (c.toNat : Int)) = false := by rw [ha]; simp
    have e1 := h.set (run + 1)
    have d1 : (w.setCell ⟨br, 0, none⟩ (.int .i64 ((run : Int) + 1))).cell? ⟨br, 0, none⟩ = some (.int .i64 ((run : Int) + 1)) := e1.2.2.2.1.cell 0
    have d2 : (w.setCell ⟨br, 0, none⟩ (.int .i64 ((run : Int) + 1))).cell? ⟨bn, 0, none⟩ = some (.int .i64 (n : Int)) := e1.2.2.2.2.cell 0
    have g1 : (w.setCell ⟨br, 0, none⟩ (.int .i64 ((run : Int) + 1))).frozen? ⟨br, 0, none⟩ = false := e1.2.2.2.1.frozen 0
    have HA := Lib.hid ha
    clear h e1 ha
    by_cases h2 : run + 1 < n
    · have h2' : decide ((run : Int) + 1 < (n : Int)) = true := by simp; omega
      have HM := Lib.hid (show msT c n run a = false by unfold msT; simp; omega)
      have HN := Lib.hid (show nxt c n run a = run + 1 by unfold nxt; rw [if_pos HA.out, if_pos h2])
      go_enter Tryd.func87, Tryd.ntmps87
      go_wp2_with fail
      go_ret
      refine ⟨by rw [HM.out]; rfl, by rw [HN.out]; exact HE.out.set (run + 1), set_grown _ _ _, (Below.refl _ _).setCell (p := ⟨br, 0, none⟩) (Nat.le_refl _) _⟩
    · have h2' : decide ((run : Int) + 1 < (n : Int)) = false := by simp; omega
      have HM := Lib.hid (show msT c n run a = true by unfold msT; simp [HA.out]; omega)
      have HN := Lib.hid (show nxt c n run a = 0 by unfold nxt; rw [if_pos HA.out, if_neg h2])
      go_enter Tryd.func87, Tryd.ntmps87
      go_wp2_with fail
      go_ret
      refine ⟨by rw [HM.out]; rfl, by rw [HN.out]; exact (HE.out.set (run + 1)).set 0, set_grown2 _ _ _ _, ((Below.refl _ _).setCell (p := ⟨br, 0, none⟩) (Nat.le_refl _) _).setCell (p := ⟨br, 0, none⟩) (Nat.le_refl _) _⟩
  · have ht : ((a.toNat : Int) != (c.toNat : Int)) = true := by
      rw [bne_iff_ne]; intro he; apply ha; rw [← UInt8.toNat_inj]; omega
    have HM := Lib.hid (show msT c n run a = false by unfold msT; simp [ha])
    have HN := Lib.hid (show nxt c n run a = 0 by unfold nxt; rw [if_neg ha])
    clear h ha
    go_enter Tryd.func87, Tryd.ntmps87
    go_wp2_with fail
    go_ret
    refine ⟨by rw [HM.out]; rfl, by rw [HN.out]; exact HE.out.set 0, set_grown _ _ _, (Below.refl _ _).setCell (p := ⟨br, 0, none⟩) (Nat.le_refl _) _⟩

/-- The value of the closure. -/
def mustF (bc br bn : Nat) : Value := .func (.func 87) #[] #[.pointer (some ⟨bc, 0, none⟩), .pointer (some ⟨br, 0, none⟩), .pointer (some ⟨bn, 0, none⟩)]

set_option maxHeartbeats 400000 in
theorem stuffer_any (c : UInt8) (n : Nat) (w : World) :
    Calls Tryd.prog 74 #[.int .u8 c.toNat, .int .i64 n] w
      fun e w' => ∃ bc br bn, e = .returned (.func (.func 87) #[] #[.pointer (some ⟨bc, 0, none⟩), .pointer (some ⟨br, 0, none⟩), .pointer (some ⟨bn, 0, none⟩)]) ∧ (w.heap.size ≤ bc ∧ w.heap.size ≤ br ∧ w.heap.size ≤ bn) ∧ Env w' bc br bn c 0 n ∧ Below w.heap.size w w' := by
  have hmf : ∀ fn first cap w, (Instr.makeFunc fn first cap).run Tryd.prog w = .ok (.func fn first cap) w := fun _ _ _ _ => rfl
  go_enter Tryd.func74, Tryd.ntmps74
  go_wp2_with fail
  go_ret
  refine ⟨w.heap.size, w.heap.size + 1 + 1, w.heap.size + 1, rfl, ⟨Nat.le_refl _, by omega, by omega⟩, ?_, ?_⟩
  · refine ⟨by omega, by omega, ?_, ?_, ?_⟩
    · exact (((row_new w 5 [.int .u8 (c.toNat : Int)]).alloc _).alloc _)
    · have := row_new ((w.alloc (.cells #[.int .u8 (c.toNat : Int)] 5)).alloc (.cells #[.int .i64 (n : Int)] 3)) 3 [.int .i64 ((0 : Nat) : Int)]
      simpa using this
    · have := (row_new (w.alloc (.cells #[.int .u8 (c.toNat : Int)] 5)) 3 [.int .i64 (n : Int)]).alloc (.cells #[.int .i64 0] 3)
      simpa using this
  · exact (((Below.refl _ _).alloc (Nat.le_refl _) _).alloc (by simp) _).alloc (by simp; omega) _

theorem Env.keepB {w w' : World} {bc br bn m b : Nat} {c : UInt8} {run n : Nat} (h : Env w bc br bn c run n) (hk : KeepB m b w w') (h1 : bc < m ∧ br < m ∧ bn < m) (h2 : bc ≠ b ∧ br ≠ b ∧ bn ≠ b) : Env w' bc br bn c run n :=
  ⟨h.1, h.2.1, h.2.2.1.keepB hk h1.1 h2.1, h.2.2.2.1.keepB hk h1.2.1 h2.2.1, h.2.2.2.2.keepB hk h1.2.2 h2.2.2⟩
theorem Bld.grown {B m b r : Nat} {l : List UInt8} {w w' : World} (h : Bld B m b l w) (hg : w.grownBy w' (some r)) (h1 : r < m) (h2 : r ≠ b) : Bld B m b l w' := by
  obtain ⟨k1, k2, k3, p, v, hp, hb, ho⟩ := h
  have hne : v.ownBlock ≠ some r := fun he => by have := (ho.lt r he).1; omega
  exact ⟨k1, k2, Nat.le_trans k3 hg.size, p, v, hp, by rw [hg.block b (by omega) (fun e => h2 (by cases e; rfl))]; exact hb, ho.kept hg (.inr hne)⟩
theorem bool_neq (b c : UInt8) : (((b.toNat : Nat) : Int) != ((c.toNat : Nat) : Int)) = !decide (b = c) := by
  rw [← decide_not, bne, Bool.eq_iff_iff]; simp [← UInt8.toNat_inj]; omega
theorem builder_len (B m b : Nat) (l : List UInt8) (w : World) (h : Bld B m b l w) :
    Calls Tryd.prog 65 #[.pointer (some ⟨b, 0, none⟩)] w fun e w' => e = .returned (.int .i64 l.length) ∧ w = w' :=
  (Tryd.Builder_Len B b _ w h.isBuilder).mono fun e w' ⟨he, hw⟩ => ⟨by rw [he]; simp [Lib.byteCells], hw.symm⟩
theorem stf_len (c put : UInt8) (n : Nat) : ∀ (l : List UInt8) (run : Nat), (stf c put n run l).length ≤ 2 * l.length
  | [], _ => by simp [stf]
  | a :: l, run => by
    rw [stf_cons]
    have := stf_len c put n l (nxt c n run a)
    split <;> simp <;> omega

set_option maxHeartbeats 1000000 in
set_option maxRecDepth 100000 in
theorem stuffed_any (c put : UInt8) (n : Nat) (s : ByteArray) (w : World) (hn : 0 < n) (hn2 : n ≤ 70000) (hs : s.size ≤ 140000) :
    Calls Tryd.prog 48 #[.int .u8 c.toNat, .int .u8 put.toNat, .int .i64 n, .string s] w
      fun e w' => e = .returned (.tuple #[.string ⟨(stf c put n 0 s.data.toList).toArray⟩, .bool (decide (((stf c put n 0 s.data.toList).length : Int) ≤ 65536))]) ∧ Below w.heap.size w w' := by
  go_enter Tryd.func48, Tryd.ntmps48
  have HBN := Lib.hid (bld_new w.heap.size w (Nat.le_refl _))
  go_wp2_with fail
  refine (stuffer_any c n _).mono ?_
  rintro e w2 ⟨bc, br, bn, rfl, hge, henv, hb⟩
  have hz : w.heap.size + 1 ≤ w2.heap.size := by have := hb.size; simpa using this
  have hlt : bc < w2.heap.size ∧ br < w2.heap.size ∧ bn < w2.heap.size := ⟨henv.2.2.1.lt, henv.2.2.2.1.lt, henv.2.2.2.2.lt⟩
  have hge' : w.heap.size + 1 ≤ bc ∧ w.heap.size + 1 ≤ br ∧ w.heap.size + 1 ≤ bn := by simpa using hge
  have HBL := Lib.hid (HBN.out.raise (by simpa using hb) hz (Nat.le_refl _) (heap_alloc_new w _))
  have HE := Lib.hid henv
  have HB := Lib.hid (((Below.refl w.heap.size w).alloc (Nat.le_refl _) (.cells #[.pointer none, .slice none 0 0] 66)).trans (hb.mono (by simp)))
  have hne1 : bc ≠ w.heap.size ∧ br ≠ w.heap.size ∧ bn ≠ w.heap.size := by omega
  clear hge henv hb HBN
  obtain ⟨m, hm⟩ : ∃ m, m = w2.heap.size := ⟨_, rfl⟩
  rw [← hm] at hlt HBL
  have hlt1 : bc < m ∧ br < m ∧ bn < m := hlt
  clear hm hz hlt
  go_wp2_with fail
  go_loopw [18] (fun i wr => ∃ k : Nat, k ≤ s.size ∧ i = .int .i64 k ∧ ∃ run out, run < n ∧ out ++ stf c put n run (s.data.toList.drop k) = stf c put n 0 s.data.toList ∧ Bld w.heap.size m w.heap.size out wr ∧ Env wr bc br bn c run n ∧ Below w.heap.size w wr) (fun i _ => s.size - (intOf i).toNat)
  case atStart => exact ⟨0, by omega, rfl, 0, [], hn, rfl, HBL.out, HE.out, HB.out⟩
  case round =>
    obtain ⟨k, hk, rfl, run, out, hrun, hst, hbld, henv, hbb⟩ := hrel
    have HST := Lib.hid hst; clear hst
    have HBLD := Lib.hid hbld; clear hbld
    have HENV := Lib.hid henv; clear henv
    have HBB := Lib.hid hbb; clear hbb HBL HE HB
    have HOL : Hid (out.length ≤ 280000) := Lib.hid (by
      have h1 := congrArg List.length HST.out
      rw [List.length_append] at h1
      have h2 := stf_len c put n s.data.toList 0
      have h3 : s.data.toList.length = s.size := rfl
      omega)
    by_cases hlt : k < s.size
    · have HD := Lib.hid (show s.data.toList.drop k = s[k] :: s.data.toList.drop (k + 1) from drop_cons (by simpa using hlt))
      have hmt : msT c n run s[k] = true ∨ msT c n run s[k] = false := by cases msT c n run s[k] <;> simp
      rcases hmt with hmt | hmt
      · have HST2 := Lib.hid (show (out ++ [s[k]] ++ [put]) ++ stf c put n (nxt c n run s[k]) (s.data.toList.drop (k + 1)) = stf c put n 0 s.data.toList by
          rw [← HST.out, HD.out, stf_cons, hmt]; simp)
        go_wp2_with fail
        refine (writeByte_any w.heap.size m w.heap.size out s[k] wr HBLD.out (by have := HOL.out; omega)).mono ?_
        rintro e w3 ⟨rfl, h1, h2, h3⟩
        have HE3 := Lib.hid (HENV.out.keepB h2 hlt1 hne1)
        have HB3 := Lib.hid (HBB.out.trans h3)
        have HBL3 := Lib.hid h1; clear h1 h2 h3
        go_wp2_with fail
        refine (must_any s[k] c run n bc br bn w3 HE3.out hrun hn2).mono ?_
        rintro e w4 ⟨rfl, h1, h2, h3⟩
        rw [hmt]
        have HMT := Lib.hid hmt; clear hmt
        have HE4 := Lib.hid h1
        have HBL4 := Lib.hid (HBL3.out.grown h2 hlt1.2.1 hne1.2.1)
        have HB4 := Lib.hid (HB3.out.trans (h3.mono (by omega))); clear h1 h2 h3
        go_wp2_with fail
        refine (writeByte_any w.heap.size m w.heap.size (out ++ [s[k]]) put w4 HBL4.out (by have := HOL.out; simp; omega)).mono ?_
        rintro e w5 ⟨rfl, h1, h2, h3⟩
        have HE5 := Lib.hid (HE4.out.keepB h2 hlt1 hne1)
        have HB5 := Lib.hid (HB4.out.trans h3)
        have HBL5 := Lib.hid h1; clear h1 h2 h3
        go_wp2_with fail
        go_roundw
        case rel => exact ⟨k + 1, by omega, by go_num, nxt c n run s[k], out ++ [s[k]] ++ [put], nxt_lt _ _ _ _ hn, HST2.out, HBL5.out, HE5.out, HB5.out⟩
        case measure => simp [intOf]; omega
      · have HST2 := Lib.hid (show (out ++ [s[k]]) ++ stf c put n (nxt c n run s[k]) (s.data.toList.drop (k + 1)) = stf c put n 0 s.data.toList by
          rw [← HST.out, HD.out, stf_cons, hmt]; simp)
        go_wp2_with fail
        refine (writeByte_any w.heap.size m w.heap.size out s[k] wr HBLD.out (by have := HOL.out; omega)).mono ?_
        rintro e w3 ⟨rfl, h1, h2, h3⟩
        have HE3 := Lib.hid (HENV.out.keepB h2 hlt1 hne1)
        have HB3 := Lib.hid (HBB.out.trans h3)
        have HBL3 := Lib.hid h1; clear h1 h2 h3
        go_wp2_with fail
        refine (must_any s[k] c run n bc br bn w3 HE3.out hrun hn2).mono ?_
        rintro e w4 ⟨rfl, h1, h2, h3⟩
        rw [hmt]
        have HMT := Lib.hid hmt; clear hmt
        have HE4 := Lib.hid h1
        have HBL4 := Lib.hid (HBL3.out.grown h2 hlt1.2.1 hne1.2.1)
        have HB4 := Lib.hid (HB3.out.trans (h3.mono (by omega))); clear h1 h2 h3
        go_wp2_with fail
        go_roundw
        case rel => exact ⟨k + 1, by omega, by go_num, nxt c n run s[k], out ++ [s[k]], nxt_lt _ _ _ _ hn, HST2.out, HBL4.out, HE4.out, HB4.out⟩
        case measure => simp [intOf]; omega
    · obtain rfl : k = s.size := by omega
      have hd : decide ((s.size : Int) < (s.size : Int)) = false := by simp
      have HOUT := Lib.hid (show out = stf c put n 0 s.data.toList by
        have := HST.out
        rw [List.drop_of_length_le (by simp), stf, List.append_nil] at this; exact this)
      go_wp2_with fail
      refine (Tryd.Builder_String_any_f w.heap.size w.heap.size out wr (Lib.IsBuilderF.of HBLD.out.isBuilder) (by have := HBLD.out.2.1; have := HBLD.out.2.2.1; omega)).mono ?_
      rintro e w6 ⟨rfl, h0, h1⟩
      have HF := Lib.hid h0; clear h0
      have HB6 := Lib.hid (HBB.out.trans h1); clear h1
      go_wp2_with fail
      refine (Tryd.Builder_Len_f w.heap.size w.heap.size (Lib.byteCells out) w6 HF.out).mono ?_
      rintro e w7 ⟨rfl, rfl⟩
      rw [show (Lib.byteCells out).length = out.length by simp [Lib.byteCells], HOUT.out]
      go_wp2_with fail
      go_ret2
      exact ⟨rfl, HB6.out⟩
end Go.Proofs.YtdalcopbaaabiaaDoor
