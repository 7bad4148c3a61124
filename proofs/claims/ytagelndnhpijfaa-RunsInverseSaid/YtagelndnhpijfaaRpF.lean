/-
  (*sync.Once).doSlow and (*sync.Once).Do with buildOnce, in a run of one goroutine.
-/
import Derived.Test.YtagelndnhpijfaaRpE
import Derived.Laws.NewBlocks
namespace Go.Proofs.Ytagelndnhpijfaa
open Go.RowKit

set_option maxRecDepth 100000 in
set_option maxHeartbeats 2000000 in
theorem slow_any (rb sb : Nat) (w : World) (h : Raw rb sb w) (h0 : w.cell? ⟨rb, 0, none⟩ = some (.int .u32 0)) (h1 : w.cell? ⟨rb, 1, none⟩ = some (.int .i32 0)) :
    Calls Try.prog 66 #[.pointer (some ⟨rb, 0, none⟩), .func (.func 56) #[.pointer (some ⟨rb, 0, none⟩)] #[]] w fun e w' => e = .returned (.tuple #[]) ∧ Built rb w w' := by
  have h0' : (w.setCell ⟨rb, 1, none⟩ (.int .i32 1)).cell? ⟨rb, 0, none⟩ = some (.int .u32 0) := (World.cell?_setCell_other _ ⟨rb, 1, none⟩ ⟨rb, 0, none⟩ _ (by simp)).trans h0
  have hl := run_call_load (P := Try.prog) Try.func77 (by kernel_rfl) (by kernel_rfl) (by kernel_rfl) .u32 (by kernel_rfl) h0'
  have hnot : ∀ (x : Bool) (w : World), (Op.unary .not (.bool x)).run Try.prog w = .ok (.bool (!x)) w := fun _ _ => rfl
  have HR := Lib.hid h
  have HB1 := Lib.hid (show Below rb w (w.setCell ⟨rb, 1, none⟩ (.int .i32 1)) from (Below.refl _ _).setCell (p := ⟨rb, 1, none⟩) (Nat.le_refl _) _)
  have H1 := Lib.hid h1
  have H0 := Lib.hid h0
  clear h h0
  go_enter_defers Try.func66, Try.ntmps66
  go_wp2_with (first | (go_at_call 78; refine (lock_free ⟨rb, 1, none⟩ w H1.out (HR.out.2.2.1 1)).mono ?_; rintro e w' ⟨rfl, rfl⟩) | (go_at_call 65; go_in))
  refine (buildOnce_any rb sb _ (HR.out.setCell 1 (by omega) _)).mono ?_
  rintro e w2 ⟨rfl, hB, hk, hz⟩
  have HB2 := Lib.hid (hB.after HB1.out)
  have q0 := (hk 0 (by omega)).trans h0'
  have q1 := (hk 1 (by omega)).trans (World.cell?_setCell_same w _ _ h1)
  have HZ := Lib.hid hz
  have Q0 := Lib.hid q0
  have Q1 := Lib.hid q1
  clear hB hk hz q0 q1
  go_wp2_with fail
  go_wp2
  refine leaves_cons (f := 80) (args := #[.pointer (some ⟨rb, 0, none⟩), .bool true]) (by simp) (by simp [go_sem]) ?_
  refine (store_deferred ⟨rb, 0, none⟩ (.int .u32 0) .returning _ Q0.out (HZ.out 0)).mono ?_
  rintro e u' w'' ⟨rfl, rfl, rfl⟩
  refine leaves_cons (f := 79) (args := #[.pointer (some ⟨rb, 1, none⟩)]) (by simp [settle]) (by simp [go_sem]) ?_
  refine (unlock_deferred ⟨rb, 1, none⟩ _ _ ?_ (by rw [frozen_setCell]; exact HZ.out 1)).mono ?_
  · refine (World.cell?_setCell_other _ ⟨rb, 0, none⟩ ⟨rb, 1, none⟩ _ (by simp)).trans ?_
    rw [World.cell?_drew]
    exact Q1.out
  rintro e u' w'' ⟨rfl, rfl, rfl⟩
  simp only [Leaves, settle, results, Try.results66]
  have HQ := (HB2.out.drew.setCell 0 (by omega) (.int .u32 1)).setCell 1 (by omega) (.int .i32 0)
  refine ⟨.tuple #[], by simp, rfl, HQ⟩

set_option maxRecDepth 100000 in
set_option maxHeartbeats 2000000 in
theorem do_any (rb sb : Nat) (w : World) (h : Raw rb sb w) (h0 : w.cell? ⟨rb, 0, none⟩ = some (.int .u32 0)) (h1 : w.cell? ⟨rb, 1, none⟩ = some (.int .i32 0)) :
    Calls Try.prog 55 #[.pointer (some ⟨rb, 0, none⟩), .func (.func 56) #[.pointer (some ⟨rb, 0, none⟩)] #[]] w fun e w' => e = .returned (.tuple #[]) ∧ Built rb w w' := by
  have hl := run_call_load (P := Try.prog) Try.func77 (by kernel_rfl) (by kernel_rfl) (by kernel_rfl) .u32 (by kernel_rfl) h0
  have hnot : ∀ (x : Bool) (w : World), (Op.unary .not (.bool x)).run Try.prog w = .ok (.bool (!x)) w := fun _ _ => rfl
  have HR := Lib.hid h
  clear h
  go_enter Try.func55, Try.ntmps55
  go_wp2_with (go_at_call 65; go_in)
  refine (slow_any rb sb w HR.out h0 h1).mono ?_
  rintro e w' ⟨rfl, hB⟩
  have HB := Lib.hid hB
  clear hB
  go_wp2_with fail
  go_end0
  exact ⟨rfl, HB.out⟩

set_option maxRecDepth 100000 in
set_option maxHeartbeats 2000000 in
/-- (*strings.Replacer).Replace, the first time, at a binary word. -/
theorem replace_any (rb sb : Nat) (s : ByteArray) (w : World) (h : Raw rb sb w) (h0 : w.cell? ⟨rb, 0, none⟩ = some (.int .u32 0)) (h1 : w.cell? ⟨rb, 1, none⟩ = some (.int .i32 0))
    (hb : ∀ k (h : k < s.size), s[k] = 48 ∨ s[k] = 49) (hs : s.size ≤ 70000) :
    Calls Try.prog 36 #[.pointer (some ⟨rb, 0, none⟩), .string s] w fun e w' => e = .returned (.string ⟨(s.data.toList.map opC).toArray⟩) ∧ Below rb w w' := by
  have hmf : ∀ (fn : Fn) (first cap : Array Value) (w : World), (Instr.makeFunc fn first cap).run Try.prog w = .ok (.func fn first cap) w := fun _ _ _ _ => rfl
  have HR := Lib.hid h
  have HBI := Lib.hid hb
  have HS := Lib.hid hs
  clear h hb hs
  go_enter Try.func36, Try.ntmps36
  go_wp2_with fail
  refine (do_any rb sb w HR.out h0 h1).mono ?_
  rintro e w1 ⟨rfl, hB, hlt, Bt, g1, g2, g3, g4, g5⟩
  have HB := Lib.hid hB
  have HLT := Lib.hid hlt
  have HG1 := Lib.hid g1
  have HG4 := Lib.hid g4
  have HG5 := Lib.hid g5
  clear hB hlt g1 g4 g5 h0 h1
  have hm : ∀ w, (method 279 120 (.pointer (some ⟨Bt, 0, none⟩)) "Replace").run Try.prog w = .ok (131, .pointer (some ⟨Bt, 0, none⟩)) w := fun _ => by kernel_rfl
  go_wp2_with fail
  refine (rpl_any s Bt w1 HG4.out HG5.out HG1.out HBI.out HS.out).mono ?_
  rintro e w2 ⟨rfl, hb⟩
  have HB2 := Lib.hid (HB.out.trans (hb.mono (Nat.le_of_lt HLT.out)))
  clear hb
  go_wp2_with fail
  go_ret
  exact ⟨rfl, HB2.out⟩
end Go.Proofs.Ytagelndnhpijfaa
