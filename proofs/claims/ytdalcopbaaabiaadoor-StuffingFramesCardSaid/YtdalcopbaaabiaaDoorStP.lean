/-
  The stretches of a word: the plain function stL, and the contract of the iterator.
-/
import Derived.RangeFuncBox
import Derived.RangeFuncNested
import Derived.RangeFuncBound
import Derived.RangeFuncCalls
import Derived.RangeFuncLeaves
import Derived.Shelf.Abstract
import Derived.Shelf.RegionOpen
import Derived.OwnWalkIn
import Derived.TacticsInMore
import Derived.LoopNIn
import Derived.LoopIn
import Derived.Maps.AppendAt
import Derived.Test.YtdalcopbaaabiaaDoorStD
namespace Go.Proofs.YtdalcopbaaabiaaDoor
open Go.RowKit Go.Shelf
attribute [local go_sem] Oper.semAt_some

def ctf (l : List UInt8) : List UInt8 × List UInt8 × Bool := Lib.cut l flag
def stF : Nat → List UInt8 → List (List UInt8)
  | 0, _ => []
  | n + 1, r => if (ctf r).2.2 = true then (ctf r).1 :: stF n (ctf r).2.1 else []
def stL (l : List UInt8) : List (List UInt8) := if (ctf l).2.2 = true then stF (l.length + 1) (ctf l).2.1 else []
abbrev Wd := {x : ByteArray // x.size ≤ 65536}
def mkW (x : List UInt8) : Wd := if h : x.length ≤ 65536 then ⟨⟨x.toArray⟩, h⟩ else ⟨⟨#[]⟩, Nat.zero_le _⟩
theorem mkW_val {x : List UInt8} (h : x.length ≤ 65536) : (mkW x).1 = ⟨x.toArray⟩ := by rw [mkW, dif_pos h]
def bas (l : List (List UInt8)) : List Wd := l.map mkW
theorem ctf_fst (l : List UInt8) : (ctf l).1.length ≤ l.length := by
  unfold ctf Lib.cut
  split
  · simp only [List.length_take]; omega
  · exact Nat.le_refl _
theorem ctf_len (l : List UInt8) : ((ctf l).2.2 = true → (ctf l).2.1.length + 8 ≤ l.length) ∧ ((ctf l).2.2 = false → (ctf l).2.1 = []) := by
  have h8 : flag.length = 8 := rfl
  have hr := Lib.index_room l flag
  unfold ctf Lib.cut
  by_cases h : 0 ≤ Lib.index l flag
  · rw [if_pos h]
    have := hr h
    refine ⟨fun _ => ?_, fun h => by cases h⟩
    simp only [List.length_drop]; omega
  · rw [if_neg h]; exact ⟨fun h => (by cases h), fun _ => rfl⟩
def vsz : Value → Nat
  | .string s => s.size
  | .bool b => if b then 1 else 0
  | _ => 0

set_option maxRecDepth 100000 in
set_option maxHeartbeats 1000000 in
theorem stretches1_in (n : Nat) (hn : 2 ≤ n) (l Bn n₀ : Nat) (m : Int) (s : ByteArray) (hs : s.size ≤ 65536) (J Jx : List Wd → World → Prop)
    (hJd : ∀ pre W k, J pre W → J pre (W.drewN k))
    (hY : ∀ pre x W, J pre W → pre.length < (stL s.data.toList).length → YieldAt Fence.wide (n - 1) Tryd.prog l #[.string x.1] W fun e W' =>
      (e = .returned (.bool true) ∧ J (pre ++ [x]) W' ∧ Below n₀ W W') ∨ (e = .returned (.bool false) ∧ Jx (pre ++ [x]) W'))
    (hg : 0 < n₀) (W : World) (hBn : W.cell? ⟨Bn, 0, none⟩ = some (.string s)) (hm : W.cell? ⟨0, 0, none⟩ = some (.int .i64 m)) (h0 : J [] W) :
    CallsIn Fence.wide n Tryd.prog 81 #[.func (.yield l) #[] #[], .pointer (some ⟨Bn, 0, none⟩)] W fun e W' => (∃ v, e = .returned v) ∧
      ((∃ ys, ys = bas (stL s.data.toList) ∧ J ys W') ∨ (∃ pre, pre <+: bas (stL s.data.toList) ∧ Jx pre W')) := by
  obtain ⟨N, hN⟩ : ∃ N, bas (stL s.data.toList) = N := ⟨_, rfl⟩
  have hNl : (stL s.data.toList).length = N.length := by rw [← hN]; simp [bas]
  rw [hNl] at hY
  rw [hN]
  have hn1 : 1 ≤ n := by omega
  refine callsIn_of_wp Tryd.func81 rfl trivial ?_ rfl
  simp only [Tryd.ntmps81, List.size_toArray, List.length_cons, List.length_nil, Nat.reduceAdd, Nat.reduceSub, Array.replicate_succ, Array.replicate_zero, List.push_toArray, List.append_toArray, List.nil_append, List.cons_append]
  gi_wp2_with (refine ⟨trivial, ?_⟩; gi_at_call 82; refine ((callsIn_wide.2 (Tryd.strings_Cut s ⟨#[48, 49, 49, 49, 49, 49, 49, 48]⟩ m _ (by omega) hm))).mono ?_; rintro e w1 ⟨rfl, k1, rfl⟩)
  have hm1 : (W.drewN k1).cell? ⟨0, 0, none⟩ = some (.int .i64 m) := hm
  have hJ1 := hJd [] W k1 h0
  have HS : Hid (bas (stL s.data.toList) = [] ++ (if (ctf s.data.toList).2.2 = true then bas (stF (s.data.toList.length + 1) (ctf s.data.toList).2.1) else [])) := Lib.hid (by
    unfold stL; split <;> rfl)
  have HL := Lib.hid (ctf_len s.data.toList)
  have HCT := Lib.hid (show Lib.cut s.data.toList (⟨#[48, 49, 49, 49, 49, 49, 49, 48]⟩ : ByteArray).data.toList = ctf s.data.toList from rfl)
  rw [HCT.out]
  obtain ⟨r0, hr0⟩ : ∃ r0, (ctf s.data.toList).2.1 = r0 := ⟨_, rfl⟩
  obtain ⟨b0, hb0⟩ : ∃ b0, (ctf s.data.toList).2.2 = b0 := ⟨_, rfl⟩
  rw [hr0, hb0] at HS HL ⊢
  rw [hN] at HS
  clear hr0 hb0 HCT
  gi_wp2
  gi_loopw [4, 5] (fun rv bv wr => ∃ (r : ByteArray) (b : Bool) (pre : List Wd) (f : Nat), rv = .string r ∧ bv = .bool b ∧ r.size ≤ 65536 ∧ r.size < f ∧ N = pre ++ (if b = true then bas (stF f r.data.toList) else []) ∧ J pre wr ∧ wr.cell? ⟨0, 0, none⟩ = some (.int .i64 m)) (fun rv bv _ => vsz rv + vsz bv)
  case atStart =>
    refine ⟨⟨r0.toArray⟩, b0, [], s.data.toList.length + 1, rfl, rfl, ?_, ?_, HS.out, hJ1, hm1⟩
    · have e : s.data.toList.length = s.size := rfl
      cases b0 with
      | true => have := HL.out.1 rfl; show r0.length ≤ 65536; omega
      | false => have := HL.out.2 rfl; rw [this]; exact Nat.zero_le _
    · cases b0 with
      | true => have := HL.out.1 rfl; show r0.length < _; omega
      | false => have := HL.out.2 rfl; rw [this]; exact Nat.succ_pos _
  case round =>
    obtain ⟨r, b, pre, f, rfl, rfl, hrs, hrf, hN2, hJr, hmr⟩ := hrel
    have HN2 := Lib.hid hN2; clear hN2
    cases b with
    | false =>
      gi_wp2
      go_end0
      exact ⟨⟨_, rfl⟩, .inl ⟨pre, by have := HN2.out; simpa using this.symm, hJr⟩⟩
    | true =>
      obtain ⟨f', rfl⟩ : ∃ f', f = f' + 1 := ⟨f - 1, by omega⟩
      have HN3 := Lib.hid (show N = pre ++ bas (if (ctf r.data.toList).2.2 = true then (ctf r.data.toList).1 :: stF f' (ctf r.data.toList).2.1 else []) by have := HN2.out; rw [if_pos rfl, stF] at this; exact this)
      have hLr := ctf_len r.data.toList
      have hFs := ctf_fst r.data.toList
      rcases hcr : ctf r.data.toList with ⟨s1, r1, b1⟩
      rw [hcr] at hLr hFs
      have hsl : s1.length ≤ 65536 := by
        have e : r.data.toList.length = r.size := rfl
        have h2 : s1.length ≤ r.data.toList.length := hFs
        omega
      have HMK : Hid ((mkW s1).1 = ⟨s1.toArray⟩) := Lib.hid (mkW_val hsl)
      clear hsl
      clear hFs
      have HN3b := HN3.out
      rw [hcr] at HN3b
      have HN3 := Lib.hid HN3b
      have HLr := Lib.hid hLr
      have HCr := Lib.hid (show Lib.cut r.data.toList (⟨#[48, 49, 49, 49, 49, 49, 49, 48]⟩ : ByteArray).data.toList = (s1, r1, b1) from hcr)
      clear hcr HN3b hLr HN2
      have e : r.data.toList.length = r.size := rfl
      cases b1 with
      | false =>
        have HR1 : Hid (r1 = []) := Lib.hid (HLr.out.2 rfl)
        gi_wp2_with (refine ⟨trivial, ?_⟩; gi_at_call 82; refine ((callsIn_wide.2 (Tryd.strings_Cut r ⟨#[48, 49, 49, 49, 49, 49, 49, 48]⟩ m _ (by omega) hmr))).mono ?_; rintro e w2 ⟨rfl, k2, rfl⟩; rw [HCr.out])
        have hJ2 := hJd pre wr k2 hJr
        have hm2 : (wr.drewN k2).cell? ⟨0, 0, none⟩ = some (.int .i64 m) := hmr
        refine ⟨fun _ h => (by cases h), ?_⟩
        gi_wp2
        go_roundw
        case rel => exact ⟨⟨r1.toArray⟩, false, pre, f' + 1, rfl, rfl, by rw [HR1.out]; exact Nat.zero_le _, by rw [HR1.out]; exact Nat.succ_pos _, by have := HN3.out; simpa [bas] using this, hJ2, hm2⟩
        case measure => rw [HR1.out]; simp [vsz]; exact Nat.succ_pos _
      | true =>
        have hr1 : r1.length + 8 ≤ r.data.toList.length := HLr.out.1 rfl
        have hr2 : (⟨r1.toArray⟩ : ByteArray).size = r1.length := rfl
        have HN4 := Lib.hid (show N = (pre ++ [mkW s1]) ++ bas (stF f' r1) by have := HN3.out; rw [if_pos rfl] at this; rw [this]; simp [bas])
        gi_wp2_with (refine ⟨trivial, ?_⟩; gi_at_call 82; refine ((callsIn_wide.2 (Tryd.strings_Cut r ⟨#[48, 49, 49, 49, 49, 49, 49, 48]⟩ m _ (by omega) hmr))).mono ?_; rintro e w2 ⟨rfl, k2, rfl⟩; rw [HCr.out]; have hm2 : (wr.drewN k2).cell? ⟨0, 0, none⟩ = some (.int .i64 m) := hmr; obtain ⟨fn, tmps, assign, body, hy, hR⟩ := hY pre (mkW s1) (wr.drewN k2) (hJd pre wr k2 hJr) (by rw [HN4.out]; simp); rw [HMK.out] at hy)
        refine hR.mono ?_
        rintro e W3 (⟨rfl, hJ3, hk3⟩ | ⟨rfl, hJx3⟩)
        · have hm3 : W3.cell? ⟨0, 0, none⟩ = some (.int .i64 m) := (hk3.cell (p := ⟨0, 0, none⟩) hg).trans hm2
          gi_wp2
          go_roundw
          case rel => exact ⟨⟨r1.toArray⟩, true, pre ++ [mkW s1], f', rfl, rfl, by omega, by omega, by rw [if_pos rfl]; exact HN4.out, hJ3, hm3⟩
          case measure => simp only [vsz]; omega
        · gi_wp2
          refine bodyPost_ret (results_none rfl _ _ _) rfl ?_
          exact ⟨⟨_, rfl⟩, .inr ⟨pre ++ [mkW s1], ⟨bas (stF f' r1), HN4.out.symm⟩, hJx3⟩⟩

theorem stretches_any (s : ByteArray) (w : World) : Calls Tryd.prog 66 #[.string s] w fun e w' => e = .returned (.func (.func 81) #[] #[.pointer (some ⟨w.heap.size, 0, none⟩)]) ∧ w' = w.alloc (.cells #[.string s] 9) := by
  have hmf : ∀ fn first cap w, (Instr.makeFunc fn first cap).run Tryd.prog w = .ok (.func fn first cap) w := fun _ _ _ _ => rfl
  go_enter Tryd.func66, Tryd.ntmps66
  go_wp2
  go_ret
  exact ⟨rfl, rfl⟩
theorem stretches_stops (n : Nat) (hn : 2 ≤ n) (Bn n₀ : Nat) (m : Int) (s : ByteArray) (hs : s.size ≤ 65536) (hg : 0 < n₀) (w : World) (_hn₀ : n₀ ≤ w.heap.size) (hB : Bn < w.heap.size)
    (hc : w.cell? ⟨Bn, 0, none⟩ = some (.string s)) (hm : w.cell? ⟨0, 0, none⟩ = some (.int .i64 m)) :
    SeqStopsK Fence.wide n Tryd.prog 81 #[.pointer (some ⟨Bn, 0, none⟩)] (fun x : Wd => #[Value.string x.1]) (Below n₀) (fun ys => ys = bas (stL s.data.toList)) (fun pre => pre <+: bas (stL s.data.toList)) (stL s.data.toList).length w := fun l J Jx W hW hJ _ hY h0 =>
  stretches1_in n hn l Bn n₀ m s hs J Jx (fun pre W' k h => hJ pre W' (W'.drewN k) none h ⟨rfl, rfl, rfl, Nat.le_refl _, fun _ _ _ => rfl⟩ (fun r e => by cases e)) hY hg W ((hW.cell (p := ⟨Bn, 0, none⟩) hB).trans hc) ((hW.cell (p := ⟨0, 0, none⟩) (by simp; omega)).trans hm) h0
theorem stF_len : ∀ (n : Nat) (r : List UInt8), (stF n r).length * 8 ≤ r.length
  | 0, _ => by simp [stF]
  | n + 1, r => by
    rw [stF]
    split
    · rename_i h
      have h1 := (ctf_len r).1 h
      have h2 := stF_len n (ctf r).2.1
      simp only [List.length_cons]; omega
    · simp
theorem stL_len (l : List UInt8) : (stL l).length * 8 ≤ l.length := by
  unfold stL
  split
  · rename_i h
    have h1 := (ctf_len l).1 h
    have h2 := stF_len (l.length + 1) (ctf l).2.1
    omega
  · simp
end Go.Proofs.YtdalcopbaaabiaaDoor
