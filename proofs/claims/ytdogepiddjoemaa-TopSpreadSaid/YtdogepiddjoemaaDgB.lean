/-
  The contract of the iterator over the bits of a word.
-/
import Derived.RangeFuncBox
import Derived.RangeFuncNested
import Derived.RangeFuncBound
import Derived.RangeFuncCalls
import Derived.RangeFuncLeaves
import Derived.Shelf.Abstract
import Derived.Shelf.RegionOpen
import Derived.OwnWalkIn
import Derived.TacticsInMore
import Derived.LoopNIn
import Derived.LoopIn
import Derived.Maps.AppendAt
import Derived.Test.YtdogepiddjoemaaDgA
namespace Go.Proofs.Ytdogepiddjoemaa
open Go.RowKit Go.Shelf
attribute [local go_sem] Oper.semAt_some

abbrev Bt := {b : Nat // b ≤ 1}
def mkB (c : UInt8) : Bt := ⟨bt c, bt_le c⟩
def bbs (l : List UInt8) : List Bt := l.map mkB
/-- What the cell b holds stays. -/
def KeepC (b : Nat) (W W' : World) : Prop := ∀ v, W.cell? ⟨b, 0, none⟩ = some v → W'.cell? ⟨b, 0, none⟩ = some v
theorem keepC_t {b : Nat} {A B C : World} (h : KeepC b A B) (k : KeepC b B C) : KeepC b A C := fun v hv => k v (h v hv)
theorem keepC_r (b : Nat) (W : World) : KeepC b W W := fun _ h => h
theorem keepC_b {n b : Nat} (W : World) (l : Nat) (o o' : Obj) (_ : n ≤ l) (h : W.heap[l]? = some o) (hc : o.isCells = false) (_ : o.isWalk = false) : KeepC b W (W.putObj l o') := fun _ hv =>
  cell_kept hv (grownBy_putObj' W l o') (fun r e => by cases e; exact ⟨o, h, hc⟩)
theorem sub48 {c : UInt8} (h : isB c = true) : ((c.toNat : Int) - 48) = ((bt c : Nat) : Int) := by
  have : c = 48 ∨ c = 49 := by simpa [isB] using h
  rcases this with rfl | rfl <;> rfl

set_option maxRecDepth 100000 in
set_option maxHeartbeats 1000000 in
theorem bits1_in (n : Nat) (hn : 2 ≤ n) (l Bn : Nat) (s : ByteArray) (hs : s.size ≤ 140000) (hb : s.data.toList.all isB = true) (J Jx : List Bt → World → Prop)
    (_hJd : ∀ pre W k, J pre W → J pre (W.drewN k))
    (hY : ∀ pre x W, J pre W → pre.length < s.size → YieldAt Fence.wide (n - 1) Try.prog l #[.int .u64 (x.1 : Int)] W fun e W' =>
      (e = .returned (.bool true) ∧ J (pre ++ [x]) W' ∧ KeepC Bn W W') ∨ (e = .returned (.bool false) ∧ Jx (pre ++ [x]) W'))
    (W : World) (hBn : W.cell? ⟨Bn, 0, none⟩ = some (.string s)) (h0 : J [] W) :
    CallsIn Fence.wide n Try.prog 41 #[.func (.yield l) #[] #[], .pointer (some ⟨Bn, 0, none⟩)] W fun e W' => (∃ v, e = .returned v) ∧
      ((∃ ys, ys = bbs s.data.toList ∧ J ys W') ∨ (∃ pre, pre <+: bbs s.data.toList ∧ Jx pre W')) := by
  obtain ⟨N, hN⟩ : ∃ N, bbs s.data.toList = N := ⟨_, rfl⟩
  have e0 : s.data.toList.length = s.size := rfl
  have hNl : N.length = s.size := by rw [← hN]; simp [bbs]
  have hNk : ∀ j (h : j < s.size), N.take (j + 1) = N.take j ++ [mkB s[j]] := fun j h => by
    rw [List.take_add_one, ← hN, bbs, List.getElem?_map, List.getElem?_eq_getElem (by simpa using h)]; rfl
  have HNK := Lib.hid hNk; clear hNk
  have HNL := Lib.hid hNl; clear hNl
  have HBB := Lib.hid (fun j (h : j < s.size) => sub48 (List.all_eq_true.1 hb (s[j]) (List.getElem_mem (l := s.data.toList) (n := j) (by simpa using h))))
  rw [hN]
  clear hN hb e0
  have hn1 : 1 ≤ n := by omega
  refine callsIn_of_wp Try.func41 rfl trivial ?_ rfl
  simp only [Try.ntmps41, List.size_toArray, List.length_cons, List.length_nil, Nat.reduceAdd, Nat.reduceSub, Array.replicate_succ, Array.replicate_zero, List.push_toArray, List.append_toArray, List.nil_append, List.cons_append]
  gi_wp2
  gi_loopw [6] (fun i wr => ∃ j : Nat, j ≤ s.size ∧ i = .int .i64 j ∧ J (N.take j) wr ∧ wr.cell? ⟨Bn, 0, none⟩ = some (.string s)) (fun i _ => s.size - (intOf i).toNat)
  case atStart => exact ⟨0, by omega, rfl, by simpa using h0, hBn⟩
  case round =>
    obtain ⟨j, hj, rfl, hJ, hc⟩ := hrel
    by_cases hlt : j < s.size
    · have hsb := HBB.out j hlt
      have hbl := bt_le s[j]
      obtain ⟨fn, tmps, assign, body, hy, hR⟩ := hY (N.take j) (mkB s[j]) wr hJ (by rw [List.length_take, HNL.out]; omega)
      have hmk : (mkB s[j]).1 = bt s[j] := rfl
      rw [hmk] at hy
      have HK := Lib.hid (HNK.out j hlt)
      obtain ⟨b, hbb⟩ : ∃ b, bt s[j] = b := ⟨_, rfl⟩
      rw [hbb] at hsb hbl hy
      clear hmk hbb
      gi_wp2
      refine hR.mono ?_
      rintro e W3 (⟨rfl, hJ3, hk3⟩ | ⟨rfl, hJx3⟩)
      · have hc3 := hk3 _ hc
        gi_wp2
        go_roundw
        case rel => exact ⟨j + 1, by omega, by go_num, by rw [HK.out]; exact hJ3, hc3⟩
        case measure => simp [intOf]; omega
      · gi_wp2
        refine bodyPost_ret (results_none rfl _ _ _) rfl ?_
        exact ⟨⟨_, rfl⟩, .inr ⟨N.take j ++ [mkB s[j]], by rw [← HK.out]; exact List.take_prefix _ _, hJx3⟩⟩
    · obtain rfl : j = s.size := by omega
      have hd : decide ((s.size : Int) < (s.size : Int)) = false := by simp
      gi_wp2
      go_end0
      exact ⟨⟨_, rfl⟩, .inl ⟨N, rfl, by rwa [← HNL.out, List.take_length] at hJ⟩⟩

theorem bits_any (s : ByteArray) (w : World) : Calls Try.prog 30 #[.string s] w fun e w' => e = .returned (.func (.func 41) #[] #[.pointer (some ⟨w.heap.size, 0, none⟩)]) ∧ w' = w.alloc (.cells #[.string s] 9) := by
  have hmf : ∀ fn first cap w, (Instr.makeFunc fn first cap).run Try.prog w = .ok (.func fn first cap) w := fun _ _ _ _ => rfl
  go_enter Try.func30, Try.ntmps30
  go_wp2
  go_ret
  exact ⟨rfl, rfl⟩
theorem bits_stops (n : Nat) (hn : 2 ≤ n) (Bn : Nat) (s : ByteArray) (hs : s.size ≤ 140000) (hb : s.data.toList.all isB = true) (w : World) (hB : Bn < w.heap.size)
    (hc : w.cell? ⟨Bn, 0, none⟩ = some (.string s)) :
    SeqStopsK Fence.wide n Try.prog 41 #[.pointer (some ⟨Bn, 0, none⟩)] (fun x : Bt => #[Value.int .u64 (x.1 : Int)]) (KeepC Bn) (fun ys => ys = bbs s.data.toList) (fun pre => pre <+: bbs s.data.toList) s.size w := fun l J Jx W hW hJ _ hY h0 =>
  bits1_in n hn l Bn s hs hb J Jx (fun pre W' k h => hJ pre W' (W'.drewN k) none h ⟨rfl, rfl, rfl, Nat.le_refl _, fun _ _ _ => rfl⟩ (fun r e => by cases e)) hY W ((hW.cell (p := ⟨Bn, 0, none⟩) hB).trans hc) h0
end Go.Proofs.Ytdogepiddjoemaa
