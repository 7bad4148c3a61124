/-
  strings.Builder.WriteString at this program, with what other blocks keep.
-/
import Derived.Test.YtdalcopbaaabiaaDoorBld
import Derived.Lib.AppendStr
namespace Go.Proofs.YtdalcopbaaabiaaDoor
open Go.RowKit

theorem bts_str (s : ByteArray) : Lib.strCells s = bts s.data.toList := by
  apply List.ext_getElem?
  intro i
  rw [bts_get]
  simp [Lib.strCells]

set_option maxHeartbeats 2000000 in
set_option maxRecDepth 100000 in
/-- WriteString: the string's bytes behind those that are there. -/
theorem writeString_any (B m b : Nat) (l : List UInt8) (s : ByteArray) (w : World) (h : Bld B m b l w) (hlen : l.length + s.size ≤ 140737488355328) :
    Calls Tryd.prog 64 #[.pointer (some ⟨b, 0, none⟩), .string s] w fun e w' => e = .returned (.tuple #[.int .i64 s.size, .nilIface]) ∧ Bld B m b (l ++ s.data.toList) w' ∧ KeepB m b w w' ∧ Below B w w' := by
  obtain ⟨i0, hi, hz0, hz1, hz2⟩ := info_parts (show (Tryd.prog.info? 5).map (fun i => (i.zero, i.size, i.bytes)) = some (some (.int .u8 0), 1, 1) by kernel_rfl)
  have hd := h
  obtain ⟨hB, hbm, hmw, _⟩ := hd
  go_enter Tryd.func64, Tryd.ntmps64
  go_wp2_with (go_at_call 80; refine (copyCheck_any B m b l _ (by exact h)).mono ?_)
  rintro e w1 ⟨rfl, hk1, hb1, hsz, v, hbk, hown⟩
  have c0 : w1.cell? ⟨b, 0, none⟩ = some (.pointer (some ⟨b, 0, none⟩)) := by rw [Lib.cell_of_heap hbk]; rfl
  have c1 : w1.cell? ⟨b, 1, none⟩ = some v := by rw [Lib.cell_of_heap hbk]; rfl
  go_wp2_with (at_builtin; refine Lib.wpList_append_own_string _ rfl _ _ 64 9 rfl m 5 i0 Tryd.underlying64 Tryd.underlying9 hi hz0 hz1 hz2 _ _ _ rfl hown s rfl ?c3 ?c4 ?c5 ?_)
  case c3 => unfold maxLen; omega
  case c4 => omega
  case c5 => omega
  intro v' w2 hown' hgrow _
  have hne : v.ownBlock ≠ some b := fun he => by have := (hown.lt b he).1; omega
  have hlt : b < w1.heap.size := by omega
  have hb2 : w2.heap[b]? = some (.cells #[.pointer (some ⟨b, 0, none⟩), v] 66 (0, 0)) := by
    rw [hgrow.block b (by omega) (fun e => hne e.symm)]
    exact hbk
  have d0 : w2.cell? ⟨b, 0, none⟩ = some (.pointer (some ⟨b, 0, none⟩)) := by rw [Lib.cell_of_heap hb2]; rfl
  have d1 : w2.cell? ⟨b, 1, none⟩ = some v := by rw [Lib.cell_of_heap hb2]; rfl
  have f1 : w2.frozen? ⟨b, 1, none⟩ = false := Lib.frozen_of_heap hb2 1
  have hvb : v'.ownBlock ≠ some b := fun he => by have := (hown'.lt b he).1; omega
  obtain ⟨ao, n', cap, rfl⟩ : ∃ ao n' cap, v' = .slice ao n' cap := by
    rcases hown'.2 with ⟨hv, _⟩ | ⟨g, cap, cur, hv, _⟩
    · exact ⟨_, _, _, hv⟩
    · exact ⟨_, _, _, hv⟩
  go_wp2
  go_ret2
  have hs2 : m ≤ w2.heap.size := by have := hgrow.size; omega
  refine ⟨rfl, ⟨hB, hbm, by simp [World.setCell]; exact hs2, .pointer (some ⟨b, 0, none⟩), .slice ao n' cap, .inr rfl, ?_, ?_⟩, ?_, ?_⟩
  · simp [World.setCell, Array.getElem?_modify, hb2]
  · have hh : w2.ownsRow m 5 1 (.slice ao n' cap) (l ++ s.data.toList).length (bts (l ++ s.data.toList)) := by
      rw [bts_str, bts_append] at hown'
      have e : (l ++ s.data.toList).length = l.length + s.size := by simp
      rw [e]; exact hown'
    exact hh.kept (row := some b) ⟨rfl, rfl, rfl, by simp [World.setCell], fun k _ hk => Below.heap_setCell _ _ _ _ (fun e => hk (by simp [e]))⟩ (.inr hvb)
  · intro k h1 h2
    rw [Below.heap_setCell _ _ _ _ h2, hgrow.block k (by omega) (fun e => by have := (hown.lt k e.symm).1; omega)]
    exact hk1 k h1 h2
  · exact (hb1.grown hgrow (by omega) (fun k hk => by have := (hown.lt k hk).1; omega)).setCell (p := ⟨b, 1, none⟩) hB _
end Go.Proofs.YtdalcopbaaabiaaDoor
