/-
  strings.Builder: the contracts of copyCheck and WriteByte at this program (after the library's own walks of them), with what other blocks keep.
-/
import Derived.Test.YtdalcopbaaabiaaDoorApp
import Derived.Test.YtdalcopbaaabiaaDoorShelf
import Derived.Lib.Builder
import Derived.Shelf.Strings.Builder1
namespace Go.Proofs.YtdalcopbaaabiaaDoor
open Go.RowKit

/-- A builder in block b, b in the call's own part (from B on), holding the bytes l, its buffer in a block from m on. -/
def Bld (B m b : Nat) (l : List UInt8) (w : World) : Prop :=
  B ≤ b ∧ b < m ∧ m ≤ w.heap.size ∧ ∃ p v, (p = .pointer none ∨ p = .pointer (some ⟨b, 0, none⟩)) ∧ w.heap[b]? = some (.cells #[p, v] 66 (0, 0)) ∧ w.ownsRow m 5 1 v l.length (bts l)
/-- All blocks below m but b are as they were. -/
def KeepB (m b : Nat) (w w' : World) : Prop := ∀ k, k < m → k ≠ b → w'.heap[k]? = w.heap[k]?
theorem KeepB.refl (m b : Nat) (w : World) : KeepB m b w w := fun _ _ _ => rfl
theorem KeepB.trans {m b : Nat} {w w1 w2 : World} (h : KeepB m b w w1) (k : KeepB m b w1 w2) : KeepB m b w w2 := fun j h1 h2 => (k j h1 h2).trans (h j h1 h2)
theorem Row.keepB {w w' : World} {m b B : Nat} {T : TypeId} {xs : List Value} (h : Row w B T xs) (hk : KeepB m b w w') (h1 : B < m) (h2 : B ≠ b) : Row w' B T xs := by
  unfold Row at h ⊢; rw [hk B h1 h2]; exact h
theorem Own.keepB {w w' : World} {base m b : Nat} {T : TypeId} {v : Value} {xs : List Value} (h : Own w base T v xs) (hk : KeepB m b w w') (h1 : ∀ k, v.ownBlock = some k → k < m ∧ k ≠ b) : Own w' base T v xs := by
  obtain ⟨hl, h | h⟩ := h
  · exact ⟨hl, .inl h⟩
  · obtain ⟨g, cap, cur, rfl, hb, hg, r⟩ := h
    refine ⟨hl, .inr ⟨g, cap, cur, rfl, hb, ?_, r⟩⟩
    have := h1 g rfl
    rw [hk g this.1 this.2]; exact hg

set_option maxHeartbeats 1000000 in
set_option maxRecDepth 100000 in
theorem copyCheck_used (b : Nat) (w : World) (h0 : w.cell? ⟨b, 0, none⟩ = some (.pointer (some ⟨b, 0, none⟩))) :
    Calls Tryd.prog 80 #[.pointer (some ⟨b, 0, none⟩)] w fun e w' => e = .returned (.tuple #[]) ∧ w = w' := by
  obtain ⟨j, hj, _⟩ := Option.map_eq_some_iff.1 (show (Tryd.prog.info? 66).map (·.size) = some 2 by kernel_rfl)
  go_enter Tryd.func80, Tryd.ntmps80
  go_wp2
  rw [Lib.run_neq_ptr_same w _ Tryd.underlying63 hj]
  go_wp2
  go_end0
  exact ⟨rfl, rfl⟩

set_option maxHeartbeats 1000000 in
set_option maxRecDepth 100000 in
theorem copyCheck_fresh (b : Nat) (w : World) (h0 : w.cell? ⟨b, 0, none⟩ = some (.pointer none)) (hsh : w.shape? b = some (66, 2)) (hfz : w.frozen? ⟨b, 0, none⟩ = false) :
    Calls Tryd.prog 80 #[.pointer (some ⟨b, 0, none⟩)] w fun e w' => e = .returned (.tuple #[]) ∧ w' = w.setCell ⟨b, 0, none⟩ (.pointer (some ⟨b, 0, none⟩)) := by
  obtain ⟨j, hj, hjs⟩ := Option.map_eq_some_iff.1 (show (Tryd.prog.info? 66).map (·.size) = some 2 by kernel_rfl)
  go_enter Tryd.func80, Tryd.ntmps80
  go_wp2
  rw [Lib.run_to_unsafe w ⟨b, 0, none⟩ Tryd.underlying63 Tryd.underlying111 hj (by rw [hjs]; decide) hsh (Nat.zero_lt_succ 1)]
  simp only [Result.andThen]
  rw [Oper.upon_value]
  go_wp2
  rw [run_callFunc_extern Tryd.func95 (by kernel_rfl) (by kernel_rfl) (by kernel_rfl) (e := Extern.AbiNoEscape.same) (by kernel_rfl)]
  rw [Lib.run_noEscape]
  simp only [Result.andThen]
  rw [Oper.upon_value]
  go_wp2
  rw [Lib.run_from_unsafe w ⟨b, 0, none⟩ Tryd.underlying111 Tryd.underlying63 hj hsh (by kernel_rfl)]
  simp only [Result.andThen]
  rw [Oper.upon_value]
  go_wp2
  go_end0
  exact ⟨rfl, rfl⟩

theorem bts_cells (l : List UInt8) : bts l = Lib.byteCells l := by simp [bts, Lib.byteCells]
theorem ownsRow_mono {w : World} {B m : Nat} {T : TypeId} {v : Value} {n : Nat} {xs : List Value} (h : w.ownsRow m T 1 v n xs) (hB : B ≤ m) : w.ownsRow B T 1 v n xs := by
  obtain ⟨hl, h | ⟨g, cap, cur, hv, hb, r⟩⟩ := h
  · exact ⟨hl, .inl h⟩
  · exact ⟨hl, .inr ⟨g, cap, cur, hv, Nat.le_trans hB hb, r⟩⟩
theorem Bld.isBuilder {B m b : Nat} {l : List UInt8} {w : World} (h : Bld B m b l w) : Lib.IsBuilder 66 5 B b (Lib.byteCells l) w := by
  obtain ⟨h1, h2, h3, p, v, hp, hb, ho⟩ := h
  have hne : v.ownBlock ≠ some b := fun he => by have := (ho.lt b he).1; omega
  rw [← bts_cells]
  have ho' : w.ownsRow B 5 1 v (bts l).length (bts l) := by rw [bts_len]; exact ownsRow_mono ho (by omega)
  rcases hp with rfl | rfl
  · exact .inl ⟨h1, v, hb, ho', hne⟩
  · exact .inr ⟨h1, v, hb, ho', hne⟩
/-- A builder that has just been laid. -/
theorem bld_new (B : Nat) (w : World) (h : B ≤ w.heap.size) : Bld B (w.heap.size + 1) w.heap.size [] (w.alloc (.cells #[.pointer none, .slice none 0 0] 66)) := by
  refine ⟨h, by omega, by simp, .pointer none, .slice none 0 0, .inl rfl, heap_alloc_new w _, World.ownsRow_nil _ _ _ _⟩
/-- The blocks that were made since may be counted among those that are kept. -/
theorem Bld.raise {B m b m' : Nat} {w w' : World} (h : Bld B m b [] w) (hk : Below m w w') (h1 : m ≤ m') (h2 : m' ≤ w'.heap.size) (hnil : w.heap[b]? = some (.cells #[.pointer none, .slice none 0 0] 66 (0, 0))) : Bld B m' b [] w' := by
  obtain ⟨h1', h2', h3, _⟩ := h
  refine ⟨h1', by omega, h2, .pointer none, .slice none 0 0, .inl rfl, ?_, World.ownsRow_nil _ _ _ _⟩
  rw [hk.block b h2']; exact hnil

set_option maxHeartbeats 1000000 in
set_option maxRecDepth 100000 in
theorem copyCheck_any (B m b : Nat) (l : List UInt8) (w : World) (h : Bld B m b l w) :
    Calls Tryd.prog 80 #[.pointer (some ⟨b, 0, none⟩)] w fun e w' => e = .returned (.tuple #[]) ∧ KeepB m b w w' ∧ Below B w w' ∧ w.heap.size ≤ w'.heap.size ∧
      ∃ v, w'.heap[b]? = some (.cells #[.pointer (some ⟨b, 0, none⟩), v] 66 (0, 0)) ∧ w'.ownsRow m 5 1 v l.length (bts l) := by
  obtain ⟨h1, h2, h3, p, v, hp, hb, ho⟩ := h
  have c0 : w.cell? ⟨b, 0, none⟩ = some p := by rw [Lib.cell_of_heap hb]; rfl
  rcases hp with rfl | rfl
  · refine (copyCheck_fresh b w c0 (by simp [World.shape?, hb]) (by simp [World.frozen?, hb])).mono ?_
    rintro e w' ⟨rfl, rfl⟩
    have hne : v.ownBlock ≠ some b := fun he => by have := (ho.lt b he).1; omega
    refine ⟨rfl, fun k _ hk => Below.heap_setCell _ _ _ _ hk, (Below.refl B w).setCell (p := ⟨b, 0, none⟩) h1 _, by simp [World.setCell], v, ?_, ?_⟩
    · simp [World.setCell, Array.getElem?_modify, hb]
    · exact ho.kept (row := some b) ⟨rfl, rfl, rfl, by simp [World.setCell], fun k _ hk => Below.heap_setCell _ _ _ _ (fun e => hk (by simp [e]))⟩ (.inr hne)
  · refine (copyCheck_used b w c0).mono ?_
    rintro e w' ⟨rfl, rfl⟩
    exact ⟨rfl, KeepB.refl _ _ _, Below.refl _ _, Nat.le_refl _, v, hb, ho⟩

set_option maxHeartbeats 2000000 in
set_option maxRecDepth 100000 in
/-- WriteByte: the byte behind those that are there. -/
theorem writeByte_any (B m b : Nat) (l : List UInt8) (c : UInt8) (w : World) (h : Bld B m b l w) (hlen : l.length + 1 ≤ 140737488355328) :
    Calls Tryd.prog 61 #[.pointer (some ⟨b, 0, none⟩), .int .u8 c.toNat] w fun e w' => e = .returned .nilIface ∧ Bld B m b (l ++ [c]) w' ∧ KeepB m b w w' ∧ Below B w w' := by
  obtain ⟨i0, hi, hz0, hz1, hz2⟩ := info_parts (show (Tryd.prog.info? 5).map (fun i => (i.zero, i.size, i.bytes)) = some (some (.int .u8 0), 1, 1) by kernel_rfl)
  have hd := h
  obtain ⟨hB, hbm, hmw, _⟩ := hd
  go_enter Tryd.func61, Tryd.ntmps61
  go_wp2_with (go_at_call 80; refine (copyCheck_any B m b l _ (by exact h)).mono ?_)
  rintro e w1 ⟨rfl, hk1, hb1, hsz, v, hbk, hown⟩
  have c0 : w1.cell? ⟨b, 0, none⟩ = some (.pointer (some ⟨b, 0, none⟩)) := by rw [Lib.cell_of_heap hbk]; rfl
  have c1 : w1.cell? ⟨b, 1, none⟩ = some v := by rw [Lib.cell_of_heap hbk]; rfl
  go_wp2_with (at_builtin; refine wpList_append_own _ rfl _ _ 64 rfl m 5 i0 (.int .u8 0) 1 1 Tryd.underlying64 hi hz0 hz1 hz2 rfl (by decide) _ _ _ rfl (hown.alloc _) ⟨w1.heap.size, 0, none⟩ 1 1 [.int .u8 c.toNat] rfl rfl ?c1 ?c2 ?c3 ?c4 ?c5 ?_)
  case c1 =>
    intro j u hj
    match j, hj with
    | 0, hj => simp at hj; subst hj; simp [Addr.add]
  case c2 => intro u hu; simp at hu; subst hu; rfl
  case c3 => unfold maxLen; omega
  case c4 => omega
  case c5 => simp; omega
  intro v' w2 hown' hgrow _
  have hne : v.ownBlock ≠ some b := fun he => by have := (hown.lt b he).1; omega
  have hlt : b < w1.heap.size := by omega
  have hb2 : w2.heap[b]? = some (.cells #[.pointer (some ⟨b, 0, none⟩), v] 66 (0, 0)) := by
    rw [hgrow.block b (by simp; omega) (fun e => hne e.symm), Lib.alloc_old w1 _ b hlt]
    exact hbk
  have d0 : w2.cell? ⟨b, 0, none⟩ = some (.pointer (some ⟨b, 0, none⟩)) := by rw [Lib.cell_of_heap hb2]; rfl
  have d1 : w2.cell? ⟨b, 1, none⟩ = some v := by rw [Lib.cell_of_heap hb2]; rfl
  have f1 : w2.frozen? ⟨b, 1, none⟩ = false := Lib.frozen_of_heap hb2 1
  obtain ⟨g, cap, rfl⟩ : ∃ g cap, v' = .slice (some ⟨g, 0, none⟩) (l.length + 1) cap := by
    rcases hown'.2 with ⟨_, h0⟩ | ⟨g, cap, cur, hv, _⟩
    · omega
    · exact ⟨g, cap, hv⟩
  have hgb : g ≠ b := by
    rintro rfl
    have := (hown'.lt g rfl).1; omega
  go_wp2
  go_ret
  have hs2 : m ≤ w2.heap.size := by have := hgrow.size; simp at this; omega
  refine ⟨rfl, ⟨hB, hbm, by simp [World.setCell]; exact hs2, .pointer (some ⟨b, 0, none⟩), .slice (some ⟨g, 0, none⟩) (l.length + 1) cap, .inr rfl, ?_, ?_⟩, ?_, ?_⟩
  · simp [World.setCell, Array.getElem?_modify, hb2]
  · have hh : w2.ownsRow m 5 1 (.slice (some ⟨g, 0, none⟩) (l.length + 1) cap) (l ++ [c]).length (bts (l ++ [c])) := by
      simpa [bts] using hown'
    exact hh.kept (row := some b) ⟨rfl, rfl, rfl, by simp [World.setCell], fun k _ hk => Below.heap_setCell _ _ _ _ (fun e => hk (by simp [e]))⟩ (.inr (by simp [Value.ownBlock]; exact hgb))
  · intro k h1 h2
    rw [Below.heap_setCell _ _ _ _ h2, hgrow.block k (by simp; omega) (fun e => by have := (hown.lt k e.symm).1; omega), Lib.alloc_old w1 _ k (by omega)]
    exact hk1 k h1 h2
  · exact ((hb1.alloc (by omega) _).grown hgrow (by simp; omega) (fun k hk => by have := (hown.lt k hk).1; omega)).setCell (p := ⟨b, 1, none⟩) hB _

/-- String: the bytes. -/
theorem builder_string (B m b : Nat) (l : List UInt8) (w : World) (h : Bld B m b l w) :
    Calls Tryd.prog 62 #[.pointer (some ⟨b, 0, none⟩)] w fun e w' => e = .returned (.string ⟨l.toArray⟩) ∧ Below B w w' :=
  Tryd.Builder_String_any B b l w h.isBuilder (by have := h.1; have := h.2.1; have := h.2.2.1; omega)
end Go.Proofs.YtdalcopbaaabiaaDoor
