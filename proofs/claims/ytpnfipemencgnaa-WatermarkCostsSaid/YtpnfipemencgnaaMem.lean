/-
  Memory in a walk: a block of cells known whole (Row), a slice of one-cell elements that the call owns (Own), and the walk's rules for make, append and string(bytes) over them.
-/
import Derived.WalkKit
import Derived.WalkSpells
import Derived.WalkLawsBesides
import Derived.Deep.QuietTactic
import Derived.BigQuiet
import Derived.Lib.Hide
import Derived.Laws.CopyOwn
namespace Go.Proofs.Ytpnfipemencgnaa
open Go.RowKit

/-- Block B holds just these cells of element type T, and none of them is frozen. -/
def Row (w : World) (B : Nat) (T : TypeId) (xs : List Value) : Prop := w.heap[B]? = some (.cells xs.toArray T (0, 0))

theorem Row.lt {w : World} {B : Nat} {T : TypeId} {xs : List Value} (h : Row w B T xs) : B < w.heap.size := by
  unfold Row at h
  rcases Nat.lt_or_ge B w.heap.size with h' | h'
  · exact h'
  · rw [Array.getElem?_eq_none h'] at h; cases h
theorem Row.cell {w : World} {B : Nat} {T : TypeId} {xs : List Value} (h : Row w B T xs) (j : Nat) : w.cell? ⟨B, j, none⟩ = xs[j]? := by
  unfold Row at h; simp [World.cell?, h]
theorem Row.frozen {w : World} {B : Nat} {T : TypeId} {xs : List Value} (h : Row w B T xs) (j : Nat) : w.frozen? ⟨B, j, none⟩ = false := by
  unfold Row at h; simp [World.frozen?, h]
theorem Row.set {w : World} {B : Nat} {T : TypeId} {xs : List Value} (h : Row w B T xs) (j : Nat) (u : Value) : Row (w.setCell ⟨B, j, none⟩ u) B T (xs.set j u) := by
  have hlt := h.lt
  unfold Row at h ⊢
  have h' : w.heap[B] = .cells xs.toArray T (0, 0) := by
    rw [Array.getElem?_eq_getElem hlt] at h; exact Option.some.inj h
  simp [World.setCell, Array.getElem?_modify, h]
theorem Row.set_other {w : World} {B : Nat} {T : TypeId} {xs : List Value} (h : Row w B T xs) (a : Addr) (u : Value) (hne : B ≠ a.block) : Row (w.setCell a u) B T xs := by
  unfold Row at h ⊢; rw [Below.heap_setCell _ _ _ _ hne]; exact h
theorem Row.alloc {w : World} {B : Nat} {T : TypeId} {xs : List Value} (h : Row w B T xs) (o : Obj) : Row (w.alloc o) B T xs := by
  have hlt := h.lt
  unfold Row at h ⊢; rw [Below.heap_alloc _ _ _ hlt]; exact h
theorem Row.drewN {w : World} {B : Nat} {T : TypeId} {xs : List Value} (h : Row w B T xs) (n : Nat) : Row (w.drewN n) B T xs := h
theorem Row.drew {w : World} {B : Nat} {T : TypeId} {xs : List Value} (h : Row w B T xs) : Row w.drew B T xs := h
theorem Row.below {w w' : World} {B C : Nat} {T : TypeId} {xs : List Value} (h : Row w B T xs) (hb : Below C w w') (hB : B < C) : Row w' B T xs := by
  unfold Row at h ⊢; rw [hb.block _ hB]; exact h
theorem Row.grown {w w' : World} {B : Nat} {T : TypeId} {xs : List Value} {r : Option Nat} (h : Row w B T xs) (hb : w.grownBy w' r) (hB : some B ≠ r) : Row w' B T xs := by
  have hlt := h.lt
  unfold Row at h ⊢; rw [hb.block _ hlt hB]; exact h
theorem row_new (w : World) (T : TypeId) (xs : List Value) : Row (w.alloc (.cells xs.toArray T)) w.heap.size T xs := by
  unfold Row; exact heap_alloc_new w _
theorem cell_below {w w' : World} {C b j : Nat} {v : Value} (h : w.cell? ⟨b, j, none⟩ = some v) (hb : Below C w w') (hC : b < C) : w'.cell? ⟨b, j, none⟩ = some v := by
  rw [hb.cell (p := ⟨b, j, none⟩) hC]; exact h
theorem below_drewN' {B : Nat} {a w : World} (h : Below B a w) (n : Nat) : Below B a (w.drewN n) := below_drewN h n
theorem below_ofN {B : Nat} {w : World} (n : Nat) : Below B w (w.drewN n) := below_drewN (Below.refl _ _) n

theorem wpList_mkrow {P : Program} (w : World) {ops : Array Oper} {rest : List Oper} {o : Oper} {a : Act} {Q : Exit → Act → World → Prop}
    (hg : o.guard = none) (l : Operand) (t : TypeId) (hop : o.op = Op.makeSlice t l l) (e : TypeId) (z : Value) (bytes : Nat)
    (h1 : P.underlying t = some (.slice e)) (h2 : (P.info? e).map (fun i => (i.zero, i.size, i.bytes)) = some (some z, 1, bytes)) (hz : z.cells = #[z])
    (L : Int) (n : Nat) (hl : a.eval l = .int .i64 L) (hL : L = (n : Int)) (b2 : bytes * n ≤ 281474976710656) (b3 : n ≤ 9223372036854775807)
    (hK : ∀ w', Row w' w.heap.size e (List.replicate n z) → Below w.heap.size w w' → w'.heap.size = w.heap.size + 1 → wpList P ops Q rest (a.put o.dst (.slice (some ⟨w.heap.size, 0, none⟩) n n)) w') :
    wpList P ops Q (o :: rest) a w := by
  refine wpList_plain hg fun K hK' => ?_
  obtain ⟨i, hi, hz0, hz1, hz2⟩ := info_parts h2
  subst hL
  have hr := run_make (P := P) w t e i z h1 hi hz0 .i64 .i64 n n (by omega) (Int.le_refl _) (by rw [hz2]; have : ((bytes * n : Nat) : Int) ≤ 281474976710656 := Int.ofNat_le.2 b2; rwa [Int.natCast_mul] at this) (by omega)
  simp only [Int.toNat_natCast, hz1, Nat.mul_one, hz] at hr
  unfold Oper.wp
  simp [execOp, hop, hl, hr, Result.andThen]
  refine hK' _ _ (hK _ ?_ ((Below.refl _ _).alloc (Nat.le_refl _) _) (World.size_alloc ..))
  have h := row_new w e (madeCells #[z] n).toList
  rw [toList_madeCells_one] at h
  have hm : madeCells #[z] n = (List.replicate n z).toArray := by rw [← toList_madeCells_one]
  rw [hm]; exact h

theorem ext_trans {a b c : World} (h : Below a.heap.size a b) (k : Below b.heap.size b c) : Below a.heap.size a c := h.trans (k.mono h.size)

/-! max of four and more numbers that are all 0. -/
@[go_sem] theorem run_max_z4 {P : Program} (w : World) (ts : Array TypeId) (t : TypeId) (k : IntKind) : (Builtin.max_ ts t #[.int k 0, .int k 0, .int k 0, .int k 0]).run P w = .ok (.int k 0) w := rfl
@[go_sem] theorem run_max_z5 {P : Program} (w : World) (ts : Array TypeId) (t : TypeId) (k : IntKind) : (Builtin.max_ ts t #[.int k 0, .int k 0, .int k 0, .int k 0, .int k 0]).run P w = .ok (.int k 0) w := rfl
@[go_sem] theorem run_max_z6 {P : Program} (w : World) (ts : Array TypeId) (t : TypeId) (k : IntKind) : (Builtin.max_ ts t #[.int k 0, .int k 0, .int k 0, .int k 0, .int k 0, .int k 0]).run P w = .ok (.int k 0) w := rfl
@[go_sem] theorem run_max_z7 {P : Program} (w : World) (ts : Array TypeId) (t : TypeId) (k : IntKind) : (Builtin.max_ ts t #[.int k 0, .int k 0, .int k 0, .int k 0, .int k 0, .int k 0, .int k 0]).run P w = .ok (.int k 0) w := rfl

/-- The bytes of a list, as cells. -/
def bts (l : List UInt8) : List Value := l.map fun b => .int .u8 (b.toNat : Int)
theorem bts_get (l : List UInt8) (j : Nat) : (bts l)[j]? = (l[j]?).map fun b => .int .u8 (b.toNat : Int) := by simp [bts]
theorem bts_len (l : List UInt8) : (bts l).length = l.length := by simp [bts]
theorem bts_set (l : List UInt8) (j : Nat) (b : UInt8) : (bts l).set j (.int .u8 (b.toNat : Int)) = bts (l.set j b) := by simp [bts, List.map_set]
theorem bts_rep (n : Nat) (b : UInt8) : List.replicate n (Value.int .u8 (b.toNat : Int)) = bts (List.replicate n b) := by simp [bts]
theorem bts_append (l m : List UInt8) : bts l ++ bts m = bts (l ++ m) := by simp [bts]

theorem foldl_push (l : List UInt8) : ∀ s : ByteArray, (l.map fun b => ((b.toNat : Nat) : Int)).foldl (fun r n => r.push (UInt8.ofNat n.toNat)) s = ⟨(s.data.toList ++ l).toArray⟩ := by
  induction l with
  | nil => intro s; simp
  | cons b l ih =>
    intro s
    simp only [List.map_cons, List.foldl_cons]
    rw [ih]
    congr 1
    simp [ByteArray.push]

/-- string(b), b a slice whose cells are these bytes. -/
theorem run_string_of {P : Program} (w : World) (src dst e : TypeId) (a : Addr) (c : Nat) (l : List UInt8)
    (hs : P.underlying src = some (.slice e)) (he : P.underlying e = some (.int .u8)) (hd : P.underlying dst = some .string)
    (h : ∀ j v, (bts l)[j]? = some v → w.cell? (a.add j) = some v) :
    (convert src dst (.slice (some a) l.length c)).run P w = .ok (.string ⟨l.toArray⟩) w := by
  rw [run_convert_bytes_string (P := P) w src dst e (some a) l.length c hs he hd]
  have hl : (loadCells a (bts l).length).run P w = .ok (bts l).toArray w := run_loadCells_list (P := P) w a (bts l) h
  rw [bts_len] at hl
  have hb : bts l = (l.map fun b => ((b.toNat : Nat) : Int)).map (Value.int .u8) := by simp [bts]
  rw [hb] at hl
  rw [run_bytesToString (P := P) w a l.length c _ hl, foldl_push]
  simp
theorem run_string_row {P : Program} {w : World} {src dst e : TypeId} {B c n : Nat} {l : List UInt8}
    (hs : P.underlying src = some (.slice e)) (he : P.underlying e = some (.int .u8)) (hd : P.underlying dst = some .string)
    (h : Row w B e (bts l)) (hn : l.length = n) :
    (convert src dst (.slice (some ⟨B, 0, none⟩) n c)).run P w = .ok (.string ⟨l.toArray⟩) w := by
  subst hn
  refine run_string_of w src dst e ⟨B, 0, none⟩ c l hs he hd fun j v hv => ?_
  have := h.cell j
  rw [hv] at this
  by_cases hj : j = 0
  · subst hj; simpa [Addr.add] using this
  · simpa [Addr.add, hj] using this
end Go.Proofs.Ytpnfipemencgnaa
