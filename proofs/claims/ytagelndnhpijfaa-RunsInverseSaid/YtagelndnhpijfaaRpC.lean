/-
  The contract of (*strings.Replacer).build at the four strings 0, 1, 1, 0: a table of 256 letters in which these two are exchanged.
-/
import Derived.Test.YtagelndnhpijfaaRpA
import Derived.Great.Walk
import Derived.Great.BuildSlice
namespace Go.Proofs.Ytagelndnhpijfaa
open Go.RowKit

def Z0 : Array Value := (List.replicate 256 (Value.int .u8 0)).toArray
set_option maxRecDepth 100000 in
theorem z0_built : Try.prog.built 119 [] = some Z0 := by kernel_rfl
set_option maxRecDepth 100000 in
theorem z0_zero : ((Try.prog.info? 119).bind (·.zero)) = some (.agg Z0) := by kernel_rfl
theorem z0_size : (Try.prog.info? 119).map (·.size) = some 256 := by kernel_rfl
theorem Z0_size : Z0.size = 256 := by rw [Z0, List.size_toArray, List.length_replicate]
theorem Z0_one : Z0.all (·.oneCell') = true := by
  rw [Z0, List.all_toArray, List.all_eq_true]
  intro x hx
  rw [List.eq_of_mem_replicate hx]; rfl
/-- The table when its first k letters are laid. -/
def tb (k : Nat) : List Value := (List.range k).map (fun j => .int .u8 (j : Int)) ++ List.replicate (256 - k) (.int .u8 0)
theorem tb_len {k : Nat} (h : k ≤ 256) : (tb k).length = 256 := by rw [tb, List.length_append, List.length_map, List.length_range, List.length_replicate]; omega
theorem tb_set {k : Nat} (h : k < 256) : (tb k).set k (.int .u8 (k : Int)) = tb (k + 1) := by
  have h1 : ((List.range k).map (fun j : Nat => Value.int .u8 (j : Int))).length = k := by rw [List.length_map, List.length_range]
  rw [tb, tb, List.set_append, if_neg (by omega), h1, Nat.sub_self, show 256 - k = 256 - (k + 1) + 1 by omega, List.replicate_succ, List.set_cons_zero, List.range_succ, List.map_append, List.append_assoc]
  rfl
theorem tb_zero : Z0 = (tb 0).toArray := rfl
theorem run_newTable (ρ : Operand → Value) (o : Oper) (ho : o.op = .alloc 119) (w : World) :
    (execOp ρ o).run Try.prog w = .ok (.value (.pointer (some ⟨w.heap.size, 0, none⟩))) (w.alloc (.cells Z0 119)) := by
  unfold execOp
  obtain ⟨i, hi, hz⟩ := Option.bind_eq_some_iff.1 z0_zero
  simp [ho, Instr.alloc, zeroValue, typeInfo, hi, hz, newVar, newRow, Value.cells]
theorem setRow_new (w : World) (Z : Array Value) (t : TypeId) : (w.alloc (.cells Z t)).setRow w.heap.size Z = w.alloc (.cells Z t) := by
  unfold World.setRow World.alloc
  congr 1
  apply Array.ext
  · simp
  · intro k h1 h2
    simp only [Array.getElem_modify]
    split
    · rename_i hk
      subst hk
      simp
    · rfl
end Go.Proofs.Ytagelndnhpijfaa
