/-
  Keys that are pairs of offsets (watermark.rest), in a map that the call makes.
-/
import Derived.Test.YtpnfipemencgnaaMap
import Derived.Test.YtpnfipemencgnaaProg
import Derived.Laws.StructEq
namespace Go.Proofs.Ytpnfipemencgnaa
open Go.RowKit

def encR (k : Nat × Nat) : Value := .agg #[.int .i64 (k.1 : Int), .int .i64 (k.2 : Int)]

/-- The two fields of the key's type. -/
theorem rest_fields : ∃ f0 f1 : Field, Try.prog.underlying 64 = some (.struct #[f0, f1]) ∧ Try.prog.fieldsOf 64 = #[f0, f1] ∧ f0.name ≠ "_" ∧ f1.name ≠ "_" ∧ f0.type = 3 ∧ f1.type = 3 ∧ f0.offset = 0 ∧ f1.offset = 1 :=
  ⟨(Try.prog.fieldsOf 64).getD 0 default, (Try.prog.fieldsOf 64).getD 1 default, by kernel_rfl, by kernel_rfl, by decide +kernel, by decide +kernel, by kernel_rfl, by kernel_rfl, by kernel_rfl, by kernel_rfl⟩
theorem run_part0 (a b : Value) (w : World) : (part 3 #[a, b] 0).run Try.prog w = .ok a w := by kernel_rfl
theorem run_part1 (a b : Value) (w : World) : (part 3 #[a, b] 1).run Try.prog w = .ok b w := by kernel_rfl

theorem eq_pair (a b : Nat × Nat) (w : World) : (Op.equal 64 (encR a) (encR b)).run Try.prog w = .ok (a == b) w := by
  obtain ⟨f0, f1, h1, h2, n0, n1, t0, t1, o0, o1⟩ := rest_fields
  show (Op.equalIn (9998 + 1 + 1) 64 _ _).run Try.prog w = _
  generalize 9998 = m
  unfold encR
  rw [run_equalIn_struct w (m + 1) 64 _ _ (by rw [h2]; exact h1) (by kernel_rfl), h2]
  simp only [Op.eqFields, n0, n1, t0, t1, o0, o1, ne_eq, not_false_eq_true, if_true, Sem.run_bind, run_part0, Result.andThen_ok, run_equalIn_int w m 3 .i64 .i64 _ _ Try.underlying3]
  have hp : (a == b) = (((a.1 : Int) == (b.1 : Int)) && ((a.2 : Int) == (b.2 : Int))) := by
    obtain ⟨a1, a2⟩ := a
    obtain ⟨b1, b2⟩ := b
    rw [Bool.eq_iff_iff, Bool.and_eq_true, beq_iff_eq, beq_iff_eq, beq_iff_eq, Prod.mk.injEq]
    dsimp only
    omega
  rw [hp]
  cases h : ((a.1 : Int) == (b.1 : Int))
  · simp
  · cases h' : ((a.2 : Int) == (b.2 : Int)) <;> simp [run_part1, run_equalIn_int w m 3 .i64 .i64 _ _ Try.underlying3, h']

theorem findNow_pair (k : Nat × Nat) (f0 f1 : Field) (e : (Nat × Nat) × Value × Nat) (es : List ((Nat × Nat) × Value × Nat)) : Instr.findNow (.struct #[f0, f1]) (encR k) ((e :: es).map (toE encR)) 0 = none := rfl
theorem findAsking_pair (k : Nat × Nat) : ∀ (es : List ((Nat × Nat) × Value × Nat)) (i : Nat) (w : World), (Instr.findAsking 64 (encR k) (es.map (toE encR)) i).run Try.prog w = .ok (lookE k es i) w
  | [], _, _ => rfl
  | e :: es, i, w => by
    simp only [List.map_cons, Instr.findAsking, toE, Sem.run_bind, eq_pair, Result.andThen_ok, lookE]
    cases h : (k == e.1)
    · simp only [Bool.false_eq_true, if_false]
      exact findAsking_pair k es (i + 1) w
    · simp
theorem chk_pair (b : Bool) (k : Nat × Nat) (w : World) : (Instr.checkKey b 10000 64 (encR k)).run Try.prog w = .ok () w := by
  obtain ⟨f0, f1, h1, h2, n0, n1, t0, t1, o0, o1⟩ := rest_fields
  show (Instr.checkKey b (9998 + 1 + 1) 64 _).run Try.prog w = _
  generalize 9998 = m
  have hi : ∀ (n : Int) (w : World), (Instr.checkKey b (m + 1) 3 (.int .i64 n)).run Try.prog w = .ok () w := by
    intro n w; simp [Instr.checkKey, run_underlying Try.underlying3]
  unfold encR
  rw [Instr.checkKey]
  simp [run_underlying h1, n0, n1, t0, t1, o0, o1, run_part0, run_part1, hi]
theorem keyLaw_rest : KeyLaw Try.prog 64 encR := {
  chk := chk_pair
  find := by
    intro k es w
    obtain ⟨f0, f1, h1, h2, n0, n1, t0, t1, o0, o1⟩ := rest_fields
    unfold Instr.findKey
    cases es with
    | nil => simp [run_underlying h1, Instr.findNow, lookE]
    | cons e es => simp only [Sem.run_bind, run_underlying h1, Result.andThen_ok, findNow_pair, findAsking_pair]
  bits := by intro k; simp [Instr.sameBits, encR] }
end Go.Proofs.Ytpnfipemencgnaa
