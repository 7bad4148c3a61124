/-
  The contract of strings.NewReplacer at the four strings 0, 1, 1, 0.
-/
import Derived.Test.YtagelndnhpijfaaRpF
namespace Go.Proofs.Ytagelndnhpijfaa
open Go.RowKit

/-- append(nil, x..): a new block that holds what x holds. -/
theorem wpList_appNil {P : Program} (w : World) {ops : Array Oper} {rest : List Oper} {o : Oper} {a : Act} {Q : Exit → Act → World → Prop} (hgd : o.guard = none) (s x : Operand) (t : TypeId)
    (ho : o.op = .call { callee := .builtin .append, args := #[s, x], argTypes := #[t, t] }) (e : TypeId) (z : Value) (bytes : Nat) (ht : P.underlying t = some (.slice e))
    (h2 : (P.info? e).map (fun i => (i.zero, i.size, i.bytes)) = some (some z, 1, bytes)) (hz : z.cells.size = 1)
    (hs : a.eval s = .slice none 0 0) (B m c : Nat) (news : List Value) (hx : a.eval x = .slice (some ⟨B, 0, none⟩) m c) (hl : news.length = m) (hnews : ∀ j u, news[j]? = some u → w.cell? ⟨B, j, none⟩ = some u) (h1 : ∀ u ∈ news, u.oneCell' = true)
    (hm : 0 < m) (hmax : m ≤ 9223372036854775807) (hbytes : m * bytes ≤ 140737488355328)
    (h : ∀ g cap w', Below w.heap.size w w' → w.heap.size ≤ g → g < w'.heap.size → (∀ j, j < m → w'.cell? ⟨g, j, none⟩ = news[j]?) → wpList P ops Q rest (a.put o.dst (.slice (some ⟨g, 0, none⟩) m cap)) w') : wpList P ops Q (o :: rest) a w := by
  obtain ⟨i, hi, hz0, hz1, hz2⟩ := info_parts h2
  refine wpList_append_own w hgd s x t ho w.heap.size e i z 1 bytes ht hi hz0 hz1 hz2 hz (by omega) (.slice none 0 0) 0 [] hs (own_nil w w.heap.size e) ⟨B, 0, none⟩ m c news hx (by omega) ?_ h1 (by unfold maxLen; omega) (by rw [Nat.zero_add]; exact hbytes) (Nat.le_refl _) ?_
  · intro j u' hu
    have := hnews j u' hu
    have e : (⟨B, 0, none⟩ : Addr).add j = ⟨B, j, none⟩ := by unfold Addr.add; split <;> simp_all
    rw [e]; exact this
  · intro v' w' k1 k2 k3
    have hO : Own w' w.heap.size e v' news := by unfold Own; rw [hl]; simpa using k1
    rcases hO.cases with ⟨rfl, hn⟩ | ⟨g, cap, rfl, hb, hg, _, hc, _⟩
    · rw [hn] at hl; simp at hl; omega
    · rw [hl] at *
      exact h g cap w' ⟨k2.os, k2.tape, k2.output, k2.size, fun k hk => k2.block k hk (by simp [Value.ownBlock])⟩ hb hg hc

set_option maxRecDepth 100000 in
set_option maxHeartbeats 2000000 in
theorem newReplacer_any (vb : Nat) (w : World) (hf : Four w vb) :
    Calls Try.prog 35 #[.slice (some ⟨vb, 0, none⟩) 4 4] w fun e w' => ∃ rb sb, e = .returned (.pointer (some ⟨rb, 0, none⟩)) ∧ w.heap.size ≤ rb ∧ Below w.heap.size w w' ∧ Raw rb sb w' ∧
      w'.cell? ⟨rb, 0, none⟩ = some (.int .u32 0) ∧ w'.cell? ⟨rb, 1, none⟩ = some (.int .i32 0) := by
  have HF := Lib.hid hf; clear hf
  go_enter Try.func35, Try.ntmps35
  go_wp2_with (at_builtin; refine wpList_appNil _ rfl _ _ _ rfl 9 (.string ⟨#[]⟩) 16 Try.underlying74 (by kernel_rfl) rfl rfl vb 4 4 [.string ⟨#[48]⟩, .string ⟨#[49]⟩, .string ⟨#[49]⟩, .string ⟨#[48]⟩] rfl rfl ?c1 ?c2 (by omega) (by omega) (by omega) ?_)
  case c1 =>
    intro j u hu
    match j, hu with
    | 0, hu => cases hu; exact HF.out.1
    | 1, hu => cases hu; exact HF.out.2.1
    | 2, hu => cases hu; exact HF.out.2.2.1
    | 3, hu => cases hu; exact HF.out.2.2.2
    | j + 4, hu => simp at hu
  case c2 =>
    intro u hu
    simp only [List.mem_cons, List.not_mem_nil, or_false] at hu
    rcases hu with rfl | rfl | rfl | rfl <;> rfl
  intro g cap w1 hb hg1 hg2 hc
  have HB := Lib.hid hb
  have HG1 := Lib.hid hg1
  have HG2 := Lib.hid hg2
  have HC := Lib.hid hc
  clear hb hg1 hg2 hc
  go_wp2_with fail
  go_ret
  have hR := row_new w1 90 [.int .u32 0, .int .i32 0, .int .u32 0, .nilIface, .slice (some ⟨g, 0, none⟩) 4 cap]
  have hb : Below w1.heap.size w1 (w1.alloc (.cells [.int .u32 0, .int .i32 0, .int .u32 0, .nilIface, .slice (some ⟨g, 0, none⟩) 4 cap].toArray 90)) := Below.alloc (Below.refl _ _) (Nat.le_refl _) _
  have hsz : (w1.alloc (.cells [Value.int .u32 0, .int .i32 0, .int .u32 0, .nilIface, .slice (some ⟨g, 0, none⟩) 4 cap].toArray 90)).heap.size = w1.heap.size + 1 := by simp
  have hF : Four w1 g := ⟨HC.out 0 (by omega), HC.out 1 (by omega), HC.out 2 (by omega), HC.out 3 (by omega)⟩
  have h2 := HG2.out
  refine ⟨w1.heap.size, g, rfl, HB.out.size, HB.out.trans (hb.mono HB.out.size), ⟨⟨cap, hR.cell 4⟩, ⟨_, hR.cell 3⟩, fun j => hR.frozen j, hF.below hb h2, ?_, hR.lt, by omega⟩, hR.cell 0, hR.cell 1⟩
  exact Nat.lt_of_lt_of_le h2 hb.size
end Go.Proofs.Ytagelndnhpijfaa
