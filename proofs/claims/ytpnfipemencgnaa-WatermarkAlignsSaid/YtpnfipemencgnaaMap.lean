/-
  A map that the call makes, with keys of one kind that are compared for good: what it holds as a function (MapIs), and the walk's rules for make, lookup and store over it.
-/
import Derived.Test.YtpnfipemencgnaaMem
import Derived.Maps.OwnOps
namespace Go.Proofs.Ytpnfipemencgnaa
open Go.RowKit

def toE {K : Type} (enc : K → Value) (e : K × Value × Nat) : MapEntry := { key := enc e.1, val := e.2.1, born := e.2.2 }
def lookE {K : Type} [BEq K] (k : K) : List (K × Value × Nat) → Nat → Option (Nat × Value)
  | [], _ => none
  | e :: es, i => if k == e.1 then some (i, e.2.1) else lookE k es (i + 1)
def getE {K : Type} [BEq K] (k : K) : List (K × Value × Nat) → Option Value
  | [] => none
  | e :: es => if k == e.1 then some e.2.1 else getE k es
theorem lookE_get {K : Type} [BEq K] (k : K) : ∀ (es : List (K × Value × Nat)) (i : Nat), (lookE k es i).map (·.2) = getE k es
  | [], _ => rfl
  | e :: es, i => by
    simp only [lookE, getE]
    split
    · rfl
    · exact lookE_get k es (i + 1)

structure KeyLaw (P : Program) (T : TypeId) {K : Type} [BEq K] (enc : K → Value) : Prop where
  chk : ∀ b k w, (Instr.checkKey b 10000 T (enc k)).run P w = .ok () w
  find : ∀ k es w, (Instr.findKey T (enc k) (es.map (toE enc))).run P w = .ok (lookE k es 0) w
  bits : ∀ k, Instr.sameBits 10000 (enc k) (enc k) = true

def MapIs {K : Type} [BEq K] (w : World) (B : Nat) (enc : K → Value) (f : K → Option Value) : Prop :=
  ∃ (es : List (K × Value × Nat)) (clock : Nat), w.heap[B]? = some (.map (es.map (toE enc)).toArray clock) ∧ ∀ k, getE k es = f k

theorem MapIs.lt {K : Type} [BEq K] {w : World} {B : Nat} {enc : K → Value} {f : K → Option Value} (h : MapIs w B enc f) : B < w.heap.size := by
  obtain ⟨es, c, h, _⟩ := h
  rcases Nat.lt_or_ge B w.heap.size with h' | h'
  · exact h'
  · rw [Array.getElem?_eq_none h'] at h; cases h
theorem MapIs.below {K : Type} [BEq K] {w w' : World} {B C : Nat} {enc : K → Value} {f : K → Option Value} (h : MapIs w B enc f) (hb : Below C w w') (hB : B < C) : MapIs w' B enc f := by
  obtain ⟨es, c, h, h2⟩ := h
  exact ⟨es, c, by rw [hb.block _ hB]; exact h, h2⟩
theorem MapIs.drewN {K : Type} [BEq K] {w : World} {B : Nat} {enc : K → Value} {f : K → Option Value} (h : MapIs w B enc f) (n : Nat) : MapIs (w.drewN n) B enc f := h
theorem MapIs.alloc {K : Type} [BEq K] {w : World} {B : Nat} {enc : K → Value} {f : K → Option Value} (h : MapIs w B enc f) (o : Obj) : MapIs (w.alloc o) B enc f := by
  have hlt := h.lt
  obtain ⟨es, c, h, h2⟩ := h
  exact ⟨es, c, by rw [Below.heap_alloc _ _ _ hlt]; exact h, h2⟩
theorem MapIs.setCell {K : Type} [BEq K] {w : World} {B : Nat} {enc : K → Value} {f : K → Option Value} (h : MapIs w B enc f) (a : Addr) (u : Value) (hne : B ≠ a.block) : MapIs (w.setCell a u) B enc f := by
  obtain ⟨es, c, h, h2⟩ := h
  exact ⟨es, c, by rw [Below.heap_setCell _ _ _ _ hne]; exact h, h2⟩
theorem MapIs.grown {K : Type} [BEq K] {w w' : World} {B : Nat} {enc : K → Value} {f : K → Option Value} {r : Option Nat} (h : MapIs w B enc f) (hb : w.grownBy w' r) (hB : some B ≠ r) : MapIs w' B enc f := by
  have hlt := h.lt
  obtain ⟨es, c, h, h2⟩ := h
  exact ⟨es, c, by rw [hb.block _ hlt hB]; exact h, h2⟩
theorem mapIs_new {K : Type} [BEq K] (w : World) (enc : K → Value) : MapIs (w.alloc (.map #[] 0)) w.heap.size enc fun _ => none :=
  ⟨[], 0, heap_alloc_new w _, fun _ => rfl⟩
theorem MapIs.congr {K : Type} [BEq K] {w : World} {B : Nat} {enc : K → Value} {f g : K → Option Value} (h : MapIs w B enc f) (hfg : ∀ k, f k = g k) : MapIs w B enc g := by
  obtain ⟨es, c, h, h2⟩ := h
  exact ⟨es, c, h, fun k => (h2 k).trans (hfg k)⟩

theorem run_lookM {K : Type} [BEq K] {P : Program} {w : World} {B : Nat} {enc : K → Value} {f : K → Option Value} (h : MapIs w B enc f) {T TK TE : TypeId} {z : Value}
    (hT : P.underlying T = some (.map TK TE)) (law : KeyLaw P TK enc) (hz : (zeroValue TE).run P w = .ok z w) (k : K) :
    (Instr.lookup T (.map (some B)) (enc k) false).run P w = .ok ((f k).getD z) w := by
  obtain ⟨es, c, h, h2⟩ := h
  have hl := lookE_get k es 0
  rw [h2] at hl
  have hg : (getObj B).run P w = .ok (.map (es.map (toE enc)).toArray c) w := by simp [getObj, Sem.run, h]
  unfold Instr.lookup
  simp only [Sem.run_bind, run_underlying hT, Result.andThen, hg, Sem.run_pure, law.chk, law.find]
  rw [← hl]
  cases hle : lookE k es 0 with
  | none => simp [hz]
  | some p => obtain ⟨i, v⟩ := p; simp

theorem getE_append {K : Type} [BEq K] (k : K) (v : Value) (c : Nat) (k' : K) : ∀ es : List (K × Value × Nat), getE k' (es ++ [(k, v, c)]) = (getE k' es).or (if k' == k then some v else none)
  | [] => by simp [getE]
  | e :: es => by
    simp only [List.cons_append, getE]
    split
    · rfl
    · exact getE_append k v c k' es
theorem lookE_some {K : Type} [BEq K] [LawfulBEq K] (k : K) (v : Value) : ∀ (es : List (K × Value × Nat)) (i j : Nat) (u : Value), lookE k es i = some (j, u) →
    ∃ n, j = i + n ∧ n < es.length ∧ (∃ e, es[n]? = some e ∧ e.1 = k) ∧ ∀ k', getE k' (es.modify n fun e => (k, v, e.2.2)) = if k' == k then some v else getE k' es
  | [], i, j, u, h => by simp [lookE] at h
  | e :: es, i, j, u, h => by
    simp only [lookE] at h
    by_cases hk : (k == e.1) = true
    · rw [if_pos hk] at h
      simp only [Option.some.injEq, Prod.mk.injEq] at h
      refine ⟨0, by omega, by simp, ⟨e, rfl, (eq_of_beq hk).symm⟩, fun k' => ?_⟩
      have hke := eq_of_beq hk
      subst hke
      simp only [List.modify_zero_cons, getE]
      split <;> rfl
    · rw [if_neg hk] at h
      obtain ⟨n, hn, hlt, ⟨e2, he2, he3⟩, hg⟩ := lookE_some k v es (i + 1) j u h
      refine ⟨n + 1, by omega, by simp; omega, ⟨e2, by simpa using he2, he3⟩, fun k' => ?_⟩
      simp only [List.modify_succ_cons, getE, hg]
      by_cases h1 : (k' == e.1) = true
      · have hne : (k' == k) = false := by
          rw [beq_eq_false_iff_ne]; intro h3; subst h3; exact hk h1
        simp [h1, hne]
      · simp [h1]
theorem lookE_none {K : Type} [BEq K] (k : K) (es : List (K × Value × Nat)) (i : Nat) (h : lookE k es i = none) : getE k es = none := by
  rw [← lookE_get k es i, h]; rfl

theorem heap_setObj {w : World} {B : Nat} (o : Obj) (hlt : B < w.heap.size) : ({ w with heap := w.heap.setIfInBounds B o } : World).heap[B]? = some o := by
  simp [hlt]
theorem grown_setObj (w : World) (B : Nat) (o : Obj) : w.grownBy { w with heap := w.heap.setIfInBounds B o } (some B) :=
  ⟨rfl, rfl, rfl, by simp, fun k _ hk => by
    have : B ≠ k := fun h => hk (by rw [h])
    simp [this]⟩

theorem run_putM {K : Type} [BEq K] [LawfulBEq K] {P : Program} {w : World} {B : Nat} {enc : K → Value} {f : K → Option Value} (h : MapIs w B enc f) {T TK TE : TypeId}
    (hT : P.underlying T = some (.map TK TE)) (law : KeyLaw P TK enc) (k : K) (v : Value) :
    ∃ w', (Instr.mapUpdate T (.map (some B)) (enc k) v).run P w = .ok () w' ∧ MapIs w' B enc (fun k' => if k' == k then some v else f k') ∧ w.grownBy w' (some B) ∧ w'.heap.size = w.heap.size := by
  have hlt := h.lt
  obtain ⟨es, c, h, h2⟩ := h
  have hg : (getObj B).run P w = .ok (.map (es.map (toE enc)).toArray c) w := by simp [getObj, Sem.run, h]
  have hs : ∀ o, (setObj B o).run P w = .ok () { w with heap := w.heap.setIfInBounds B o } := by intro o; simp [setObj, Sem.run, h]
  unfold Instr.mapUpdate
  simp only [Sem.run_bind, run_underlying hT, Result.andThen, hg, law.chk, law.find]
  cases hle : lookE k es 0 with
  | none =>
    simp only [hs]
    refine ⟨_, rfl, ⟨es ++ [(k, v, c)], c + 1, ?_, fun k' => ?_⟩, grown_setObj w B _, by simp⟩
    · rw [heap_setObj _ hlt]; simp [toE]
    · rw [getE_append, h2]
      by_cases hk : (k' == k) = true
      · have := lookE_none k es 0 hle
        have he := eq_of_beq hk
        subst he
        rw [h2] at this
        simp [this]
      · simp [hk]
  | some p =>
    obtain ⟨i, u⟩ := p
    obtain ⟨n, hn, hlt2, ⟨e, he1, he2⟩, hget⟩ := lookE_some k v es 0 i u hle
    obtain rfl : i = n := by omega
    have hkey : (((es.map (toE enc)).toArray[i]?).map (·.key)).getD (enc k) = enc k := by
      simp [he1, toE, he2]
    simp only [hkey, Instr.keyThatStays, law.bits, if_true, Sem.run_bind, Sem.run_pure, Result.andThen_ok, hs]
    refine ⟨_, rfl, ⟨es.modify i fun e => (k, v, e.2.2), c, ?_, fun k' => ?_⟩, grown_setObj w B _, by simp⟩
    · rw [heap_setObj _ hlt]
      congr 2
      apply Array.toList_inj.1
      simp only [Array.toList_modify]
      apply List.ext_getElem?
      intro m
      simp only [List.getElem?_modify, List.getElem?_map]
      cases es[m]? with
      | none => rfl
      | some e' => by_cases hm : i = m <;> simp [hm, toE]
    · rw [hget, h2]

theorem wpList_lookM {K : Type} [BEq K] {P : Program} (w : World) {ops : Array Oper} {rest : List Oper} {o : Oper} {a : Act} {Q : Exit → Act → World → Prop}
    (hg : o.guard = none) (m x : Operand) (t : TypeId) (hop : o.op = Op.lookup t m x false) {TK TE : TypeId} {z : Value} {enc : K → Value} (hT : P.underlying t = some (.map TK TE)) (law : KeyLaw P TK enc)
    (hz : (zeroValue TE).run P w = .ok z w) (B : Nat) (f : K → Option Value) (hm : a.eval m = .map (some B)) (h : MapIs w B enc f) (k : K) (hx : a.eval x = enc k)
    (hK : wpList P ops Q rest (a.put o.dst ((f k).getD z)) w) : wpList P ops Q (o :: rest) a w := by
  refine wpList_plain hg fun K' hK' => ?_
  have hrun := run_lookM (P := P) h hT law hz k
  unfold Oper.wp
  simp [execOp, hop, hm, hx, hrun, Result.andThen]
  exact hK' _ _ hK

theorem wpList_putM {K : Type} [BEq K] [LawfulBEq K] {P : Program} (w : World) {ops : Array Oper} {rest : List Oper} {o : Oper} {a : Act} {Q : Exit → Act → World → Prop}
    (hg : o.guard = none) (m x y : Operand) (t : TypeId) (hop : o.op = Op.mapUpdate t m x y) {TK TE : TypeId} {enc : K → Value} (hT : P.underlying t = some (.map TK TE)) (law : KeyLaw P TK enc)
    (B : Nat) (f : K → Option Value) (hm : a.eval m = .map (some B)) (h : MapIs w B enc f) (k : K) (hx : a.eval x = enc k)
    (hK : ∀ w', MapIs w' B enc (fun k' => if k' == k then some (a.eval y) else f k') → w.grownBy w' (some B) → w'.heap.size = w.heap.size → wpList P ops Q rest (a.put o.dst undef) w') : wpList P ops Q (o :: rest) a w := by
  refine wpList_plain hg fun K' hK' => ?_
  obtain ⟨w', hrun, h1, h2, h3⟩ := run_putM (P := P) h hT law k (a.eval y)
  unfold Oper.wp
  simp [execOp, hop, hm, hx, hrun, Result.andThen]
  exact hK' _ _ (hK w' h1 h2 h3)

/-- Keys that are ints. -/
def encI (k : Int) : Value := .int .i64 k
theorem findNow_int (kd : IntKind) (k : Int) : ∀ (es : List (Int × Value × Nat)) (i : Nat), Instr.findNow (.int kd) (encI k) (es.map (toE encI)) i = some (lookE k es i)
  | [], _ => rfl
  | e :: es, i => by
    simp only [List.map_cons, Instr.findNow, toE, encI, Instr.sameNow, if_true, lookE]
    cases hk : (k == e.1)
    · simp only [Bool.false_eq_true, if_false]
      have := findNow_int kd k es (i + 1)
      simpa [encI, toE] using this
    · simp
theorem keyLaw_int {P : Program} {T : TypeId} {kd : IntKind} (h : P.underlying T = some (.int kd)) : KeyLaw P T encI where
  chk := by
    intro b k w
    show (Instr.checkKey b (9999 + 1) T (encI k)).run P w = _
    generalize 9999 = m
    simp [Instr.checkKey, run_underlying h, encI]
  find := by
    intro k es w
    unfold Instr.findKey
    simp only [Sem.run_bind, run_underlying h, Result.andThen, findNow_int, Sem.run_pure]
  bits := by intro k; simp [Instr.sameBits, encI]
end Go.Proofs.Ytpnfipemencgnaa
