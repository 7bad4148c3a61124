/-
  Plain facts on binary words, and on a slice of numbers that came in.
-/
import Derived.Test.YtpnfipemencgnaaChk
import Derived.Test.YtpnfipemencgnaaEql
import Derived.Lib.Repeat
namespace Go.Proofs.Ytpnfipemencgnaa
open Go.RowKit

def isB (c : UInt8) : Bool := c == 48 || c == 49
theorem isLet2_fin : ∀ n : Fin 256, isLet 2 (UInt8.ofNat n.val) = isB (UInt8.ofNat n.val) := by decide +kernel
theorem isLet2 (c : UInt8) : isLet 2 c = isB c := by
  have := isLet2_fin ⟨c.toNat, c.toNat_lt⟩
  simpa using this
theorem chk2_iff (l : List UInt8) : chk 2 l = 0 ↔ l.length ≤ 65536 ∧ l.all isB = true := by
  have e : (isLet 2) = isB := funext isLet2
  unfold chk
  rw [if_neg (by omega), e]
  by_cases h : 65536 < l.length
  · rw [if_pos h]
    constructor
    · intro h'; omega
    · intro h'; omega
  · rw [if_neg h]
    by_cases ha : l.all isB = true
    · rw [if_pos ha]; exact ⟨fun _ => ⟨by omega, ha⟩, fun _ => rfl⟩
    · rw [if_neg ha]
      constructor
      · intro h'; omega
      · intro h'; exact absurd h'.2 ha

theorem IsRowI.parts {k : IntKind} {w : World} {a : Option Addr} {len cap : Nat} {zs : List Int} (h : IsRowI k w a len cap zs) :
    len ≤ zs.length ∧ len ≤ maxLen ∧ (∀ j, j < len → ∃ g o, a = some ⟨g, o, none⟩ ∧ w.cell? ⟨g, o + j, none⟩ = some (.int k (zs.getD j 0))) ∧ ∀ j, j < len → (Lit.int k (zs.getD j 0)).wf = true := by
  rcases h with ⟨rfl, rfl, rfl, rfl⟩ | ⟨x, rfl, h1, h2, h3, h4, h5⟩
  · exact ⟨Nat.le_refl _, Nat.zero_le _, fun j hj => by omega, fun j hj => by omega⟩
  · refine ⟨by omega, by omega, fun j hj => ?_, fun j hj => ?_⟩
    · have hs : x.spot = none := by
        have := cell_plain (h4 0 (by omega))
        simpa [Addr.add] using this
      obtain ⟨g, o, sp⟩ := x
      obtain rfl : sp = none := hs
      refine ⟨g, o, rfl, ?_⟩
      have := h4 j (by omega)
      by_cases hj0 : j = 0
      · subst hj0; simpa [Addr.add] using this
      · simpa [Addr.add, hj0] using this
    · have hl : j < zs.length := by omega
      rw [List.getD_eq_getElem?_getD, List.getElem?_eq_getElem hl]
      exact h5 _ (List.getElem_mem hl)
theorem repeatL_one (c : UInt8) : ∀ n, Lib.repeatL [c] n = List.replicate n c
  | 0 => rfl
  | n + 1 => by
    have := repeatL_one c n
    rw [Lib.repeatL, this, List.replicate_succ]; rfl
end Go.Proofs.Ytpnfipemencgnaa
