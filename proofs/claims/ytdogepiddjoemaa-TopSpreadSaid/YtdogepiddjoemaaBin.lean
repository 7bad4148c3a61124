/-
  Plain facts on binary words.
-/
import Derived.Test.YtdogepiddjoemaaChk
import Derived.Lib.Repeat
namespace Go.Proofs.Ytdogepiddjoemaa
open Go.RowKit

def isB (c : UInt8) : Bool := c == 48 || c == 49
theorem isLet2_fin : ∀ n : Fin 256, isLet 2 (UInt8.ofNat n.val) = isB (UInt8.ofNat n.val) := by decide +kernel
theorem isLet2 (c : UInt8) : isLet 2 c = isB c := by
  have := isLet2_fin ⟨c.toNat, c.toNat_lt⟩
  simpa using this
theorem chk2_iff (l : List UInt8) : chk 2 l = 0 ↔ l.length ≤ 65536 ∧ l.all isB = true := by
  have e : (isLet 2) = isB := funext isLet2
  unfold chk
  rw [if_neg (by omega), e]
  by_cases h : 65536 < l.length
  · rw [if_pos h]
    constructor
    · intro h'; omega
    · intro h'; omega
  · rw [if_neg h]
    by_cases ha : l.all isB = true
    · rw [if_pos ha]; exact ⟨fun _ => ⟨by omega, ha⟩, fun _ => rfl⟩
    · rw [if_neg ha]
      constructor
      · intro h'; omega
      · intro h'; exact absurd h'.2 ha

theorem repeatL_one (c : UInt8) : ∀ n, Lib.repeatL [c] n = List.replicate n c
  | 0 => rfl
  | n + 1 => by
    have := repeatL_one c n
    rw [Lib.repeatL, this, List.replicate_succ]; rfl
end Go.Proofs.Ytdogepiddjoemaa
