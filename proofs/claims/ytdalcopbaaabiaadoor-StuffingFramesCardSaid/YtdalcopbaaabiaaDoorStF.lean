/-
  The laws' own functions binary and numbers; plain laws of stuffed and padded words.
-/
import Derived.Test.YtdalcopbaaabiaaDoorStE
namespace Go.Proofs.YtdalcopbaaabiaaDoor
open Go.RowKit

def binT (l : List UInt8) : Bool := decide (l.length ≤ 60) && decide (chk 2 l = 0)
set_option maxHeartbeats 400000 in
theorem binary_any (s : ByteArray) (w : World) :
    Calls Tryd.prog 11 #[.string s] w fun e w' => e = .returned (.bool (binT s.data.toList)) ∧ Below w.heap.size w w' := by
  by_cases h : s.size ≤ 60
  · have h' : decide ((s.size : Int) ≤ 60) = true := by simp; omega
    by_cases hc : chk 2 s.data.toList = 0
    · have HV := Lib.hid (show binT s.data.toList = true by
        have e : s.data.toList.length = s.size := rfl
        unfold binT; rw [e]; simp [h, hc])
      have HC := Lib.hid hc; clear hc
      go_enter Tryd.func11, Tryd.ntmps11
      go_wp2_with fail
      refine (check_any _ _ _).mono ?_
      rintro e w1 ⟨rfl, n, rfl⟩
      rw [HC.out]
      go_wp2_with fail
      go_ret
      exact ⟨by rw [HV.out]; rfl, below_ofN n⟩
    · have hb : (chk 2 s.data.toList == 0) = false := by simpa using hc
      have HV := Lib.hid (show binT s.data.toList = false by unfold binT; simp [hc])
      clear hc
      go_enter Tryd.func11, Tryd.ntmps11
      go_wp2_with fail
      refine (check_any _ _ _).mono ?_
      rintro e w1 ⟨rfl, n, rfl⟩
      go_wp2_with fail
      go_ret
      exact ⟨by rw [HV.out]; rfl, below_ofN n⟩
  · have h' : decide ((s.size : Int) ≤ 60) = false := by simp; omega
    have HV := Lib.hid (show binT s.data.toList = false by
        have e : s.data.toList.length = s.size := rfl
        unfold binT; rw [e]; simp [h])
    go_enter Tryd.func11, Tryd.ntmps11
    go_wp2_with fail
    go_ret
    exact ⟨by rw [HV.out]; rfl, Below.refl _ _⟩

set_option maxHeartbeats 400000 in
theorem numbers_any (d k : Int) (hd : (Lit.int .u8 d).wf = true) (hk : (Lit.int .u8 k).wf = true) (w : World) :
    Calls Tryd.prog 13 #[.int .u8 d, .int .u8 k] w fun e w' => (∃ A B : Nat, A < B ∧ B ≤ 12 ∧ e = .returned (.tuple #[.int .i64 A, .int .i64 B])) ∧ w = w' := by
  simp [Lit.wf, IntKind.min, IntKind.max, IntKind.signed, IntKind.bits] at hd hk
  obtain ⟨D, rfl⟩ : ∃ D : Nat, d = D := ⟨d.toNat, by omega⟩
  obtain ⟨K, rfl⟩ : ∃ K : Nat, k = K := ⟨k.toNat, by omega⟩
  have e1 : ((K : Int)).tmod 12 = ((K % 12 : Nat) : Int) := by rw [Int.tmod_eq_emod_of_nonneg (by omega)]; omega
  have hK : K % 12 < 12 := Nat.mod_lt _ (by omega)
  generalize K % 12 = q at *
  have e2 : ((D : Int)).tmod (1 + (q : Int)) = ((D % (1 + q) : Nat) : Int) := by
    rw [Int.tmod_eq_emod_of_nonneg (by omega), Int.natCast_emod, Int.natCast_add]; rfl
  have hD : D % (1 + q) < 1 + q := Nat.mod_lt _ (by omega)
  generalize D % (1 + q) = p at *
  go_enter Tryd.func13, Tryd.ntmps13
  go_wp2_with fail
  go_ret2
  exact ⟨⟨p, 1 + q, hD, by omega, by simp⟩, rfl⟩

/-! ### plain laws -/
theorem isB_cases {c : UInt8} (h : isB c = true) : c = 48 ∨ c = 49 := by simpa [isB] using h
/-- How many letters are put in: at most one for n. -/
theorem stf_puts (c put : UInt8) (n : Nat) (hn : 0 < n) : ∀ (l : List UInt8) (run : Nat), run < n → ∃ p, (stf c put n run l).length = l.length + p ∧ p * n ≤ run + l.length ∧ (stf c put n run l).count put = l.count put + p
  | [], run, h => ⟨0, rfl, by omega, rfl⟩
  | a :: l, run, h => by
    obtain ⟨p, h1, h2, h3⟩ := stf_puts c put n hn l (nxt c n run a) (nxt_lt c n run a hn)
    rw [stf_cons]
    by_cases hm : msT c n run a = true
    · have hm2 := hm
      simp only [msT, Bool.and_eq_true, decide_eq_true_eq] at hm2
      have hx : nxt c n run a = 0 := by unfold nxt; rw [if_pos hm2.1, if_neg (by omega)]
      rw [hm, if_pos rfl]
      rw [hx] at h1 h2 h3 ⊢
      refine ⟨p + 1, by simp [h1]; omega, by rw [Nat.add_mul]; simp; omega, ?_⟩
      rw [List.count_cons, List.count_cons, List.count_cons, h3]; simp; omega
    · rw [if_neg hm]
      refine ⟨p, by simp [h1]; omega, ?_, by rw [List.count_cons, List.count_cons, h3]; omega⟩
      have : nxt c n run a ≤ run + 1 := by unfold nxt; split <;> (try split) <;> omega
      simp; omega
theorem stf_all (c put : UInt8) (n : Nat) (p : UInt8 → Bool) (hp : p put = true) : ∀ (l : List UInt8) (run : Nat), l.all p = true → (stf c put n run l).all p = true
  | [], _, _ => rfl
  | a :: l, run, h => by
    simp only [List.all_cons, Bool.and_eq_true] at h
    have ih := stf_all c put n p hp l (nxt c n run a) h.2
    rw [stf_cons]
    split <;> simp [h.1, hp, ih]
theorem stf_prefix (c put : UInt8) (n : Nat) (r : List UInt8) : ∀ (l : List UInt8) (run : Nat), stf c put n run l <+: stf c put n run (l ++ r)
  | [], _ => List.nil_prefix
  | a :: l, run => by
    have ih := stf_prefix c put n r l (nxt c n run a)
    rw [List.cons_append, stf_cons, stf_cons]
    split
    · exact List.cons_prefix_cons.2 ⟨rfl, List.cons_prefix_cons.2 ⟨rfl, ih⟩⟩
    · exact List.cons_prefix_cons.2 ⟨rfl, ih⟩
theorem padL_app (d : Nat) (l r : List UInt8) : padL d (l ++ r) = padL d l ++ padL d r := by simp [padL]
theorem padL_prefix (d : Nat) {l r : List UInt8} (h : l <+: r) : padL d l <+: padL d r := by
  obtain ⟨t, rfl⟩ := h
  rw [padL_app]; exact List.prefix_append _ _

theorem chk2_small {l : List UInt8} (h : l.length ≤ 65536) (ha : l.all isB = true) : chk 2 l = 0 := (chk2_iff l).2 ⟨h, ha⟩
theorem st_small {k : Nat} {l : List UInt8} (h1 : 1 ≤ k) (h2 : k ≤ 64) (hl : l.length ≤ 60) (ha : l.all isB = true) : stE k l = 0 ∧ stO k l = stf 48 49 k 0 l := by
  have hlen := stf_len 48 49 k l 0
  have he : stE k l = 0 := by
    rw [stE, if_neg (by omega), if_neg (by simp [chk2_small (by omega) ha]), if_pos (by simp; omega)]
  exact ⟨he, by rw [stO, he]; rfl⟩
theorem pd_small {d : Nat} {l : List UInt8} (h2 : d ≤ 12) (hl : l.length ≤ 120) (ha : l.all isB = true) : pdE d l = 0 ∧ pdO d l = padL d l := by
  have hlen := padL_len d l
  have hc : l.count 49 ≤ l.length := List.count_le_length
  have hp : d * l.count 49 ≤ 12 * 120 := Nat.mul_le_mul h2 (by omega)
  have he : pdE d l = 0 := by
    rw [pdE, if_neg (by omega), if_neg (by simp [chk2_small (by omega) ha]), if_pos (by simp; omega)]
  exact ⟨he, by rw [pdO, he]; rfl⟩
theorem bo_small {d k : Nat} {l : List UInt8} (h1 : d < k) (h2 : k ≤ 12) (hl : l.length ≤ 60) (ha : l.all isB = true) : boE d k l = 0 ∧ boO d k l = padL d (stf 48 49 (k - d) 0 l) := by
  have hs := st_small (k := k - d) (l := l) (by omega) (by omega) hl ha
  have e : ((k : Int) - (d : Int)) = ((k - d : Nat) : Int) := by omega
  have hlen := stf_len 48 49 (k - d) l 0
  have hp := pd_small (d := d) (l := stf 48 49 (k - d) 0 l) (by omega) (by omega) (stf_all _ _ _ isB (by decide) l 0 ha)
  have he : boE d k l = 0 := by
    rw [boE, if_neg (by omega), e, hs.1, if_neg (by simp), hs.2, hp.1]
  exact ⟨he, by rw [boO, he, e, hs.2, hp.2]; rfl⟩
end Go.Proofs.YtdalcopbaaabiaaDoor
