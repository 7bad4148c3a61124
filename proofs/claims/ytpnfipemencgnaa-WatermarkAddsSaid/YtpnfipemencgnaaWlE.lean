/-
  WatermarkAdds returns true for every input: the walk.
-/
import Derived.Test.YtpnfipemencgnaaWmI
import Derived.Test.YtpnfipemencgnaaWmJ
import Derived.Test.YtpnfipemencgnaaPl
namespace Go.Proofs.Ytpnfipemencgnaa
open Go.RowKit

theorem addB_inv (a b : UInt8) (h1 : isB a = true) (h2 : isB b = true) : addB (addB a b) b = a ∧ addB b a = addB a b ∧ addB 48 b = b ∧ isB (addB a b) = true := by
  simp only [isB, Bool.or_eq_true, beq_iff_eq] at h1 h2
  rcases h1 with rfl | rfl <;> rcases h2 with rfl | rfl <;> decide
theorem isB_at {l : List UInt8} (h : l.all isB = true) (j : Nat) (hj : j < l.length) : isB (l.getD j 0) = true := by
  rw [List.getD_eq_getElem?_getD, List.getElem?_eq_getElem hj]
  rw [List.all_eq_true] at h
  exact h _ (List.getElem_mem hj)
theorem getD_some {l : List UInt8} {j : Nat} {c : UInt8} (h : l[j]? = some c) : l.getD j 0 = c := by
  rw [List.getD_eq_getElem?_getD, h]; rfl
theorem getD_self {l : List UInt8} {j : Nat} (h : j < l.length) : l[j]? = some (l.getD j 0) := by
  rw [List.getD_eq_getElem?_getD, List.getElem?_eq_getElem h]; rfl
theorem addS_all (m l : List UInt8) (hm : m.all isB = true) (hl : l.all isB = true) (h : m.length = l.length) : (addS m l).all isB = true := by
  rw [List.all_eq_true]
  intro x hx
  obtain ⟨j, hj⟩ := List.mem_iff_getElem?.1 hx
  have hjl : j < l.length := by have := (List.getElem?_eq_some_iff.1 hj).1; rwa [addS_len] at this
  rw [addS_get m l j hjl] at hj
  rw [← Option.some.inj hj]
  exact (addB_inv _ _ (isB_at hl j hjl) (isB_at hm j (by omega))).2.2.2
theorem addS_inv (m l : List UInt8) (hm : m.all isB = true) (hl : l.all isB = true) (h : m.length = l.length) : addS m (addS m l) = l := by
  apply List.ext_getElem?
  intro j
  by_cases hj : j < l.length
  · rw [addS_get m _ j (by rw [addS_len]; exact hj), getD_some (addS_get m l j hj), getD_self hj]
    rw [(addB_inv _ _ (isB_at hl j hj) (isB_at hm j (by omega))).1]
  · rw [List.getElem?_eq_none (by rw [addS_len, addS_len]; omega), List.getElem?_eq_none (by omega)]
theorem addS_comm (m l : List UInt8) (hm : m.all isB = true) (hl : l.all isB = true) (h : m.length = l.length) : addS l m = addS m l := by
  apply List.ext_getElem?
  intro j
  by_cases hj : j < l.length
  · rw [addS_get l m j (by omega), addS_get m l j hj]
    rw [(addB_inv _ _ (isB_at hl j hj) (isB_at hm j (by omega))).2.1]
  · rw [List.getElem?_eq_none (by rw [addS_len]; omega), List.getElem?_eq_none (by rw [addS_len]; omega)]
theorem addS_zero (m : List UInt8) (hm : m.all isB = true) : addS m (List.replicate m.length 48) = m := by
  apply List.ext_getElem?
  intro j
  by_cases hj : j < m.length
  · rw [addS_get m _ j (by rw [List.length_replicate]; exact hj), getD_self hj]
    rw [show (List.replicate m.length (48 : UInt8)).getD j 0 = 48 from getD_some (by simp [hj])]
    rw [(addB_inv 48 _ rfl (isB_at hm j hj)).2.2.1]
  · rw [List.getElem?_eq_none (by rw [addS_len, List.length_replicate]; omega), List.getElem?_eq_none (by omega)]
theorem adE_ok {m l : List UInt8} (hm : m.all isB = true) (hl : l.all isB = true) (h : m.length = l.length) (h2 : m.length ≤ 65536) : adE m l = 0 ∧ adV m l = addS m l := by
  have h3 : adE m l = 0 := by
    have k1 : chk 2 m = 0 := (chk2_iff m).2 ⟨h2, hm⟩
    have k2 : chk 2 l = 0 := (chk2_iff l).2 ⟨by omega, hl⟩
    rw [adE, chk2, if_pos k1, if_pos k2, if_pos h]
  exact ⟨h3, if_pos h3⟩

theorem strs2' (w : World) (a b : ByteArray) : Strs (w.alloc (.cells #[.string a, .string b] 9)) w.heap.size 0 [a, b] := by
  intro j hj
  have := (row_new w 9 [.string a, .string b]).cell j
  rw [Nat.zero_add]
  refine this.trans ?_
  match j, hj with
  | 0, _ => rfl
  | 1, _ => rfl
theorem bin_ok' {n : Int} {s : ByteArray} (h : bin n s = true) : (s.size : Int) ≤ n ∧ s.data.toList.all isB = true := by
  unfold bin at h
  rw [Bool.and_eq_true, decide_eq_true_eq, beq_iff_eq] at h
  exact ⟨h.1, ((chk2_iff _).1 h.2).2⟩
/-- Add at binary words of one length. -/
theorem add_bin {m s x : ByteArray} (hm : m.data.toList.all isB = true) (hs : s.data.toList.all isB = true) (h : m.size = s.size) (h2 : m.size ≤ 65536) (hx : x.data.toList = addS m.data.toList s.data.toList) (w : World) :
    Calls Try.prog 28 #[.string m, .string s] w fun e w' => e = .returned (.tuple #[.string x, .int .i64 0]) ∧ Below w.heap.size w w' := by
  obtain ⟨k1, k2⟩ := adE_ok hm hs h h2
  refine (add_any m s w).mono fun e w' ⟨he, hb⟩ => ⟨?_, hb⟩
  rw [he, k1, k2, ← hx]

set_option maxHeartbeats 1000000 in
set_option maxRecDepth 100000 in
theorem law_watermarkAdds (m s : ByteArray) (_hm : m.size ≤ maxLen) (_hs : s.size ≤ maxLen) (w : World) :
    Calls Try.prog 8 #[.string m, .string s] w fun e w' => e = .returned (.bool true) ∧ Below w.heap.size w w' := by
  clear _hm _hs
  have HN := Lib.hid (binary_any 60 w.heap.size 0 2 [m, s] _ (strs2' w m s) (by simp) (by simp))
  by_cases hall : [m, s].all (bin 60) = true
  · have h3 := hall
    simp only [List.all_cons, List.all_nil, Bool.and_true, Bool.and_eq_true] at h3
    obtain ⟨bm, bs⟩ := h3
    obtain ⟨lm, am⟩ := bin_ok' bm
    obtain ⟨ls, asx⟩ := bin_ok' bs
    have hml : m.data.toList.length = m.size := rfl
    have hsl : s.data.toList.length = s.size := rfl
    by_cases hl : m.size = s.size
    · have g1 : ((m.size : Int) != (s.size : Int)) = false := by simp [hl]
      obtain ⟨x, hx⟩ : ∃ x : ByteArray, x.data.toList = addS m.data.toList s.data.toList := ⟨⟨(addS m.data.toList s.data.toList).toArray⟩, rfl⟩
      have ax : x.data.toList.all isB = true := by rw [hx]; exact addS_all _ _ am asx (by omega)
      have hxs : x.size = s.size := by rw [show x.size = x.data.toList.length from rfl, hx, addS_len]; rfl
      have C1 := Lib.hid (fun w => add_bin am asx hl (by omega) hx w)
      have C2 := Lib.hid (fun w => add_bin (x := s) am ax (by omega) (by omega) (by rw [hx]; exact (addS_inv _ _ am asx (by omega)).symm) w)
      have C3 := Lib.hid (fun w => add_bin (x := x) asx am hl.symm (by omega) (by rw [hx]; exact (addS_comm _ _ am asx (by omega)).symm) w)
      obtain ⟨z, hz⟩ : ∃ z : ByteArray, z = ⟨(Lib.repeatL [48] m.size).toArray⟩ := ⟨_, rfl⟩
      have hzd : z.data.toList = List.replicate m.size 48 := by rw [hz]; exact repeatL_one 48 m.size
      have az : z.data.toList.all isB = true := by rw [hzd, List.all_eq_true]; intro y hy; rw [List.eq_of_mem_replicate hy]; rfl
      have hzs : z.size = m.size := by rw [show z.size = z.data.toList.length from rfl, hzd, List.length_replicate]
      have C4 := Lib.hid (fun w => add_bin (x := m) am az hzs.symm (by omega) (by rw [hzd]; exact (addS_zero _ am).symm) w)
      have c5 := fun w => Try.strings_Repeat ⟨#[48]⟩ m.size w (by omega) (by show 1 * m.size ≤ _; omega)
      rw [show (⟨#[48]⟩ : ByteArray).data.toList = [48] from rfl, ← hz] at c5
      have C5 := Lib.hid c5; clear c5
      have HALL := Lib.hid hall
      clear hall bm bs am asx ax hx hxs hz hzd az hzs hl
      go_enter Try.func8, Try.ntmps8
      go_wp2_with fail
      refine HN.out.mono ?_
      rintro e w1 ⟨rfl, h1⟩
      rw [HALL.out]
      have HB1 := Lib.hid (((Below.refl w.heap.size w).alloc (Nat.le_refl _) (.cells #[.string m, .string s] 9)).trans (h1.mono (by simp)))
      clear h1
      go_wp2_with fail
      refine (C1.out _).mono ?_
      rintro e w2 ⟨rfl, h2⟩
      have HB2 := Lib.hid (ext_trans HB1.out h2); clear h2
      go_wp2_with fail
      refine (C2.out _).mono ?_
      rintro e w3 ⟨rfl, h3⟩
      have HB3 := Lib.hid (ext_trans HB2.out h3); clear h3
      go_wp2_with fail
      refine (C3.out _).mono ?_
      rintro e w4 ⟨rfl, h4⟩
      have HB4 := Lib.hid (ext_trans HB3.out h4); clear h4
      go_wp2_with fail
      refine (C5.out _).mono ?_
      rintro e w5 ⟨rfl, h5⟩
      have HB5 := Lib.hid (ext_trans HB4.out h5); clear h5
      go_wp2_with fail
      refine (C4.out _).mono ?_
      rintro e w6 ⟨rfl, h6⟩
      have HB6 := Lib.hid (ext_trans HB5.out h6); clear h6
      go_wp2_with fail
      refine (awake_any _).mono ?_
      rintro e w7 ⟨rfl, h7⟩
      have H7 := Lib.hid h7; clear h7
      go_wp2_with fail
      go_ret
      exact ⟨rfl, ext_trans HB6.out H7.out⟩
    · have g1 : ((m.size : Int) != (s.size : Int)) = true := by simp; omega
      have he : adE m.data.toList s.data.toList = 11 := by
        rw [adE, chk2, if_pos ((chk2_iff _).2 ⟨by omega, am⟩), if_pos ((chk2_iff _).2 ⟨by omega, asx⟩), if_neg (by omega)]
      have hv : adV m.data.toList s.data.toList = [] := by rw [adV, he]; rfl
      have c1 := fun w => add_any m s w
      rw [he, hv] at c1
      have C1 := Lib.hid c1; clear c1
      have HALL := Lib.hid hall
      clear hall bm bs am asx hl he hv
      go_enter Try.func8, Try.ntmps8
      go_wp2_with fail
      refine HN.out.mono ?_
      rintro e w1 ⟨rfl, h1⟩
      rw [HALL.out]
      have HB1 := Lib.hid (((Below.refl w.heap.size w).alloc (Nat.le_refl _) (.cells #[.string m, .string s] 9)).trans (h1.mono (by simp)))
      clear h1
      go_wp2_with fail
      refine (C1.out _).mono ?_
      rintro e w2 ⟨rfl, h2⟩
      have HB2 := Lib.hid (ext_trans HB1.out h2); clear h2
      go_wp2_with fail
      refine (awake_any _).mono ?_
      rintro e w7 ⟨rfl, h7⟩
      have H7 := Lib.hid h7; clear h7
      go_wp2_with fail
      go_ret
      exact ⟨rfl, ext_trans HB2.out H7.out⟩
  · have hall' : [m, s].all (bin 60) = false := by simpa using hall
    clear hall
    go_enter Try.func8, Try.ntmps8
    go_wp2_with fail
    refine HN.out.mono ?_
    rintro e w1 ⟨rfl, h1⟩
    rw [hall']
    have HB1 := Lib.hid (((Below.refl w.heap.size w).alloc (Nat.le_refl _) (.cells #[.string m, .string s] 9)).trans (h1.mono (by simp)))
    clear h1
    go_wp2_with fail
    refine (awake_any _).mono ?_
    rintro e w2 ⟨rfl, h2⟩
    have H2 := Lib.hid h2; clear h2
    go_wp2_with fail
    go_ret
    exact ⟨rfl, ext_trans HB1.out H2.out⟩
end Go.Proofs.Ytpnfipemencgnaa
