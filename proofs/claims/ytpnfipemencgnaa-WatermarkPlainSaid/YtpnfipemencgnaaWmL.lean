/-
  slices.CompareFunc over ints, with the statement's own order of offsets.
-/
import Derived.Test.YtpnfipemencgnaaWmK
namespace Go.Proofs.Ytpnfipemencgnaa
open Go.RowKit

def lexV (n : Nat) (a : Int) : Int := if a = -1 then (n : Int) else a
theorem lexI_cons (n : Nat) (a b : Int) (l k : List Int) : lexI n (a :: l) (b :: k) = if lexV n a - lexV n b ≠ 0 then lexV n a - lexV n b else lexI n l k := by rw [lexI]; rfl

set_option maxHeartbeats 400000 in
theorem cmp1_any (s : ByteArray) (a b : Int) (B : Nat) (w : World) (hc : w.cell? ⟨B, 0, none⟩ = some (.string s)) (hs : s.size ≤ 4096) (a1 : -1 ≤ a) (a2 : a ≤ 4096) (b1 : -1 ≤ b) (b2 : b ≤ 4096) :
    Calls Try.prog 18 #[.int .i64 a, .int .i64 b, .pointer (some ⟨B, 0, none⟩)] w fun e w' => e = .returned (.int .i64 (lexV s.size a - lexV s.size b)) ∧ w = w' := by
  by_cases ha : a = -1
  · have ea := Lib.hid (show lexV s.size a = s.size by rw [lexV, if_pos ha])
    have ga : (a == -1) = true := by simpa using ha
    by_cases hb : b = -1
    · have eb := Lib.hid (show lexV s.size b = s.size by rw [lexV, if_pos hb])
      have gb : (b == -1) = true := by simpa using hb
      clear ha hb
      go_enter Try.func18, Try.ntmps18
      go_wp2_with fail
      go_ret
      exact ⟨by rw [ea.out, eb.out]; simp, rfl⟩
    · have eb := Lib.hid (show lexV s.size b = b by rw [lexV, if_neg hb])
      have gb : (b == -1) = false := by simpa using hb
      clear ha hb
      go_enter Try.func18, Try.ntmps18
      go_wp2_with fail
      go_ret
      exact ⟨by rw [ea.out, eb.out]; rfl, rfl⟩
  · have ea := Lib.hid (show lexV s.size a = a by rw [lexV, if_neg ha])
    have ga : (a == -1) = false := by simpa using ha
    by_cases hb : b = -1
    · have eb := Lib.hid (show lexV s.size b = s.size by rw [lexV, if_pos hb])
      have gb : (b == -1) = true := by simpa using hb
      clear ha hb
      go_enter Try.func18, Try.ntmps18
      go_wp2_with fail
      go_ret
      exact ⟨by rw [ea.out, eb.out]; rfl, rfl⟩
    · have eb := Lib.hid (show lexV s.size b = b by rw [lexV, if_neg hb])
      have gb : (b == -1) = false := by simpa using hb
      clear ha hb
      go_enter Try.func18, Try.ntmps18
      go_wp2_with fail
      go_ret
      exact ⟨by rw [ea.out, eb.out]; rfl, rfl⟩

set_option maxHeartbeats 1000000 in
theorem cmpFunc_any (s : ByteArray) (v v' : Value) (l l' : List Int) (B : Nat) (w : World) (hv : Holds w v l) (hv' : Holds w v' l') (hc : w.cell? ⟨B, 0, none⟩ = some (.string s)) (hs : s.size ≤ 4096)
    (hl : l.length = l'.length) (hl2 : l.length ≤ 4096) (hb : ∀ x ∈ l, -1 ≤ x ∧ x ≤ 4096) (hb' : ∀ x ∈ l', -1 ≤ x ∧ x ≤ 4096) :
    Calls Try.prog 17 #[v, v', .func (.func 18) #[] #[.pointer (some ⟨B, 0, none⟩)]] w fun e w' => e = .returned (.int .i64 (lexI s.size l l')) ∧ w = w' := by
  obtain ⟨a, c, rfl, hcell⟩ := hv.parts
  obtain ⟨a', c', rfl, hcell'⟩ := hv'.parts
  have HC := Lib.hid hcell; clear hcell hv
  have HC' := Lib.hid hcell'; clear hcell' hv'
  have HB := Lib.hid hb; clear hb
  have HB' := Lib.hid hb'; clear hb'
  have HLN := Lib.hid hl
  have hl3 : l'.length ≤ 4096 := by omega
  clear hl
  go_enter Try.func17, Try.ntmps17
  go_wp2_with fail
  go_loop [13] (fun i => ∃ j : Nat, j ≤ l.length ∧ i = .int .i64 j ∧ lexI s.size (l.drop j) (l'.drop j) = lexI s.size l l') (fun i => l.length - (intOf i).toNat)
  case atStart => exact ⟨0, by omega, rfl, rfl⟩
  case round =>
    obtain ⟨j, hj, rfl, hlex⟩ := hrel
    have HX := Lib.hid hlex; clear hlex
    by_cases hlt : j < l.length
    · have hlt' : j < l'.length := by have := HLN.out; omega
      obtain ⟨g, o, rfl, h1⟩ := HC.out j hlt
      obtain ⟨g', o', rfl, h2⟩ := HC'.out j hlt'
      have h3 := HB.out l[j] (List.getElem_mem hlt)
      have h4 := HB'.out l'[j] (List.getElem_mem hlt')
      have HE := Lib.hid (show lexI s.size (l.drop j) (l'.drop j) = if lexV s.size l[j] - lexV s.size l'[j] ≠ 0 then lexV s.size l[j] - lexV s.size l'[j] else lexI s.size (l.drop (j + 1)) (l'.drop (j + 1)) by
        rw [drop_at l j hlt, drop_at l' j hlt', lexI_cons])
      obtain ⟨h5, h6⟩ := h3
      obtain ⟨h7, h8⟩ := h4
      by_cases hz : lexV s.size l[j] - lexV s.size l'[j] = 0
      · have HZ := Lib.hid hz
        go_wp2_with fail
        refine (cmp1_any s l[j] l'[j] B _ hc hs h5 h6 h7 h8).mono ?_
        rintro e w' ⟨rfl, rfl⟩
        rw [hz]
        clear hz
        go_wp2_with fail
        go_round
        case rel => exact ⟨j + 1, by omega, by go_num, by rw [← HX.out, HE.out, if_neg (by rw [HZ.out]; simp)]⟩
        case measure => simp [intOf]; omega
      · have HZ := Lib.hid hz
        obtain ⟨z, hze⟩ : ∃ z, z = lexV s.size l[j] - lexV s.size l'[j] := ⟨_, rfl⟩
        have hzb : (z != 0) = true := by rw [hze]; simpa using hz
        have HZE := Lib.hid hze
        go_wp2_with fail
        refine (cmp1_any s l[j] l'[j] B _ hc hs h5 h6 h7 h8).mono ?_
        rintro e w' ⟨rfl, rfl⟩
        rw [← hze]
        clear hz hze
        go_wp2_with fail
        go_ret
        exact ⟨by rw [← HX.out, HE.out, if_pos HZ.out, ← HZE.out]; rfl, rfl⟩
    · obtain rfl : j = l.length := by omega
      have hd : decide ((l.length : Int) < (l.length : Int)) = false := by simp
      have hd2 : l'.length ≤ l.length := by have := HLN.out; omega
      have HE := Lib.hid (show lexI s.size (l.drop l.length) (l'.drop l.length) = 0 by rw [List.drop_length, List.drop_of_length_le (by have := HLN.out; omega)]; rfl)
      go_wp2_with fail
      go_ret
      exact ⟨by rw [← HX.out, HE.out]; rfl, rfl⟩
end Go.Proofs.Ytpnfipemencgnaa
