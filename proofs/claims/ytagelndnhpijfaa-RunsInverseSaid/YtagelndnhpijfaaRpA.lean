/-
  The contract of (*strings.byteReplacer).Replace, whose table exchanges the letters 0 and 1, at binary words.
-/
import Derived.Test.YtagelndnhpijfaaByt
import Derived.Test.YtagelndnhpijfaaChk
namespace Go.Proofs.Ytagelndnhpijfaa
open Go.RowKit

def opC (c : UInt8) : UInt8 := if c = 48 then 49 else if c = 49 then 48 else c
/-- The first k letters exchanged. -/
def opK (l : List UInt8) (k : Nat) : List UInt8 := (l.take k).map opC ++ l.drop k
theorem opK_len (l : List UInt8) (k : Nat) : (opK l k).length = l.length := by
  rw [opK, List.length_append, List.length_map, List.length_take, List.length_drop]; omega
theorem opK_set {l : List UInt8} {k : Nat} (hk : k < l.length) : (opK l k).set k (opC l[k]) = opK l (k + 1) := by
  have h1 : ((l.take k).map opC).length = k := by rw [List.length_map, List.length_take]; omega
  rw [opK, opK, List.set_append, if_neg (by omega), h1, Nat.sub_self, List.drop_eq_getElem_cons hk, List.set_cons_zero, List.take_add_one, List.getElem?_eq_getElem hk, Option.toList_some, List.map_append, List.append_assoc]
  rfl
theorem opK_all (l : List UInt8) : opK l l.length = l.map opC := by
  rw [opK, List.take_length, List.drop_length, List.append_nil]

set_option maxHeartbeats 2000000 in
set_option maxRecDepth 100000 in
theorem rpl_any (s : ByteArray) (Bt : Nat) (w : World) (h48 : w.cell? ⟨Bt, 48, none⟩ = some (.int .u8 49)) (h49 : w.cell? ⟨Bt, 49, none⟩ = some (.int .u8 48)) (hBt : Bt < w.heap.size)
    (hb : ∀ k (h : k < s.size), s[k] = 48 ∨ s[k] = 49) (hs : s.size ≤ 70000) :
    Calls Try.prog 131 #[.pointer (some ⟨Bt, 0, none⟩), .string s] w fun e w' => e = .returned (.string ⟨(s.data.toList.map opC).toArray⟩) ∧ Below w.heap.size w w' := by
  have HBI := Lib.hid hb; clear hb
  have HSET := Lib.hid (fun k (hk : k < s.size) => opK_set (l := s.data.toList) (k := k) hk)
  have HLN := Lib.hid (fun k => opK_len s.data.toList k)
  have HALL := Lib.hid (show opK s.data.toList s.size = s.data.toList.map opC from opK_all s.data.toList)
  have H0 := Lib.hid (show opK s.data.toList 0 = s.data.toList from rfl)
  obtain ⟨n, hn⟩ : ∃ n, s.size = n := ⟨_, rfl⟩
  have e1 : s.data.toList.length = s.size := rfl
  rw [e1, hn] at HLN
  rw [hn] at HALL hs
  have HN := Lib.hid hn
  clear e1
  have H48 := Lib.hid h48
  have H49 := Lib.hid h49
  clear h48 h49
  have qT : ∀ (w : World) (a : Option Addr) (n c n' c' : Nat), (binOp .eql 62 (.slice a n c) (.slice none n' c')).run Try.prog w = .ok (.bool a.isNone) w := fun w a n c n' c' => Lib.run_eql_slice_nil w _ _ a n c n' c' Try.underlying62
  go_enter Try.func131, Try.ntmps131
  go_wp2_with fail
  go_loopw [5, 6] (fun v i wr => ∃ k : Nat, k ≤ n ∧ i = .int .i64 k ∧ Below w.heap.size w wr ∧ ((k = 0 ∧ v = .slice none 0 0 ∧ wr.heap.size = w.heap.size) ∨ (1 ≤ k ∧ ∃ c, v = .slice (some ⟨w.heap.size, 0, none⟩) n c ∧ RowP wr w.heap.size 5 (bts (opK s.data.toList k))))) (fun _ i _ => n - (intOf i).toNat)
  case atStart => exact ⟨0, by omega, rfl, Below.refl _ _, .inl ⟨rfl, rfl, rfl⟩⟩
  case round =>
    obtain ⟨k, hk, rfl, hb, hcase⟩ := hrel
    have HB := Lib.hid hb
    have hc48 : wr.cell? ⟨Bt, 48, none⟩ = some (.int .u8 49) := cell_below H48.out hb hBt
    have hc49 : wr.cell? ⟨Bt, 49, none⟩ = some (.int .u8 48) := cell_below H49.out hb hBt
    clear hb
    by_cases hlt : k < n
    · have hd : decide ((k : Int) < (n : Int)) = true := by simp; omega
      have hks : k < s.size := by rw [HN.out]; exact hlt
      have hx : s.data.toList[k]'(by exact hks) = s[k] := rfl
      have HS1 := Lib.hid (HSET.out k hks)
      rw [hx] at HS1
      clear hx
      rcases hcase with ⟨rfl, rfl, hws⟩ | ⟨hk1, c, rfl, hrow⟩
      · have hk0 : 0 < n := hlt
        rcases HBI.out 0 hks with hl | hl
        · have hv : ((s[0].toNat : Nat) : Int) = 48 := by rw [hl]; rfl
          have hop : opC s[0] = 49 := by rw [hl]; decide
          have HS2 := Lib.hid (show (opK s.data.toList 0).set 0 49 = opK s.data.toList (0 + 1) by rw [← hop]; exact HS1.out)
          clear hl hop
          go_wp2_with (refine wpList_bytes _ rfl _ 9 62 5 rfl Try.underlying9 Try.underlying62 Try.underlying5 s rfl ?_)
          intro w3 c hrow hb3 hz hcap
          rw [← H0.out] at hrow
          have hb4 := hb3
          have HB4 := Lib.hid (HB.out.trans hb4)
          have hd48 : w3.cell? ⟨Bt, 48, none⟩ = some (.int .u8 49) := cell_below H48.out HB4.out hBt
          have hd49 : w3.cell? ⟨Bt, 49, none⟩ = some (.int .u8 48) := cell_below H49.out HB4.out hBt
          skip
          clear hb3 hb4 hz hcap hc48 hc49
          have hlen : (bts (opK s.data.toList 0)).length = n := by rw [bts_len, HLN.out]
          have hcl := hrow.cell 0 (by rw [hlen]; omega)
          have hfz := hrow.frozen 0 (by rw [hlen]; omega)
          rw [List.getElem?_eq_getElem (by rw [hlen]; omega)] at hcl
          obtain ⟨u, hcu⟩ : ∃ u, w3.cell? ⟨w.heap.size, 0, none⟩ = some u := ⟨_, hcl⟩
          clear hcl
          have HX := Lib.hid (show RowP (w3.setCell ⟨w.heap.size, 0, none⟩ (.int .u8 49)) w.heap.size 5 (bts (opK s.data.toList (0 + 1))) by
            have h := hrow.set 0 (.int .u8 49) (by rw [hlen]; omega)
            rw [show (Value.int .u8 49) = .int .u8 ((49 : UInt8).toNat : Int) from rfl, bts_set, HS2.out] at h
            exact h)
          clear hrow hlen
          go_wp2_with fail
          go_roundw
          case rel => exact ⟨0 + 1, by omega, by go_num, HB4.out.setCell (p := ⟨w.heap.size, 0, none⟩) (Nat.le_refl _) _, .inr ⟨by omega, c, rfl, HX.out⟩⟩
          case measure => simp [intOf]; omega
        · have hv : ((s[0].toNat : Nat) : Int) = 49 := by rw [hl]; rfl
          have hop : opC s[0] = 48 := by rw [hl]; decide
          have HS2 := Lib.hid (show (opK s.data.toList 0).set 0 48 = opK s.data.toList (0 + 1) by rw [← hop]; exact HS1.out)
          clear hl hop
          go_wp2_with (refine wpList_bytes _ rfl _ 9 62 5 rfl Try.underlying9 Try.underlying62 Try.underlying5 s rfl ?_)
          intro w3 c hrow hb3 hz hcap
          rw [← H0.out] at hrow
          have hb4 := hb3
          have HB4 := Lib.hid (HB.out.trans hb4)
          have hd48 : w3.cell? ⟨Bt, 48, none⟩ = some (.int .u8 49) := cell_below H48.out HB4.out hBt
          have hd49 : w3.cell? ⟨Bt, 49, none⟩ = some (.int .u8 48) := cell_below H49.out HB4.out hBt
          skip
          clear hb3 hb4 hz hcap hc48 hc49
          have hlen : (bts (opK s.data.toList 0)).length = n := by rw [bts_len, HLN.out]
          have hcl := hrow.cell 0 (by rw [hlen]; omega)
          have hfz := hrow.frozen 0 (by rw [hlen]; omega)
          rw [List.getElem?_eq_getElem (by rw [hlen]; omega)] at hcl
          obtain ⟨u, hcu⟩ : ∃ u, w3.cell? ⟨w.heap.size, 0, none⟩ = some u := ⟨_, hcl⟩
          clear hcl
          have HX := Lib.hid (show RowP (w3.setCell ⟨w.heap.size, 0, none⟩ (.int .u8 48)) w.heap.size 5 (bts (opK s.data.toList (0 + 1))) by
            have h := hrow.set 0 (.int .u8 48) (by rw [hlen]; omega)
            rw [show (Value.int .u8 48) = .int .u8 ((48 : UInt8).toNat : Int) from rfl, bts_set, HS2.out] at h
            exact h)
          clear hrow hlen
          go_wp2_with fail
          go_roundw
          case rel => exact ⟨0 + 1, by omega, by go_num, HB4.out.setCell (p := ⟨w.heap.size, 0, none⟩) (Nat.le_refl _) _, .inr ⟨by omega, c, rfl, HX.out⟩⟩
          case measure => simp [intOf]; omega
      · have hk0 : 0 < n := by omega
        rcases HBI.out k hks with hl | hl
        · have hv : ((s[k].toNat : Nat) : Int) = 48 := by rw [hl]; rfl
          have hop : opC s[k] = 49 := by rw [hl]; decide
          have HS2 := Lib.hid (show (opK s.data.toList k).set k 49 = opK s.data.toList (k + 1) by rw [← hop]; exact HS1.out)
          clear hl hop
          have hlen : (bts (opK s.data.toList k)).length = n := by rw [bts_len, HLN.out]
          have hcl := hrow.cell k (by rw [hlen]; omega)
          have hfz := hrow.frozen k (by rw [hlen]; omega)
          rw [List.getElem?_eq_getElem (by rw [hlen]; omega)] at hcl
          obtain ⟨u, hcu⟩ : ∃ u, wr.cell? ⟨w.heap.size, k, none⟩ = some u := ⟨_, hcl⟩
          clear hcl
          have HX := Lib.hid (show RowP (wr.setCell ⟨w.heap.size, k, none⟩ (.int .u8 49)) w.heap.size 5 (bts (opK s.data.toList (k + 1))) by
            have h := hrow.set k (.int .u8 49) (by rw [hlen]; omega)
            rw [show (Value.int .u8 49) = .int .u8 ((49 : UInt8).toNat : Int) from rfl, bts_set, HS2.out] at h
            exact h)
          clear hrow hlen
          go_wp2_with fail
          go_roundw
          case rel => exact ⟨k + 1, by omega, by go_num, HB.out.setCell (p := ⟨w.heap.size, k, none⟩) (Nat.le_refl _) _, .inr ⟨by omega, c, rfl, HX.out⟩⟩
          case measure => simp [intOf]; omega
        · have hv : ((s[k].toNat : Nat) : Int) = 49 := by rw [hl]; rfl
          have hop : opC s[k] = 48 := by rw [hl]; decide
          have HS2 := Lib.hid (show (opK s.data.toList k).set k 48 = opK s.data.toList (k + 1) by rw [← hop]; exact HS1.out)
          clear hl hop
          have hlen : (bts (opK s.data.toList k)).length = n := by rw [bts_len, HLN.out]
          have hcl := hrow.cell k (by rw [hlen]; omega)
          have hfz := hrow.frozen k (by rw [hlen]; omega)
          rw [List.getElem?_eq_getElem (by rw [hlen]; omega)] at hcl
          obtain ⟨u, hcu⟩ : ∃ u, wr.cell? ⟨w.heap.size, k, none⟩ = some u := ⟨_, hcl⟩
          clear hcl
          have HX := Lib.hid (show RowP (wr.setCell ⟨w.heap.size, k, none⟩ (.int .u8 48)) w.heap.size 5 (bts (opK s.data.toList (k + 1))) by
            have h := hrow.set k (.int .u8 48) (by rw [hlen]; omega)
            rw [show (Value.int .u8 48) = .int .u8 ((48 : UInt8).toNat : Int) from rfl, bts_set, HS2.out] at h
            exact h)
          clear hrow hlen
          go_wp2_with fail
          go_roundw
          case rel => exact ⟨k + 1, by omega, by go_num, HB.out.setCell (p := ⟨w.heap.size, k, none⟩) (Nat.le_refl _) _, .inr ⟨by omega, c, rfl, HX.out⟩⟩
          case measure => simp [intOf]; omega
    · obtain rfl : k = n := by omega
      have hd : decide ((k : Int) < (k : Int)) = false := by simp
      rcases hcase with ⟨rfl, rfl, hws⟩ | ⟨hk1, c, rfl, hrow⟩
      · have HV := Lib.hid (show s = ⟨(s.data.toList.map opC).toArray⟩ by
          have e : s.data.toList = [] := List.eq_nil_of_length_eq_zero HN.out
          rw [e]; apply ByteArray.ext; apply Array.ext'; exact e)
        go_wp2_with fail
        go_ret
        exact ⟨by rw [← HV.out]; rfl, HB.out⟩
      · have hcv := run_string_rowP (P := Try.prog) (w := wr) (src := 62) (dst := 9) (c := c) (n := k) Try.underlying62 Try.underlying5 Try.underlying9 hrow (HLN.out k)
        rw [HALL.out] at hcv
        clear hrow
        go_wp2_with fail
        go_ret
        exact ⟨rfl, HB.out⟩
end Go.Proofs.Ytagelndnhpijfaa
