/-
  The contract of Frame, and the example of the chapter.
-/
import Derived.Test.YtdalcopbaaabiaaDoorStC
import Derived.Test.YtdalcopbaaabiaaDoorBws
namespace Go.Proofs.YtdalcopbaaabiaaDoor
open Go.RowKit

/-- The slice at a holds these strings. -/
def SRow (w : World) (a : Option Addr) (ss : List ByteArray) : Prop :=
  ∀ (j : Nat) (hj : j < ss.length), ∃ g o, a = some ⟨g, o, none⟩ ∧ w.cell? ⟨g, o + j, none⟩ = some (.string ss[j])
theorem cell_lt {w : World} {g j : Nat} {v : Value} (h : w.cell? ⟨g, j, none⟩ = some v) : g < w.heap.size := by
  rcases Nat.lt_or_ge g w.heap.size with h' | h'
  · exact h'
  · simp [World.cell?, Array.getElem?_eq_none h'] at h
theorem SRow.below {w w' : World} {a : Option Addr} {ss : List ByteArray} (h : SRow w a ss) (hb : Below w.heap.size w w') : SRow w' a ss := fun j hj => by
  obtain ⟨g, o, h1, h2⟩ := h j hj
  exact ⟨g, o, h1, cell_below h2 hb (cell_lt h2)⟩
def flag : List UInt8 := [48, 49, 49, 49, 49, 49, 49, 48]
def frW (s : ByteArray) : List UInt8 := stf 49 48 5 0 s.data.toList ++ flag
def frT (ss : List ByteArray) : List UInt8 := flag ++ ss.flatMap frW
def fbad : List ByteArray → Int
  | [] => 0
  | s :: ss => if chk 2 s.data.toList ≠ 0 then chk 2 s.data.toList else fbad ss
def frE (ss : List ByteArray) : Int := if 4096 < ss.length then 4 else if fbad ss ≠ 0 then fbad ss else if (frT ss).length ≤ 65536 then 0 else 4
def frO (ss : List ByteArray) : List UInt8 := if frE ss = 0 then frT ss else []
theorem fbad_all : ∀ {ss : List ByteArray}, fbad ss = 0 → ∀ (j : Nat) (hj : j < ss.length), chk 2 ss[j].data.toList = 0
  | [], _, j, hj => by simp at hj
  | s :: ss, h, j, hj => by
    rw [fbad] at h
    by_cases hc : chk 2 s.data.toList = 0
    · rw [if_neg (by simp [hc])] at h
      rcases j with _ | j
      · exact hc
      · exact fbad_all h j (by simpa using hj)
    · rw [if_pos hc] at h; exact absurd h hc
theorem drop_cons' {α : Type} {l : List α} {k : Nat} (h : k < l.length) : l.drop k = l[k] :: l.drop (k + 1) := List.drop_eq_getElem_cons h
theorem Bld.below {B m b : Nat} {l : List UInt8} {w w' : World} (h : Bld B m b l w) (hb : Below w.heap.size w w') : Bld B m b l w' := by
  obtain ⟨k1, k2, k3, p, v, hp, hk, ho⟩ := h
  refine ⟨k1, k2, Nat.le_trans k3 hb.size, p, v, hp, by rw [hb.block b (by omega)]; exact hk, ?_⟩
  rcases hv : v.ownBlock with _ | g
  · exact ho.kept (grown_of_below hb none) (.inl hv)
  · exact ho.kept (grown_of_below hb none) (.inr (by rw [hv]; simp))

set_option maxHeartbeats 1000000 in
set_option maxRecDepth 100000 in
theorem Frame_any (a : Option Addr) (c : Nat) (ss : List ByteArray) (w : World) (hrow : SRow w a ss) (hlen : ss.length ≤ 9223372036854775807) :
    Calls Tryd.prog 36 #[.slice a ss.length c] w
      fun e w' => e = .returned (.tuple #[.string ⟨(frO ss).toArray⟩, .int .i64 (frE ss)]) ∧ Below w.heap.size w w' := by
  by_cases h0 : 4096 < ss.length
  · have HV := Lib.hid (show frE ss = 4 by rw [frE, if_pos h0])
    have HO := Lib.hid (show frO ss = [] by rw [frO, HV.out]; rfl)
    go_enter Tryd.func36, Tryd.ntmps36
    go_wp2_with fail
    go_ret2
    exact ⟨by rw [HV.out, HO.out]; rfl, Below.refl _ _⟩
  · have HR := Lib.hid hrow; clear hrow
    have hv : frE ss = if fbad ss ≠ 0 then fbad ss else if (frT ss).length ≤ 65536 then 0 else 4 := by rw [frE, if_neg h0]
    have HV := Lib.hid hv; clear hv
    go_enter Tryd.func36, Tryd.ntmps36
    go_wp2_with fail
    go_loopw [17] (fun i wr => ∃ k : Nat, k ≤ ss.length ∧ i = .int .i64 k ∧ fbad ss = fbad (ss.drop k) ∧ ∃ n, wr = w.drewN n) (fun i _ => ss.length - (intOf i).toNat)
    case atStart => exact ⟨0, by omega, rfl, rfl, 0, rfl⟩
    case round =>
      obtain ⟨k, hk, rfl, hfb, hw⟩ := hrel
      have HFB := Lib.hid hfb; clear hfb
      by_cases hlt : k < ss.length
      · obtain ⟨g, o, rfl, hc⟩ := HR.out k hlt
        have hc' : wr.cell? ⟨g, o + k, none⟩ = some (.string ss[k]) := by obtain ⟨n, hn⟩ := hw; rw [hn]; exact hc
        have HW := Lib.hid hw; clear hw hc
        have HFB2 := Lib.hid (show fbad ss = if chk 2 ss[k].data.toList ≠ 0 then chk 2 ss[k].data.toList else fbad (ss.drop (k + 1)) by
          rw [HFB.out, drop_cons' hlt, fbad])
        by_cases hck : chk 2 ss[k].data.toList = 0
        · have HCK := Lib.hid hck; clear hck
          go_wp2_with fail
          refine (check_any _ _ _).mono ?_
          rintro e w1 ⟨rfl, n, hn⟩
          rw [HCK.out]
          have HN := Lib.hid hn; clear hn
          go_wp2_with fail
          go_roundw
          case rel =>
            obtain ⟨n0, hn0⟩ := HW.out
            exact ⟨k + 1, by omega, by go_num, by rw [HFB2.out, if_neg (by simp [HCK.out])], _, by rw [HN.out, hn0, World.drewN_drewN]⟩
          case measure => simp [intOf]; omega
        · have hb : (chk 2 ss[k].data.toList != 0) = true := by simpa using hck
          have HE := Lib.hid (show frE ss = chk 2 ss[k].data.toList by rw [HV.out, HFB2.out, if_pos hck, if_pos hck])
          have HO := Lib.hid (show frO ss = [] by rw [frO, HE.out, if_neg hck])
          clear hck
          go_wp2_with fail
          refine (check_any _ _ _).mono ?_
          rintro e w1 ⟨rfl, n, hn⟩
          have HN := Lib.hid hn; clear hn
          go_wp2_with fail
          go_ret2
          refine ⟨by rw [HE.out, HO.out]; rfl, ?_⟩
          obtain ⟨n0, hn0⟩ := HW.out
          rw [HN.out, hn0, World.drewN_drewN]; exact below_ofN _
      · obtain rfl : k = ss.length := by omega
        have hd : decide ((ss.length : Int) < (ss.length : Int)) = false := by simp
        have hfz : fbad ss = 0 := by rw [HFB.out, List.drop_of_length_le (Nat.le_refl _)]; rfl
        have HALL := Lib.hid (fbad_all hfz)
        have HE := Lib.hid (show frE ss = if (frT ss).length ≤ 65536 then 0 else 4 by rw [HV.out, if_neg (by simp [hfz])])
        have HRR := Lib.hid (show SRow wr a ss from by obtain ⟨n, hn⟩ := hw; rw [hn]; exact HR.out)
        have HBW := Lib.hid (show Below w.heap.size w wr from by obtain ⟨n, hn⟩ := hw; rw [hn]; exact below_ofN n)
        have hzz : wr.heap.size = w.heap.size := by obtain ⟨n, hn⟩ := hw; rw [hn]; rfl
        have HZ := Lib.hid hzz
        have HBN := Lib.hid (bld_new wr.heap.size wr (Nat.le_refl _))
        clear hw hfz hzz HV HFB
        obtain ⟨wz, rfl⟩ : ∃ z, z = wr := ⟨_, rfl⟩
        go_wp2_with fail
        refine (writeString_any wz.heap.size (wz.heap.size + 1) wz.heap.size [] ⟨#[48, 49, 49, 49, 49, 49, 49, 48]⟩ _ HBN.out (by simp [ByteArray.size])).mono ?_
        rintro e w2 ⟨rfl, h1, h2, h3⟩
        have HBL := Lib.hid (show Bld wz.heap.size (wz.heap.size + 1) wz.heap.size flag w2 from h1)
        have HB2 := Lib.hid (((Below.refl wz.heap.size wz).alloc (Nat.le_refl _) (.cells #[.pointer none, .slice none 0 0] 66)).trans h3)
        clear h1 h2 h3 HBN
        go_wp2_with fail
        go_loopw [30] (fun i wq => ∃ k : Nat, k ≤ ss.length ∧ i = .int .i64 k ∧ ∃ out, out.length ≤ 65536 ∧ out ++ (ss.drop k).flatMap frW = frT ss ∧ Bld wz.heap.size (wz.heap.size + 1) wz.heap.size out wq ∧ Below wz.heap.size wz wq) (fun i _ => ss.length - (intOf i).toNat)
        case atStart => exact ⟨0, by omega, rfl, flag, by decide, rfl, HBL.out, HB2.out⟩
        case round =>
          obtain ⟨k, hk, rfl, out, hol, hst, hbld, hbb⟩ := hrel
          have HST := Lib.hid hst; clear hst
          have HBLD := Lib.hid hbld; clear hbld
          have HBB := Lib.hid hbb; clear hbb HBL HB2
          by_cases hlt : k < ss.length
          · obtain ⟨g, o, rfl, hc⟩ := (HRR.out.below HBB.out) k hlt
            have HCK := Lib.hid (HALL.out k hlt)
            have hsz : ss[k].size ≤ 65536 := ((chk2_iff _).1 HCK.out).1
            have HST2 := Lib.hid (show (out ++ stf 49 48 5 0 ss[k].data.toList ++ flag) ++ (ss.drop (k + 1)).flatMap frW = frT ss by
              rw [← HST.out, drop_cons' hlt]; simp only [List.flatMap_cons, frW, List.append_assoc])
            have hl1 : (stf 49 48 5 0 ss[k].data.toList).length ≤ 131072 := by
              have := stf_len 49 48 5 ss[k].data.toList 0
              have e : ss[k].data.toList.length = ss[k].size := rfl
              omega
            have HL1 := Lib.hid hl1; clear hl1
            by_cases hfit : (out ++ stf 49 48 5 0 ss[k].data.toList ++ flag).length ≤ 65536
            · have hfit' : decide ((65536 : Int) < ((out ++ stf 49 48 5 0 ss[k].data.toList ++ flag).length : Int)) = false := by rw [decide_eq_false_iff_not]; omega
              have HF := Lib.hid hfit; clear hfit
              go_wp2_with fail
              refine (stuffed_any 49 48 5 ss[k] _ (by omega) (by omega) (by omega)).mono ?_
              rintro e w3 ⟨rfl, h3⟩
              have HBL3 := Lib.hid (HBLD.out.below h3)
              have HB3 := Lib.hid (HBB.out.trans (h3.mono HBB.out.size)); clear h3
              go_wp2_with fail
              refine (writeString_any _ _ _ out _ _ HBL3.out (by have := HL1.out; simp [ByteArray.size]; omega)).mono ?_
              rintro e w4 ⟨rfl, h1, h2, h3⟩
              have HBL4 := Lib.hid (show Bld wz.heap.size (wz.heap.size + 1) wz.heap.size (out ++ stf 49 48 5 0 ss[k].data.toList) w4 from h1)
              have HB4 := Lib.hid (HB3.out.trans h3); clear h1 h2 h3
              go_wp2_with fail
              refine (writeString_any _ _ _ _ ⟨#[48, 49, 49, 49, 49, 49, 49, 48]⟩ _ HBL4.out (by have := HL1.out; simp [ByteArray.size]; omega)).mono ?_
              rintro e w5 ⟨rfl, h1, h2, h3⟩
              have HBL5 := Lib.hid (show Bld wz.heap.size (wz.heap.size + 1) wz.heap.size (out ++ stf 49 48 5 0 ss[k].data.toList ++ flag) w5 from h1)
              have HB5 := Lib.hid (HB4.out.trans h3); clear h1 h2 h3
              go_wp2_with fail
              refine (builder_len _ _ _ _ _ HBL5.out).mono ?_
              rintro e w6 ⟨rfl, rfl⟩
              generalize hG : out ++ stf 49 48 5 0 ss[k].data.toList ++ flag = G at *
              have HG := Lib.hid hG; clear hG
              go_wp2_with fail
              go_roundw
              case rel => exact ⟨k + 1, by omega, by go_num, G, HF.out, HST2.out, HBL5.out, HB5.out⟩
              case measure => simp [intOf]; omega
            · have hfit' : decide ((65536 : Int) < ((out ++ stf 49 48 5 0 ss[k].data.toList ++ flag).length : Int)) = true := by rw [decide_eq_true_iff]; omega
              have HE4 := Lib.hid (show frE ss = 4 by
                rw [HE.out, if_neg]
                rw [← HST2.out, List.length_append]; omega)
              have HO := Lib.hid (show frO ss = [] by rw [frO, HE4.out]; rfl)
              clear hfit
              go_wp2_with fail
              refine (stuffed_any 49 48 5 ss[k] _ (by omega) (by omega) (by omega)).mono ?_
              rintro e w3 ⟨rfl, h3⟩
              have HBL3 := Lib.hid (HBLD.out.below h3)
              have HB3 := Lib.hid (HBB.out.trans (h3.mono HBB.out.size)); clear h3
              go_wp2_with fail
              refine (writeString_any _ _ _ out _ _ HBL3.out (by have := HL1.out; simp [ByteArray.size]; omega)).mono ?_
              rintro e w4 ⟨rfl, h1, h2, h3⟩
              have HBL4 := Lib.hid (show Bld wz.heap.size (wz.heap.size + 1) wz.heap.size (out ++ stf 49 48 5 0 ss[k].data.toList) w4 from h1)
              have HB4 := Lib.hid (HB3.out.trans h3); clear h1 h2 h3
              go_wp2_with fail
              refine (writeString_any _ _ _ _ ⟨#[48, 49, 49, 49, 49, 49, 49, 48]⟩ _ HBL4.out (by have := HL1.out; simp [ByteArray.size]; omega)).mono ?_
              rintro e w5 ⟨rfl, h1, h2, h3⟩
              have HBL5 := Lib.hid (show Bld wz.heap.size (wz.heap.size + 1) wz.heap.size (out ++ stf 49 48 5 0 ss[k].data.toList ++ flag) w5 from h1)
              have HB5 := Lib.hid (HB4.out.trans h3); clear h1 h2 h3
              go_wp2_with fail
              refine (builder_len _ _ _ _ _ HBL5.out).mono ?_
              rintro e w6 ⟨rfl, rfl⟩
              generalize hG : out ++ stf 49 48 5 0 ss[k].data.toList ++ flag = G at *
              have HG := Lib.hid hG; clear hG
              go_wp2_with fail
              go_ret2
              exact ⟨by rw [HE4.out, HO.out]; rfl, HBW.out.trans (HB5.out.mono (by rw [HZ.out]; exact Nat.le_refl _))⟩
          · obtain rfl : k = ss.length := by omega
            have hd : decide ((ss.length : Int) < (ss.length : Int)) = false := by simp
            have hout : out = frT ss := by
              have := HST.out
              rw [List.drop_of_length_le (Nat.le_refl _)] at this
              simpa using this
            have HE4 := Lib.hid (show frE ss = 0 by rw [HE.out, if_pos (by rw [← hout]; exact hol)])
            have HO := Lib.hid (show frO ss = out by rw [frO, HE4.out, hout]; rfl)
            clear hout
            go_wp2_with fail
            refine (builder_string _ _ _ out _ HBLD.out).mono ?_
            rintro e w6 ⟨rfl, h1⟩
            have HB6 := Lib.hid (HBB.out.trans h1); clear h1
            go_wp2_with fail
            go_ret2
            exact ⟨by rw [HE4.out, HO.out]; rfl, HBW.out.trans (HB6.out.mono (by rw [HZ.out]; exact Nat.le_refl _))⟩
end Go.Proofs.YtdalcopbaaabiaaDoor
