/-
  The contracts of the references Great and Frame.
-/
import Derived.Test.YtdalcopbaaabiaaDoorStS
import Derived.Test.YtdalcopbaaabiaaDoorStH
namespace Go.Proofs.YtdalcopbaaabiaaDoor
open Go.RowKit

def smallA (ss : List ByteArray) : Bool := ss.all fun s => decide (s.size ≤ 60)
theorem smallA_succ {ss : List ByteArray} {k : Nat} (h : k < ss.length) : smallA (ss.take (k + 1)) = (smallA (ss.take k) && decide (ss[k].size ≤ 60)) := by
  unfold smallA
  rw [List.take_add_one, List.getElem?_eq_getElem h, Option.toList_some, List.all_append]; simp
def grS (ss : List ByteArray) : Bool := !smallA ss || (decide (12 < ss.length) && decide (ss.length ≤ 4096)) || decide (4099 < ss.length)

set_option maxHeartbeats 1000000 in
set_option maxRecDepth 100000 in
theorem refGreat_any (a : Option Addr) (c : Nat) (ss : List ByteArray) (w : World) (hrow : SRow w a ss) (hlen : ss.length ≤ 9223372036854775807) :
    Calls Tryd.prog 35 #[.slice a ss.length c] w fun e w' => e = .returned (.bool (grS ss)) ∧ w = w' := by
  have HR := Lib.hid hrow; clear hrow
  go_enter Tryd.func35, Tryd.ntmps35
  go_wp2_with fail
  go_loop [3] (fun i => ∃ k : Nat, k ≤ ss.length ∧ i = .int .i64 k ∧ smallA (ss.take k) = true) (fun i => ss.length - (intOf i).toNat)
  case atStart => exact ⟨0, by omega, rfl, rfl⟩
  case round =>
    obtain ⟨k, hk, rfl, hall⟩ := hrel
    have HA := Lib.hid hall; clear hall
    by_cases hlt : k < ss.length
    · obtain ⟨g, o, rfl, hc⟩ := HR.out k hlt
      have HS := Lib.hid (smallA_succ hlt)
      generalize hx : ss[k] = x at *
      by_cases hs : x.size ≤ 60
      · have hd : decide ((60 : Int) < (x.size : Int)) = false := by simp; omega
        go_wp2_with fail
        go_round
        case rel => exact ⟨k + 1, by omega, by go_num, by rw [HS.out, HA.out, decide_eq_true hs]; rfl⟩
        case measure => simp [intOf]; omega
      · have hd : decide ((60 : Int) < (x.size : Int)) = true := by simp; omega
        have HG := Lib.hid (show grS ss = true by
          have : smallA ss = false := by
            rw [Bool.eq_false_iff]; intro h
            unfold smallA at h
            rw [List.all_eq_true] at h
            have := h _ (List.getElem_mem hlt)
            rw [hx] at this
            simp at this; omega
          rw [grS, this]; rfl)
        clear hs
        go_wp2_with fail
        go_ret
        exact ⟨by rw [HG.out]; rfl, rfl⟩
    · obtain rfl : k = ss.length := by omega
      have hd : decide ((ss.length : Int) < (ss.length : Int)) = false := by simp
      have HS := Lib.hid (show smallA ss = true by have := HA.out; rwa [List.take_length] at this)
      have HG := Lib.hid (show grS ss = ((decide ((12 : Int) < (ss.length : Int)) && decide ((ss.length : Int) ≤ 4096)) || decide ((4099 : Int) < (ss.length : Int))) by
        rw [grS, HS.out]
        simp only [Bool.not_true, Bool.false_or]
        congr 1
        · congr 1
          · exact decide_eq_decide.2 (by omega)
          · exact decide_eq_decide.2 (by omega)
        · exact decide_eq_decide.2 (by omega))
      by_cases h1 : 12 < ss.length
      · have e1 : decide ((12 : Int) < (ss.length : Int)) = true := by simp; omega
        by_cases h2 : ss.length ≤ 4096
        · have e2 : decide ((ss.length : Int) ≤ 4096) = true := by simp; omega
          have HE1 := Lib.hid e1; have HE2 := Lib.hid e2
          go_wp2_with fail
          go_ret
          exact ⟨by rw [HG.out, HE1.out, HE2.out]; rfl, rfl⟩
        · have e2 : decide ((ss.length : Int) ≤ 4096) = false := by simp; omega
          have HE1 := Lib.hid e1; have HE2 := Lib.hid e2
          by_cases h3 : 4099 < ss.length
          · have e3 : decide ((4099 : Int) < (ss.length : Int)) = true := by simp; omega
            have HE3 := Lib.hid e3
            go_wp2_with fail
            go_ret
            exact ⟨by rw [HG.out, HE1.out, HE2.out, HE3.out]; rfl, rfl⟩
          · have e3 : decide ((4099 : Int) < (ss.length : Int)) = false := by simp; omega
            have HE3 := Lib.hid e3
            go_wp2_with fail
            go_ret
            exact ⟨by rw [HG.out, HE1.out, HE2.out, HE3.out]; rfl, rfl⟩
      · have e1 : decide ((12 : Int) < (ss.length : Int)) = false := by simp; omega
        have e3 : decide ((4099 : Int) < (ss.length : Int)) = false := by simp; omega
        have HE1 := Lib.hid e1; have HE3 := Lib.hid e3
        go_wp2_with fail
        go_ret
        exact ⟨by rw [HG.out, HE1.out, HE3.out]; rfl, rfl⟩

theorem frW_len {s : ByteArray} (h : s.size ≤ 60) : (frW s).length ≤ 80 := by
  have h5 := stf_len5 49 48 s.data.toList 0 (by omega)
  have h8 : flag.length = 8 := rfl
  have e : s.data.toList.length = s.size := rfl
  rw [frW, List.length_append]; omega
theorem frW_lens : ∀ {ss : List ByteArray}, smallA ss = true → (ss.flatMap frW).length ≤ ss.length * 80
  | [], _ => by simp
  | s :: ss, h => by
    simp only [smallA, List.all_cons, Bool.and_eq_true, decide_eq_true_eq] at h
    have i1 := frW_lens (ss := ss) h.2
    have := frW_len h.1
    simp only [List.flatMap_cons, List.length_append, List.length_cons]; omega

set_option maxHeartbeats 1000000 in
set_option maxRecDepth 100000 in
theorem refFrame_any (a : Option Addr) (c : Nat) (ss : List ByteArray) (w : World) (hrow : SRow w a ss) (hlen : ss.length ≤ 9223372036854775807) (hg : grS ss = false) :
    Calls Tryd.prog 37 #[.slice a ss.length c] w
      fun e w' => e = .returned (.tuple #[.string ⟨(frO ss).toArray⟩, .int .i64 (frE ss)]) ∧ Below w.heap.size w w' := by
  by_cases h0 : 4096 < ss.length
  · have HV := Lib.hid (show frE ss = 4 by rw [frE, if_pos h0])
    have HO := Lib.hid (show frO ss = [] by rw [frO, HV.out]; rfl)
    clear hg
    go_enter Tryd.func37, Tryd.ntmps37
    go_wp2_with fail
    go_ret2
    exact ⟨by rw [HV.out, HO.out]; rfl, Below.refl _ _⟩
  · simp only [grS, Bool.or_eq_false_iff, Bool.and_eq_false_iff, Bool.not_eq_false', decide_eq_false_iff_not] at hg
    have hl12 : ss.length ≤ 12 := by omega
    have HSM := Lib.hid hg.1.1
    clear hg
    have HR := Lib.hid hrow; clear hrow
    have hT := frW_lens HSM.out
    have h8 : flag.length = 8 := rfl
    have hv : frE ss = if fbad ss ≠ 0 then fbad ss else 0 := by
      rw [frE, if_neg h0]
      by_cases hf : fbad ss = 0
      · rw [if_neg (by simp [hf]), if_pos (by rw [frT, List.length_append]; omega), if_neg (by simp [hf])]
      · rw [if_pos hf, if_pos hf]
    have HV := Lib.hid hv; clear hv hT h8
    go_enter Tryd.func37, Tryd.ntmps37
    go_wp2_with fail
    go_loopw [4, 5] (fun v i wr => ∃ (k : Nat) (o : ByteArray), k ≤ ss.length ∧ i = .int .i64 k ∧ v = .string o ∧ o.size ≤ 8 + k * 80 ∧ fbad ss = fbad (ss.drop k) ∧ o.data.toList ++ (ss.drop k).flatMap frW = frT ss ∧ Below w.heap.size w wr) (fun _ i _ => ss.length - (intOf i).toNat)
    case atStart => exact ⟨0, ⟨#[48, 49, 49, 49, 49, 49, 49, 48]⟩, by omega, rfl, rfl, by decide, rfl, rfl, Below.refl _ _⟩
    case round =>
      obtain ⟨k, o, hk, rfl, rfl, hol, hfb, hst, hb⟩ := hrel
      have HFB := Lib.hid hfb; clear hfb
      have HST := Lib.hid hst; clear hst
      have HB := Lib.hid hb
      by_cases hlt : k < ss.length
      · obtain ⟨g, o', rfl, hc⟩ := (HR.out.below hb) k hlt
        clear hb
        have HFB2 := Lib.hid (show fbad ss = if chk 2 ss[k].data.toList ≠ 0 then chk 2 ss[k].data.toList else fbad (ss.drop (k + 1)) by
          rw [HFB.out, drop_cons' hlt, fbad])
        have hs60 : ss[k].size ≤ 60 := by
          have := HSM.out
          unfold smallA at this
          rw [List.all_eq_true] at this
          simpa using this _ (List.getElem_mem hlt)
        have hw := frW_len hs60
        have HST2 := Lib.hid (show (o.data.toList ++ stf 49 48 5 0 ss[k].data.toList ++ flag) ++ (ss.drop (k + 1)).flatMap frW = frT ss by
          rw [← HST.out, drop_cons' hlt]; simp only [List.flatMap_cons, frW, List.append_assoc])
        rw [frW, List.length_append] at hw
        obtain ⟨x, hx⟩ : ∃ x, ss[k] = x := ⟨_, rfl⟩
        rw [hx] at hc HFB2 hs60 hw HST2
        clear hx
        by_cases hck : chk 2 x.data.toList = 0
        · have HCK := Lib.hid hck; clear hck
          go_wp2_with fail
          refine (refCheck_any _ _ _).mono ?_
          rintro e w1 ⟨rfl, rfl⟩
          rw [HCK.out]
          go_wp2_with fail
          refine (refstuff_any 49 48 (.inr ⟨rfl, rfl⟩) 5 x _ (by omega) (by omega) (by omega)).mono ?_
          rintro e w2 ⟨rfl, h2⟩
          have HB2 := Lib.hid (HB.out.trans (h2.mono HB.out.size)); clear h2
          obtain ⟨y, hy⟩ : ∃ y, stf 49 48 5 0 x.data.toList = y := ⟨_, rfl⟩
          rw [hy] at hw HST2 ⊢
          clear hy
          have hys : (⟨y.toArray⟩ : ByteArray).size = y.length := by simp [ByteArray.size]
          have hf8 : flag.length = 8 := rfl
          have hov1 : ¬ 9223372036854775807 < o.size + y.length := by omega
          have hov2 : ¬ 9223372036854775807 < o.size + y.length + 8 := by omega
          have hov3 : (o ++ (⟨y.toArray⟩ : ByteArray)).size = o.size + y.length := by rw [ByteArray.size_append, hys]
          go_wp2_with fail
          go_roundw
          case rel =>
            refine ⟨k + 1, _, by omega, by go_num, rfl, ?_, ?_, ?_, HB2.out⟩
            · rw [ByteArray.size_append, ByteArray.size_append, hys]; show o.size + y.length + 8 ≤ _; omega
            · rw [HFB2.out, if_neg (by simp [HCK.out])]
            · rw [← HST2.out, Go.Joins.data_append, Go.Joins.data_append]; simp [flag]
          case measure => simp [intOf]; omega
        · have hbb : (chk 2 x.data.toList != 0) = true := by simpa using hck
          have HE := Lib.hid (show frE ss = chk 2 x.data.toList by rw [HV.out, HFB2.out, if_pos hck, if_pos hck])
          have HO := Lib.hid (show frO ss = [] by rw [frO, HE.out, if_neg hck])
          clear hck
          go_wp2_with fail
          refine (refCheck_any _ _ _).mono ?_
          rintro e w1 ⟨rfl, rfl⟩
          go_wp2_with fail
          go_ret2
          exact ⟨by rw [HE.out, HO.out]; rfl, HB.out⟩
      · obtain rfl : k = ss.length := by omega
        have hd : decide ((ss.length : Int) < (ss.length : Int)) = false := by simp
        have hfz : fbad ss = 0 := by rw [HFB.out, List.drop_of_length_le (Nat.le_refl _)]; rfl
        have HE := Lib.hid (show frE ss = 0 by rw [HV.out, if_neg (by simp [hfz])])
        have HO := Lib.hid (show o = ⟨(frO ss).toArray⟩ by
          have h1 := HST.out
          rw [List.drop_of_length_le (Nat.le_refl _)] at h1
          simp only [List.flatMap_nil, List.append_nil] at h1
          rw [frO, if_pos HE.out, ← h1])
        clear hb hfz
        go_wp2_with fail
        refine (limited_any o (by omega) _).mono ?_
        rintro e w2 ⟨rfl, rfl⟩
        go_wp2_with fail
        go_ret2
        exact ⟨by rw [HE.out, ← HO.out]; rfl, HB.out⟩
end Go.Proofs.YtdalcopbaaabiaaDoor
