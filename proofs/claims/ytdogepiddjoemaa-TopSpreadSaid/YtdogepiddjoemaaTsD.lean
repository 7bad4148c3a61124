/-
  The law: interleaved bursts are spread.
-/
import Derived.Test.YtdogepiddjoemaaTsC
import Derived.Test.YtdogepiddjoemaaTpB
import Derived.Lib.OthersKept
import Derived.Laws.RangeString
namespace Go.Proofs.Ytdogepiddjoemaa
open Go.RowKit

def itPos (w : World) (k : Nat) : Nat := match w.heap[k]? with | some (.stringIter _ p) => p | _ => 0
theorem itPos_of {w : World} {k : Nat} {s : ByteArray} {p : Nat} (h : w.heap[k]? = some (.stringIter s p)) : itPos w k = p := by simp [itPos, h]
/-- The rows with their digests, one behind the other. -/
def xw (g : List UInt8) (l : List ByteArray) : List UInt8 := l.flatMap fun r => r.data.toList ++ smV g r.data.toList
theorem xw_len {g : List UInt8} {n : Nat} : ∀ {l : List ByteArray}, (∀ r ∈ l, r.data.toList.length + deg g = n) → (xw g l).length = n * l.length
  | [], _ => by simp [xw]
  | r :: l, h => by
    have h1 := h r (List.mem_cons_self ..)
    have h2 := xw_len (l := l) fun s hs => h s (List.mem_cons_of_mem _ hs)
    show ((r.data.toList ++ smV g r.data.toList) ++ xw g l).length = _
    rw [List.length_append, List.length_append, smV_len, h1, h2, List.length_cons, Nat.mul_add, Nat.mul_one, Nat.add_comm]
theorem xw_bin {g : List UInt8} : ∀ {l : List ByteArray}, (∀ r ∈ l, r.data.toList.all isB = true) → (xw g l).all isB = true
  | [], _ => rfl
  | r :: l, h => by
    show ((r.data.toList ++ smV g r.data.toList) ++ xw g l).all isB = true
    rw [List.all_append, List.all_append, h r (List.mem_cons_self ..), smV_bin, xw_bin fun s hs => h s (List.mem_cons_of_mem _ hs)]; rfl
theorem xw_row {g : List UInt8} {n : Nat} : ∀ {l : List ByteArray} (_ : ∀ r ∈ l, r.data.toList.length + deg g = n) (k : Nat) (hk : k < l.length), rowL (xw g l) n k = l[k].data.toList ++ smV g l[k].data.toList
  | r :: l, h, 0, _ => by
    have h1 := h r (List.mem_cons_self ..)
    show (((r.data.toList ++ smV g r.data.toList) ++ xw g l).drop (0 * n)).take n = _
    rw [Nat.zero_mul, List.drop_zero, List.take_append_of_le_length (by rw [List.length_append, smV_len]; omega), List.take_of_length_le (by rw [List.length_append, smV_len]; omega)]
    rfl
  | r :: l, h, k + 1, hk => by
    have h1 := h r (List.mem_cons_self ..)
    have h2 := xw_row (l := l) (fun s hs => h s (List.mem_cons_of_mem _ hs)) k (by simpa using hk)
    show (((r.data.toList ++ smV g r.data.toList) ++ xw g l).drop ((k + 1) * n)).take n = _
    have e : (r.data.toList ++ smV g r.data.toList).length = n := by rw [List.length_append, smV_len]; exact h1
    rw [show (k + 1) * n = (r.data.toList ++ smV g r.data.toList).length + k * n by rw [e, Nat.add_mul, Nat.one_mul, Nat.add_comm], List.drop_append, List.drop_eq_nil_of_le (by omega), List.nil_append, Nat.add_sub_cancel_left]
    exact h2
theorem xw_next {g : List UInt8} {l : List ByteArray} {k : Nat} (hk : k < l.length) : xw g (l.take (k + 1)) = xw g (l.take k) ++ (l[k].data.toList ++ smV g l[k].data.toList) := by
  rw [xw, List.take_add_one, List.getElem?_eq_getElem hk, Option.toList_some, List.flatMap_append]; simp [xw]
theorem flip_slot {c : UInt8} : bits .xor .u8 (c.toNat : Int) 1 = ((c ^^^ 1).toNat : Int) := by
  have hc := c.toNat_lt
  rw [show (1 : Int) = ((1 : Nat) : Int) from rfl, u8_xor_nat _ _ (by omega) (by omega), UInt8.toNat_xor]; rfl
theorem blkS_ok {R n : Nat} {W : List UInt8} (hR : 1 ≤ R) (hR4 : R ≤ 4) (hW : W.length = n * R) (hs : W.length ≤ 60000) (hb : W.all isB = true) :
    ckBlock (R : Int) W = 0 ∧ blkS (R : Int) W = putL W W.length (posn n R) ∧ ublS (R : Int) W = takeL W (posn n R) W.length := by
  have hmod : (W.length : Int) % (R : Int) = 0 := by rw [← Int.natCast_emod, hW, Nat.mul_mod_left]; rfl
  have h0 := ckBlock_mk (rows := (R : Int)) (chk16_bin (l := W) (by omega) hb) (by omega) (by omega) hmod
  have hdiv : W.length / (R : Int).toNat = n := by rw [Int.toNat_natCast, hW, Nat.mul_div_cancel _ (by omega)]
  refine ⟨h0, ?_, ?_⟩
  · rw [blkS, if_neg (by simp [h0]), hdiv, Int.toNat_natCast]
  · rw [ublS, if_neg (by simp [h0]), hdiv, Int.toNat_natCast]
theorem ext_row (B : ByteArray) (n k : Nat) : (B.extract (k * n) ((k + 1) * n)).data.toList = rowL B.data.toList n k := by
  rw [← ByteArray.toList_eq, Lib.extract_toList, rowL, show (k + 1) * n - k * n = n by rw [Nat.add_mul, Nat.one_mul]; omega]

set_option maxHeartbeats 8000000 in
set_option maxRecDepth 100000 in
theorem law_topSpread (g : ByteArray) (a : Option Addr) (cap : Nat) (l : List ByteArray) (z1 z2 : Int) (w2 : (Lit.int .u8 z1).wf = true) (w3 : (Lit.int .u8 z2).wf = true) (w : World) (lr : SRow w a l) (lm : l.length ≤ 9223372036854775807) :
    Calls Try.prog 4 #[.string g, .slice a l.length cap, .int .u8 z1, .int .u8 z2] w fun e w' => e = .returned (.bool true) ∧ Below w.heap.size w w' := by
  simp [Lit.wf, IntKind.min, IntKind.max, IntKind.signed, IntKind.bits] at w2 w3
  obtain ⟨T1, rfl⟩ : ∃ n : Nat, z1 = n := ⟨z1.toNat, by omega⟩
  obtain ⟨T2, rfl⟩ : ∃ n : Nat, z2 = n := ⟨z2.toNat, by omega⟩
  obtain ⟨R, hR⟩ : ∃ R, l.length = R := ⟨_, rfl⟩
  have hbx := (Boxed.new w 33 (.slice a l.length cap)).cell
  have hsr := srow_alloc lr (.cells #[.slice a l.length cap] 33)
  have hb0 : Below w.heap.size w (w.alloc (.cells #[.slice a l.length cap] 33)) := (Below.refl _ w).alloc (Nat.le_refl _) _
  have hsz0 : (w.alloc (.cells #[.slice a l.length cap] 33)).heap.size = w.heap.size + 1 := by simp
  rw [hR] at hbx hsr hb0 hsz0 ⊢
  obtain ⟨W1, hW1⟩ : ∃ W1, w.alloc (.cells #[.slice a R cap] 33) = W1 := ⟨_, rfl⟩
  rw [hW1] at hbx hsr hb0 hsz0
  have HW1 := Lib.hid hW1
  have HBX := Lib.hid hbx
  have HSR := Lib.hid hsr
  have HB0 := Lib.hid hb0
  have HSZ0 := Lib.hid hsz0
  clear hsr hb0 hsz0 hW1 lr
  by_cases h8 : g.size ≤ 8
  · have hd8 : decide ((8 : Int) < (g.size : Int)) = false := by simp; omega
    by_cases hg : gck g.data.toList = 0
    · have HG := Lib.hid hg
      by_cases hR0 : R = 0
      · have ht0 : ((R : Int) == 0) = true := by rw [hR0]; rfl
        clear hR0 hR hg
        go_enter Try.func4, Try.ntmps4
        go_wp2_with fail
        rw [HW1.out]
        refine (refGCheck_any _ _).mono ?_
        rintro e x1 ⟨rfl, rfl⟩
        rw [HG.out]
        go_wp2_with fail
        refine (tawake_any _).mono ?_
        rintro e w7 ⟨rfl, h7⟩
        have H7 := Lib.hid (HB0.out.trans (h7.mono HB0.out.size)); clear h7
        go_wp2_with fail
        go_ret
        exact ⟨rfl, H7.out⟩
      · have ht0 : ((R : Int) == 0) = false := by simp; omega
        by_cases hR4 : R ≤ 4
        · have hd4 : decide ((4 : Int) < (R : Int)) = false := by simp; omega
          have hd4' : decide (4 < R) = false := by simp; omega
          have h0l : 0 < l.length := by omega
          obtain ⟨m, hm⟩ : ∃ m, l[0].size = m := ⟨_, rfl⟩
          have HCF := Lib.hid (show ∀ (x : World), x.cell? ⟨w.heap.size, 0, none⟩ = some (.slice a R cap) → SRow x a l → Calls Try.prog 11 #[.slice a R cap, .func (.func 12) #[] #[.pointer (some ⟨w.heap.size, 0, none⟩)]] x
              fun e w' => e = .returned (.bool (!rwA m l)) ∧ Below x.heap.size x w' from fun x h1 h2 => by
            have := rContainsFunc_any a cap l m w.heap.size x h2 lm (by rw [hR]; exact h1) (fun _ => hm)
            rwa [hR] at this)
          have hmf : ∀ fn first cap w, (Instr.makeFunc fn first cap).run Try.prog w = .ok (.func fn first cap) w := fun _ _ _ _ => rfl
          cases hrw : rwA m l with
          | false =>
            have HRW := Lib.hid hrw
            clear hrw hR hm h0l hg
            go_enter Try.func4, Try.ntmps4
            go_wp2_with fail
            rw [HW1.out]
            refine (refGCheck_any _ _).mono ?_
            rintro e x1 ⟨rfl, rfl⟩
            rw [HG.out]
            go_wp2_with fail
            refine (HCF.out _ HBX.out HSR.out).mono ?_
            rintro e x1 ⟨rfl, h1⟩
            rw [HRW.out]
            have H1 := Lib.hid h1; clear h1
            go_wp2_with fail
            refine (tawake_any _).mono ?_
            rintro e w7 ⟨rfl, h7⟩
            have H7 := Lib.hid (HB0.out.trans ((H1.out.trans (h7.mono H1.out.size)).mono HB0.out.size)); clear h7
            go_wp2_with fail
            go_ret
            exact ⟨rfl, H7.out⟩
          | true =>
            have HRW := Lib.hid hrw
            have hgen := (gck_iff _).1 hg
            have hlo := hgen.lo
            have e0 : g.data.toList.length = g.size := rfl
            obtain ⟨K, hK⟩ : ∃ K, deg g.data.toList = K := ⟨_, rfl⟩
            have hK1 : K + 1 = g.size := by rw [← hK]; unfold deg; omega
            have hall : ∀ r ∈ l, r.data.toList.length ≤ 8 ∧ r.data.toList.length = m ∧ r.data.toList.all isB = true := fun r hr => rwT_iff.1 (by
              unfold rwA at hrw; rw [List.all_eq_true] at hrw; exact hrw r hr)
            have hm8 : m ≤ 8 := by
              have h1 := hall l[0] (List.getElem_mem h0l)
              omega
            obtain ⟨n, hn⟩ : ∃ n, m + K = n := ⟨_, rfl⟩
            have hn15 : n ≤ 15 := by omega
            have hn1 : 1 ≤ n := by omega
            have hxn : ∀ r ∈ l, r.data.toList.length + deg g.data.toList = n := fun r hr => by rw [(hall r hr).2.1, hK, hn]
            have hxb : ∀ r ∈ l, r.data.toList.all isB = true := fun r hr => (hall r hr).2.2
            have hWl := xw_len (g := g.data.toList) hxn
            rw [hR] at hWl
            have hWb := xw_bin (g := g.data.toList) hxb
            have hrow := fun k hk => xw_row (g := g.data.toList) hxn k hk
            obtain ⟨N, hN⟩ : ∃ N, n * R = N := ⟨_, rfl⟩
            have hN60 : N ≤ 60 := by rw [← hN]; exact Nat.le_trans (Nat.mul_le_mul hn15 hR4) (by decide)
            have hN1 : 1 ≤ N := by rw [← hN]; exact Nat.mul_pos hn1 (by omega)
            have hap : ∀ k (hk : k < l.length), apE g.data.toList l[k].data.toList = 0 ∧ apO g.data.toList l[k].data.toList = l[k].data.toList ++ smV g.data.toList l[k].data.toList := fun k hk =>
              ap_ok hgen (by have := (hall l[k] (List.getElem_mem hk)).1; omega) (hxb _ (List.getElem_mem hk))
            obtain ⟨WL, hWL⟩ : ∃ WL, xw g.data.toList l = WL := ⟨_, rfl⟩
            rw [hWL] at hWl hWb hrow
            obtain ⟨WB, hWB⟩ : ∃ WB : ByteArray, (⟨WL.toArray⟩ : ByteArray) = WB := ⟨_, rfl⟩
            have hWBd : WB.data.toList = WL := by rw [← hWB]
            have hWBs : WB.size = N := by rw [← hWB, ba_len2, hWl, hN]
            obtain ⟨k1, k2, _⟩ := blkS_ok (R := R) (n := n) (W := WL) (by omega) hR4 hWl (by omega) hWb
            have htb := putL_bin hWb WL.length (posn n R)
            have htl := putL_len WL WL.length (posn n R)
            obtain ⟨T, hT⟩ : ∃ T, putL WL WL.length (posn n R) = T := ⟨_, rfl⟩
            rw [hT] at k2 htb htl
            obtain ⟨TB, hTB⟩ : ∃ TB : ByteArray, (⟨T.toArray⟩ : ByteArray) = TB := ⟨_, rfl⟩
            have hTBd : TB.data.toList = T := by rw [← hTB]
            have hTlN : T.length = N := by rw [htl, hWl, hN]
            have hTBs : TB.size = N := by rw [← hTB, ba_len2, hTlN]
            obtain ⟨I, hI⟩ : ∃ I, T1 % N = I := ⟨_, rfl⟩
            have hIi : ((T1 : Int)).tmod (N : Int) = (I : Int) := by rw [Int.tmod_eq_emod_of_nonneg (by omega), ← hI, Int.natCast_emod]
            have hIi2 : ((T1 : Int)) % (N : Int) = (I : Int) := by rw [← hI, Int.natCast_emod]
            have hIN : I < N := by rw [← hI]; exact Nat.mod_lt _ (by omega)
            obtain ⟨L, hL⟩ : ∃ L, min R (N - I) = L := ⟨_, rfl⟩
            have hLR : L ≤ R := by omega
            have hLN : I + L ≤ N := by omega
            have hLm : ∀ k : Nat, k < L ↔ (k < R ∧ I + k < N) := fun k => by omega
            have hFl := flF_len T I T2
            have hFb := flF_bin htb I T2 L (by omega)
            obtain ⟨F, hF⟩ : ∃ F, flF T I T2 L = F := ⟨_, rfl⟩
            have hFlN : F.length = n * R := by rw [← hF, hFl, hTlN, hN]
            rw [hF] at hFb
            obtain ⟨FB, hFB⟩ : ∃ FB : ByteArray, (⟨F.toArray⟩ : ByteArray) = FB := ⟨_, rfl⟩
            have hFBd : FB.data.toList = F := by rw [← hFB]
            have hFBs : FB.size = N := by rw [← hFB, ba_len2, hFlN, hN]
            obtain ⟨u1, _, u3⟩ := blkS_ok (R := R) (n := n) (W := F) (by omega) hR4 hFlN (by omega) hFb
            obtain ⟨BK, hBK⟩ : ∃ BK, takeL F (posn n R) F.length = BK := ⟨_, rfl⟩
            rw [hBK] at u3
            have hBKl : BK.length = n * R := by rw [← hBK, takeL_len, hFlN]
            obtain ⟨BB, hBB⟩ : ∃ BB : ByteArray, (⟨BK.toArray⟩ : ByteArray) = BB := ⟨_, rfl⟩
            have hBBd : BB.data.toList = BK := by rw [← hBB]
            have hBBs : BB.size = N := by rw [← hBB, ba_len2, hBKl, hN]
            have hcase : ∀ k, k < R → dfc (rowL WL n k) (rowL BK n k) n ≤ 1 ∧ vfB g.data.toList (rowL BK n k) = decide (dfc (rowL WL n k) (rowL BK n k) n = 0) ∧ (rowL BK n k).all isB = true ∧ (rowL BK n k).length = n ∧ (rowL WL n k).length = n ∧ (rowL WL n k).all isB = true := fun k hk => by
              have hxl := rowL_len hWl hk
              have hk' : k < l.length := by omega
              have hxv : vfB g.data.toList (rowL WL n k) = true := by
                rw [hrow k hk']
                exact vf_sum hgen (by have := (hall l[k] (List.getElem_mem hk')).1; omega) (hxb _ (List.getElem_mem hk'))
              have hxb2 : (rowL WL n k).all isB = true := by
                rw [hrow k hk', List.all_append, hxb _ (List.getElem_mem hk'), smV_bin]; rfl
              have hc := row_cases hn1 (by omega) hWl hk I T2 L hLR
              rw [hT, hF, show WL.length = F.length by rw [hFlN, hWl], hBK] at hc
              have h := row_law hgen hxv (by omega) hxb2 (y := rowL BK n k) (by rw [hxl]; exact hc)
              rw [hxl] at h
              exact ⟨h.1, h.2.1, h.2.2.1, h.2.2.2, hxl, hxb2⟩
            have hdck : ∀ k, k < R → dck g.data.toList (rowL BK n k) = 0 := fun k hk => dck_gen hgen (by have := (hcase k hk).2.2.2.1; omega) (hcase k hk).2.2.1
            have HCASE := Lib.hid hcase
            have HDCK := Lib.hid hdck
            have HAP := Lib.hid hap
            have HNX := Lib.hid (fun k (hk : k < l.length) => xw_next (g := g.data.toList) (l := l) hk)
            have HX0 := Lib.hid (show xw g.data.toList (l.take 0) = [] from rfl)
            have HXE := Lib.hid (show (⟨(xw g.data.toList (l.take l.length)).toArray⟩ : ByteArray) = WB by rw [List.take_length, hWL, hWB])
            have HXL := Lib.hid (show ∀ k, k ≤ R → (xw g.data.toList (l.take k)).length ≤ 60 from fun k hk => by
              have h1 := xw_len (g := g.data.toList) (l := l.take k) (n := n) (fun r hr => hxn r (List.mem_of_mem_take hr))
              rw [h1, List.length_take]
              exact Nat.le_trans (Nat.mul_le_mul hn15 (show min k l.length ≤ 4 by omega)) (by decide))
            have HXV := Lib.hid (show ∀ k (hk : k < l.length), (l[k].data.toList ++ smV g.data.toList l[k].data.toList).length ≤ 15 from fun k hk => by
              rw [List.length_append, smV_len]; have := hxn _ (List.getElem_mem hk); omega)
            have HBL := Lib.hid (show ckBlock (R : Int) WB.data.toList = 0 ∧ blkS (R : Int) WB.data.toList = T by rw [hWBd]; exact ⟨k1, k2⟩)
            have HUB := Lib.hid (show ckBlock (R : Int) FB.data.toList = 0 ∧ ublS (R : Int) FB.data.toList = BK by rw [hFBd]; exact ⟨u1, u3⟩)
            have HTB := Lib.hid hTB
            have HFB := Lib.hid (show (⟨(flF T I T2 L).toArray⟩ : ByteArray) = FB by rw [hF, hFB])
            have HBB := Lib.hid hBB
            have HTD := Lib.hid (show TB.data.toList = flF T I T2 0 from hTBd)
            have HFL := Lib.hid (fun k => (hFl k).trans hTlN)
            have HTLN := Lib.hid hTlN
            have HTBIN := Lib.hid htb
            have HLM := Lib.hid hLm
            have HLB := Lib.hid (show L ≤ R ∧ I + L ≤ N from ⟨hLR, hLN⟩)
            have HRD := Lib.hid hR
            have HWX := Lib.hid (show ∀ k, (WB.extract (k * n) ((k + 1) * n)).data.toList = rowL WL n k from fun k => by rw [ext_row, hWBd])
            have HBXX := Lib.hid (show ∀ k, (BB.extract (k * n) ((k + 1) * n)).data.toList = rowL BK n k from fun k => by rw [ext_row, hBBd])
            have HKN := Lib.hid (show ∀ k, k < R → (k + 1) * n ≤ N from fun k hk => by rw [← hN, Nat.mul_comm n R]; exact Nat.mul_le_mul_right n hk)
            have hdiv1 : ((N : Int)).tdiv (R : Int) = (n : Int) := by
              rw [Int.tdiv_eq_ediv_of_nonneg (by omega), ← Int.natCast_ediv, ← hN, Nat.mul_div_cancel _ (by omega)]
            have hdiv2 : ((N : Int)) / (R : Int) = (n : Int) := by
              rw [← Int.natCast_ediv, ← hN, Nat.mul_div_cancel _ (by omega)]
            have htN0 : ((N : Int) == 0) = false := by simp; omega
            have HWM := Lib.hid (show WB.size ≤ maxLen ∧ FB.size ≤ maxLen by unfold maxLen; omega)
            clear hrw hgen hlo e0 hK hall hm hxn hxb hWl hWb hrow hN hap hWL hWB hWBd k1 k2 htb htl hT hTB hTBd hTlN hI hL hLm hFl hFb hF hFlN hFB hFBd u1 u3 hBK hBKl hBB hBBd hcase hdck hg h0l hR hn hLR hK1 hbx
            go_enter Try.func4, Try.ntmps4
            go_wp2_with fail
            rw [HW1.out]
            refine (refGCheck_any _ _).mono ?_
            rintro e x1 ⟨rfl, rfl⟩
            rw [HG.out]
            have hbx1 := HBX.out
            go_wp2_with fail
            refine (HCF.out _ HBX.out HSR.out).mono ?_
            rintro e x1 ⟨rfl, h1⟩
            rw [HRW.out]
            have H1 := Lib.hid h1; clear h1
            have hbx2 := cell_below HBX.out H1.out (cell_lt HBX.out)
            clear hbx1
            go_wp2_with fail
            go_loopw [10, 58] (fun v i wr => ∃ k : Nat, k ≤ R ∧ v = .string ⟨(xw g.data.toList (l.take k)).toArray⟩ ∧ i = .int .i64 k ∧ Below W1.heap.size W1 wr) (fun _ i _ => R - (intOf i).toNat)
            case atStart => exact ⟨0, by omega, by rw [HX0.out], rfl, H1.out⟩
            case round =>
              obtain ⟨k, hk, rfl, rfl, hb⟩ := hrel
              have HBB1 := Lib.hid hb; clear hb H1 hbx2
              by_cases hlt : k < R
              · have hkd : decide ((k : Int) < (R : Int)) = true := by simp; omega
                have hkd' : decide (k < R) = true := by simp; omega
                have hkl : k < l.length := by rw [HRD.out]; exact hlt
                obtain ⟨ga, o, rfl, hc⟩ := (HSR.out.below HBB1.out) k hkl
                obtain ⟨V, hV⟩ : ∃ V, l[k].data.toList ++ smV g.data.toList l[k].data.toList = V := ⟨_, rfl⟩
                have HV := Lib.hid hV
                have HAPK := Lib.hid (HAP.out k hkl)
                have hXL := HXL.out k hk
                have hVL := HXV.out k hkl
                rw [hV] at hVL
                have HNXK := Lib.hid (show xw g.data.toList (l.take (k + 1)) = xw g.data.toList (l.take k) ++ V by rw [HNX.out k hkl, hV])
                obtain ⟨X, hX⟩ : ∃ X, xw g.data.toList (l.take k) = X := ⟨_, rfl⟩
                rw [hX] at hXL HNXK ⊢
                obtain ⟨sk, hsk⟩ : ∃ sk, l[k] = sk := ⟨_, rfl⟩
                rw [hsk] at hc HAPK HV
                obtain ⟨XA, hXA⟩ : ∃ XA : ByteArray, (⟨X.toArray⟩ : ByteArray) = XA := ⟨_, rfl⟩
                obtain ⟨VA, hVA⟩ : ∃ VA : ByteArray, (⟨V.toArray⟩ : ByteArray) = VA := ⟨_, rfl⟩
                have hov : ¬ 9223372036854775807 < XA.size + VA.size := by rw [← hXA, ← hVA, ba_len2, ba_len2]; omega
                have HVA := Lib.hid hVA
                have HCAT := Lib.hid (show XA ++ VA = ⟨(xw g.data.toList (l.take (k + 1))).toArray⟩ by
                  rw [HNXK.out, ← hXA, ← hVA]; apply ByteArray.ext; apply Array.ext'; rw [Go.Joins.data_append])
                rw [hXA]
                clear hV hX hsk hXA hVA hXL hVL
                go_wp2_with fail
                refine (Append_any _ _ _).mono ?_
                rintro e x2 ⟨rfl, h2⟩
                rw [HAPK.out.1, HAPK.out.2, HV.out, HVA.out]
                have H2 := Lib.hid (HBB1.out.trans (h2.mono HBB1.out.size)); clear h2
                go_wp2_with fail
                go_roundw
                case rel => exact ⟨k + 1, by omega, by rw [← HCAT.out], by go_num, H2.out⟩
                case measure => simp [intOf]; omega
              · obtain rfl : k = R := by omega
                have hkd : decide ((k : Int) < (k : Int)) = false := by simp
                rw [show l.take k = l.take l.length by rw [HRD.out], HXE.out]
                go_wp2_with fail
                refine (blockB_any (k : Int) WB _ HWM.out.1).mono ?_
                rintro e x3 ⟨rfl, h3⟩
                rw [HBL.out.1, HBL.out.2, HTB.out]
                have H3 := Lib.hid (HBB1.out.trans (h3.mono HBB1.out.size)); clear h3
                go_wp2_with (refine wpList_bytes _ rfl _ 9 31 5 rfl Try.underlying9 Try.underlying31 Try.underlying5 TB rfl ?_)
                intro w4 c hrow hb hz hc
                rw [HTD.out] at hrow
                have HR4 := Lib.hid hrow
                have H4 := Lib.hid (H3.out.trans (hb.mono H3.out.size))
                have HZ4 := Lib.hid (show W1.heap.size ≤ x3.heap.size from H3.out.size)
                clear hrow hb hz hc HBB1
                obtain ⟨B, hB⟩ : ∃ B, x3.heap.size = B := ⟨_, rfl⟩
                rw [hB] at HR4 HZ4 ⊢
                clear hB
                go_wp2_with fail
                go_loopw [19] (fun ii wr => ∃ t : Nat, t ≤ L ∧ ii = .int .i64 t ∧ RowP wr B 5 (bts (flF T I T2 t)) ∧ Below W1.heap.size W1 wr) (fun ii _ => L - (intOf ii).toNat)
                case atStart => exact ⟨0, by omega, rfl, HR4.out, H4.out⟩
                case round =>
                  obtain ⟨t, ht, rfl, hrow, hb⟩ := hrel
                  have HRK := Lib.hid hrow
                  have HBK := Lib.hid hb
                  clear hrow hb HR4 H4
                  by_cases htl : t < L
                  · obtain ⟨htR, htN⟩ := (HLM.out t).1 htl
                    have hkd1 : decide ((t : Int) < (k : Int)) = true := by simp; omega
                    have hkd1' : decide (t < k) = true := by simp; omega
                    have hkd2 : decide ((I : Int) + (t : Int) < (N : Int)) = true := by simp; omega
                    have hkd2' : decide (I + t < N) = true := by simp; omega
                    have hbit := bit8 t T2 (by omega)
                    by_cases htb : T2.testBit t = true
                    · rw [if_pos htb] at hbit
                      obtain ⟨y, hy⟩ : ∃ y, T.getD (I + t) 0 = y := ⟨_, rfl⟩
                      have hlen : (bts (flF T I T2 t)).length = N := by rw [bts_len, HFL.out]
                      have hc1 : wr.cell? ⟨B, I + t, none⟩ = some (.int .u8 (y.toNat : Int)) := by
                        rw [HRK.out.cell (I + t) (by rw [hlen]; exact htN), bts_get, flF_get, if_neg (by omega), ← hy, List.getD_eq_getElem?_getD, List.getElem?_eq_getElem (by rw [HTLN.out]; exact htN)]; rfl
                      have hfz := HRK.out.frozen (I + t) (by rw [hlen]; exact htN)
                      have hslot := flip_slot (c := y)
                      obtain ⟨z, hz⟩ : ∃ z, y ^^^ 1 = z := ⟨_, rfl⟩
                      rw [hz] at hslot
                      have HX := Lib.hid (show RowP (wr.setCell ⟨B, I + t, none⟩ (.int .u8 (z.toNat : Int))) B 5 (bts (flF T I T2 (t + 1))) by
                        have h := HRK.out.set (I + t) (.int .u8 (z.toNat : Int)) (by rw [hlen]; exact htN)
                        rw [bts_set] at h
                        rw [flF, if_pos htb, hy, hz]; exact h)
                      clear htb hy hz hlen
                      go_wp2_with fail
                      go_roundw
                      case rel => exact ⟨t + 1, by omega, by go_num, HX.out, HBK.out.setCell (p := ⟨B, I + t, none⟩) HZ4.out _⟩
                      case measure => simp [intOf]; omega
                    · rw [if_neg htb] at hbit
                      have HX := Lib.hid (show flF T I T2 (t + 1) = flF T I T2 t by rw [flF, if_neg htb])
                      clear htb
                      go_wp2_with fail
                      go_roundw
                      case rel => exact ⟨t + 1, by omega, by go_num, by rw [HX.out]; exact HRK.out, HBK.out⟩
                      case measure => simp [intOf]; omega
                  · have htL : t = L := by omega
                    have hcv := run_string_rowP (P := Try.prog) (src := 31) (dst := 9) (c := c) (n := N) Try.underlying31 Try.underlying5 Try.underlying9 HRK.out (HFL.out t)
                    rw [show flF T I T2 t = flF T I T2 L by rw [htL], HFB.out] at hcv
                    have HCS := Lib.hid (show t = k ∨ (t < k ∧ I + t = N) by
                      have h1 := HLM.out t
                      have h2 : ¬ (t < k ∧ I + t < N) := fun h => absurd (h1.2 h) (by omega)
                      have h3 := HLB.out
                      omega)
                    clear htL
                    rcases HCS.out with hcs | ⟨hcs, hcs2⟩
                    · have hkd1 : decide ((t : Int) < (k : Int)) = false := by simp; omega
                      have hkd1' : decide (t < k) = false := by simp; omega
                      clear hcs htl
                      clear HCS
                      go_wp2_with fail
                      refine (unblockB_any (k : Int) FB _ HWM.out.2).mono ?_
                      rintro e x5 ⟨rfl, h5⟩
                      rw [HUB.out.1, HUB.out.2, HBB.out]
                      have H5 := Lib.hid (HBK.out.trans (h5.mono HBK.out.size)); clear h5
                      go_wp2_with fail
                      go_loopw [148] (fun kk wr => ∃ q : Nat, q ≤ k ∧ kk = .int .i64 q ∧ Below W1.heap.size W1 wr) (fun kk _ => k - (intOf kk).toNat)
                      case atStart => exact ⟨0, by omega, rfl, H5.out⟩
                      case round =>
                        obtain ⟨q, hq, rfl, hb⟩ := hrel
                        have HBQ := Lib.hid hb; clear hb H5
                        by_cases hqk : q < k
                        · have hqd : decide ((q : Int) < (k : Int)) = true := by simp; omega
                          have hqd' : decide (q < k) = true := by simp; omega
                          have hkn := HKN.out q hqk
                          obtain ⟨P, hP⟩ : ∃ P, q * n = P := ⟨_, rfl⟩
                          obtain ⟨Q, hQ⟩ : ∃ Q, (q + 1) * n = Q := ⟨_, rfl⟩
                          have hPQ : P + n = Q := by rw [← hP, ← hQ, Nat.add_mul, Nat.one_mul]
                          have hPi : (q : Int) * (n : Int) = (P : Int) := by rw [← hP, Int.natCast_mul]
                          have hQi : ((q : Int) + 1) * (n : Int) = (Q : Int) := by rw [← hQ, Int.natCast_mul, Int.natCast_add]; rfl
                          rw [hQ] at hkn
                          have hwx := HWX.out q
                          have hbx := HBXX.out q
                          rw [hP, hQ] at hwx hbx
                          obtain ⟨XB, hXB⟩ : ∃ XB, WB.extract P Q = XB := ⟨_, rfl⟩
                          obtain ⟨YB, hYB⟩ : ∃ YB, BB.extract P Q = YB := ⟨_, rfl⟩
                          rw [hXB] at hwx
                          rw [hYB] at hbx
                          obtain ⟨c1, c2, c3, c4, c5, c6⟩ := HCASE.out q hqk
                          have c7 := HDCK.out q hqk
                          rw [← hwx, ← hbx] at c1 c2
                          rw [← hbx] at c3 c4 c7
                          rw [← hwx] at c5 c6
                          have hXs : XB.size = n := c5
                          have hYs : YB.size = n := c4
                          have HV := Lib.hid (show _ ∧ _ from ⟨c2, c7⟩)
                          have HD1 := Lib.hid c1
                          have HXBIN := Lib.hid c6
                          obtain ⟨IT, hIT⟩ : ∃ IT, wr.heap.size = IT := ⟨_, rfl⟩
                          have HITW := Lib.hid (show W1.heap.size ≤ IT by rw [← hIT]; exact HBQ.out.size)
                          have hQN : Q ≤ N := hkn
                          have hPQ' : P ≤ Q := by omega
                          clear c1 c2 c3 c4 c5 c6 c7 hwx hbx hP hQ hkn hPQ
                          go_wp2_with fail
                          go_quiet (fail)
                          go_wp2_with fail
                          have HIH := Lib.hid (show ((wr.drewN nq).iter XB 0).heap[IT]? = some (.stringIter XB 0) by rw [← hIT]; exact World.iter_heap (wr.drewN nq) XB 0)
                          have HB6 := Lib.hid (show Below W1.heap.size W1 ((wr.drewN nq).iter XB 0) from (below_drewN HBQ.out nq).alloc HBQ.out.size _)
                          go_loopw [26] (fun ch wr => ∃ p : Nat, p ≤ n ∧ ch = .int .i64 ((dfc XB.data.toList YB.data.toList p : Nat) : Int) ∧ wr.heap[IT]? = some (.stringIter XB p) ∧ Below W1.heap.size W1 wr) (fun _ wr => n - itPos wr IT)
                          case atStart => exact ⟨0, by omega, rfl, HIH.out, HB6.out⟩
                          case round =>
                            obtain ⟨p, hp, rfl, hit, hb⟩ := hrel
                            have HIT2 := Lib.hid hit
                            have HB7 := Lib.hid hb
                            have hpos := itPos_of hit
                            clear hb HIH HB6
                            have hdl := dfc_le XB.data.toList YB.data.toList p
                            by_cases hpn : p < n
                            · have hp1 : p < XB.size := by omega
                              have hp2 : p < YB.size := by omega
                              have hasc : (XB[p]'hp1).toNat < 128 := by
                                have h1 := all_get HXBIN.out p (by simpa using hp1)
                                rcases isB_or h1 with h | h
                                · have h' : XB[p]'hp1 = 48 := h
                                  rw [h']; decide
                                · have h' : XB[p]'hp1 = 49 := h
                                  rw [h']; decide
                              have hnx : ∀ ty, (Instr.next (.pointer (some ⟨IT, 0, none⟩)) true ty).run Try.prog wr = _ := fun ty => Lib.run_next_ascii_at wr IT XB p ty hit hp1 hasc
                              have hit2 := Lib.iterAt_heap wr IT XB p (p + 1) hit
                              have hb2 := Lib.below_iterAt HB7.out (k := IT) HITW.out XB (p + 1)
                              obtain ⟨W2, hW2⟩ : ∃ W2, W2 = wr.iterAt IT XB (p + 1) := ⟨_, rfl⟩
                              rw [← hW2] at hnx hit2 hb2
                              have HIT3 := Lib.hid hit2
                              have HB8 := Lib.hid hb2
                              have HPOS := Lib.hid hpos
                              have HD := Lib.hid (show dfc XB.data.toList YB.data.toList (p + 1) = dfc XB.data.toList YB.data.toList p + if XB[p]'hp1 = YB[p]'hp2 then 0 else 1 by
                                rw [dfc, getD_at XB p hp1, getD_at YB p hp2])
                              obtain ⟨d, hd⟩ : ∃ d, dfc XB.data.toList YB.data.toList p = d := ⟨_, rfl⟩
                              rw [hd] at hdl HD ⊢
                              clear hW2 hit hit2 hb2 hpos hasc hd
                              by_cases hxy : XB[p]'hp1 = YB[p]'hp2
                              · have hne : (((XB[p]'hp1).toNat : Int) != ((YB[p]'hp2).toNat : Int)) = false := by rw [hxy]; simp
                                have HD2 := Lib.hid (show dfc XB.data.toList YB.data.toList (p + 1) = d by rw [HD.out, if_pos hxy, Nat.add_zero])
                                clear hxy
                                go_wp2_with fail
                                go_quiet (fail)
                                go_wp2_with fail
                                go_roundw
                                case rel => exact ⟨p + 1, by omega, by rw [HD2.out], HIT3.out, below_drewN HB8.out _⟩
                                case measure => rw [itPos_of (w := W2.drewN nq) HIT3.out, HPOS.out]; omega
                              · have hne : (((XB[p]'hp1).toNat : Int) != ((YB[p]'hp2).toNat : Int)) = true := by
                                  rw [bne_iff_ne]; intro he; apply hxy; rw [← UInt8.toNat_inj]; omega
                                have HD2 := Lib.hid (show dfc XB.data.toList YB.data.toList (p + 1) = d + 1 by rw [HD.out, if_neg hxy])
                                clear hxy
                                go_wp2_with fail
                                go_quiet (fail)
                                go_wp2_with fail
                                go_roundw
                                case rel => exact ⟨p + 1, by omega, by rw [HD2.out]; go_num, HIT3.out, below_drewN HB8.out _⟩
                                case measure => rw [itPos_of (w := W2.drewN nq) HIT3.out, HPOS.out]; omega
                            · have hpn' : p = n := by omega
                              have hnx : ∀ ty, (Instr.next (.pointer (some ⟨IT, 0, none⟩)) true ty).run Try.prog wr = _ := fun ty => Lib.run_next_end_at wr IT XB p ty hit (by omega)
                              rw [hpn'] at hdl ⊢
                              obtain ⟨d, hd⟩ : ∃ d, dfc XB.data.toList YB.data.toList n = d := ⟨_, rfl⟩
                              have HDD := Lib.hid (show d ≤ 1 ∧ vfB g.data.toList YB.data.toList = decide (d = 0) ∧ dck g.data.toList YB.data.toList = 0 by
                                rw [← hd]; exact ⟨HD1.out, HV.out.1, HV.out.2⟩)
                              rw [hd]
                              clear hit hpos hd hpn hdl
                              rcases (show d = 0 ∨ d = 1 by have := HDD.out.1; omega) with rfl | rfl
                              · go_wp2_with fail
                                refine (Verify_any _ _ _).mono ?_
                                rintro e x6 ⟨rfl, h6⟩
                                rw [HDD.out.2.1, HDD.out.2.2]
                                have H6 := Lib.hid (HB7.out.trans (h6.mono HB7.out.size)); clear h6
                                go_wp2_with fail
                                go_roundw
                                case rel => exact ⟨q + 1, by omega, by go_num, H6.out⟩
                                case measure => simp [intOf]; omega
                              · go_wp2_with fail
                                refine (Verify_any _ _ _).mono ?_
                                rintro e x6 ⟨rfl, h6⟩
                                rw [HDD.out.2.1, HDD.out.2.2]
                                have H6 := Lib.hid (HB7.out.trans (h6.mono HB7.out.size)); clear h6
                                go_wp2_with fail
                                go_roundw
                                case rel => exact ⟨q + 1, by omega, by go_num, H6.out⟩
                                case measure => simp [intOf]; omega
                        · obtain rfl : q = k := by omega
                          have hqd : decide ((q : Int) < (q : Int)) = false := by simp
                          go_wp2_with fail
                          refine (tawake_any _).mono ?_
                          rintro e w7 ⟨rfl, h7⟩
                          have H7 := Lib.hid (HB0.out.trans ((HBQ.out.trans (h7.mono HBQ.out.size)).mono HB0.out.size)); clear h7
                          go_wp2_with fail
                          go_ret
                          exact ⟨rfl, H7.out⟩
                    · have hkd1 : decide ((t : Int) < (k : Int)) = true := by simp; omega
                      have hkd1' : decide (t < k) = true := by simp; omega
                      have hkd2 : decide ((I : Int) + (t : Int) < (N : Int)) = false := by simp; omega
                      have hkd2' : decide (I + t < N) = false := by simp; omega
                      clear hcs hcs2 htl
                      clear HCS
                      go_wp2_with fail
                      refine (unblockB_any (k : Int) FB _ HWM.out.2).mono ?_
                      rintro e x5 ⟨rfl, h5⟩
                      rw [HUB.out.1, HUB.out.2, HBB.out]
                      have H5 := Lib.hid (HBK.out.trans (h5.mono HBK.out.size)); clear h5
                      go_wp2_with fail
                      go_loopw [148] (fun kk wr => ∃ q : Nat, q ≤ k ∧ kk = .int .i64 q ∧ Below W1.heap.size W1 wr) (fun kk _ => k - (intOf kk).toNat)
                      case atStart => exact ⟨0, by omega, rfl, H5.out⟩
                      case round =>
                        obtain ⟨q, hq, rfl, hb⟩ := hrel
                        have HBQ := Lib.hid hb; clear hb H5
                        by_cases hqk : q < k
                        · have hqd : decide ((q : Int) < (k : Int)) = true := by simp; omega
                          have hqd' : decide (q < k) = true := by simp; omega
                          have hkn := HKN.out q hqk
                          obtain ⟨P, hP⟩ : ∃ P, q * n = P := ⟨_, rfl⟩
                          obtain ⟨Q, hQ⟩ : ∃ Q, (q + 1) * n = Q := ⟨_, rfl⟩
                          have hPQ : P + n = Q := by rw [← hP, ← hQ, Nat.add_mul, Nat.one_mul]
                          have hPi : (q : Int) * (n : Int) = (P : Int) := by rw [← hP, Int.natCast_mul]
                          have hQi : ((q : Int) + 1) * (n : Int) = (Q : Int) := by rw [← hQ, Int.natCast_mul, Int.natCast_add]; rfl
                          rw [hQ] at hkn
                          have hwx := HWX.out q
                          have hbx := HBXX.out q
                          rw [hP, hQ] at hwx hbx
                          obtain ⟨XB, hXB⟩ : ∃ XB, WB.extract P Q = XB := ⟨_, rfl⟩
                          obtain ⟨YB, hYB⟩ : ∃ YB, BB.extract P Q = YB := ⟨_, rfl⟩
                          rw [hXB] at hwx
                          rw [hYB] at hbx
                          obtain ⟨c1, c2, c3, c4, c5, c6⟩ := HCASE.out q hqk
                          have c7 := HDCK.out q hqk
                          rw [← hwx, ← hbx] at c1 c2
                          rw [← hbx] at c3 c4 c7
                          rw [← hwx] at c5 c6
                          have hXs : XB.size = n := c5
                          have hYs : YB.size = n := c4
                          have HV := Lib.hid (show _ ∧ _ from ⟨c2, c7⟩)
                          have HD1 := Lib.hid c1
                          have HXBIN := Lib.hid c6
                          obtain ⟨IT, hIT⟩ : ∃ IT, wr.heap.size = IT := ⟨_, rfl⟩
                          have HITW := Lib.hid (show W1.heap.size ≤ IT by rw [← hIT]; exact HBQ.out.size)
                          have hQN : Q ≤ N := hkn
                          have hPQ' : P ≤ Q := by omega
                          clear c1 c2 c3 c4 c5 c6 c7 hwx hbx hP hQ hkn hPQ
                          go_wp2_with fail
                          go_quiet (fail)
                          go_wp2_with fail
                          have HIH := Lib.hid (show ((wr.drewN nq).iter XB 0).heap[IT]? = some (.stringIter XB 0) by rw [← hIT]; exact World.iter_heap (wr.drewN nq) XB 0)
                          have HB6 := Lib.hid (show Below W1.heap.size W1 ((wr.drewN nq).iter XB 0) from (below_drewN HBQ.out nq).alloc HBQ.out.size _)
                          go_loopw [26] (fun ch wr => ∃ p : Nat, p ≤ n ∧ ch = .int .i64 ((dfc XB.data.toList YB.data.toList p : Nat) : Int) ∧ wr.heap[IT]? = some (.stringIter XB p) ∧ Below W1.heap.size W1 wr) (fun _ wr => n - itPos wr IT)
                          case atStart => exact ⟨0, by omega, rfl, HIH.out, HB6.out⟩
                          case round =>
                            obtain ⟨p, hp, rfl, hit, hb⟩ := hrel
                            have HIT2 := Lib.hid hit
                            have HB7 := Lib.hid hb
                            have hpos := itPos_of hit
                            clear hb HIH HB6
                            have hdl := dfc_le XB.data.toList YB.data.toList p
                            by_cases hpn : p < n
                            · have hp1 : p < XB.size := by omega
                              have hp2 : p < YB.size := by omega
                              have hasc : (XB[p]'hp1).toNat < 128 := by
                                have h1 := all_get HXBIN.out p (by simpa using hp1)
                                rcases isB_or h1 with h | h
                                · have h' : XB[p]'hp1 = 48 := h
                                  rw [h']; decide
                                · have h' : XB[p]'hp1 = 49 := h
                                  rw [h']; decide
                              have hnx : ∀ ty, (Instr.next (.pointer (some ⟨IT, 0, none⟩)) true ty).run Try.prog wr = _ := fun ty => Lib.run_next_ascii_at wr IT XB p ty hit hp1 hasc
                              have hit2 := Lib.iterAt_heap wr IT XB p (p + 1) hit
                              have hb2 := Lib.below_iterAt HB7.out (k := IT) HITW.out XB (p + 1)
                              obtain ⟨W2, hW2⟩ : ∃ W2, W2 = wr.iterAt IT XB (p + 1) := ⟨_, rfl⟩
                              rw [← hW2] at hnx hit2 hb2
                              have HIT3 := Lib.hid hit2
                              have HB8 := Lib.hid hb2
                              have HPOS := Lib.hid hpos
                              have HD := Lib.hid (show dfc XB.data.toList YB.data.toList (p + 1) = dfc XB.data.toList YB.data.toList p + if XB[p]'hp1 = YB[p]'hp2 then 0 else 1 by
                                rw [dfc, getD_at XB p hp1, getD_at YB p hp2])
                              obtain ⟨d, hd⟩ : ∃ d, dfc XB.data.toList YB.data.toList p = d := ⟨_, rfl⟩
                              rw [hd] at hdl HD ⊢
                              clear hW2 hit hit2 hb2 hpos hasc hd
                              by_cases hxy : XB[p]'hp1 = YB[p]'hp2
                              · have hne : (((XB[p]'hp1).toNat : Int) != ((YB[p]'hp2).toNat : Int)) = false := by rw [hxy]; simp
                                have HD2 := Lib.hid (show dfc XB.data.toList YB.data.toList (p + 1) = d by rw [HD.out, if_pos hxy, Nat.add_zero])
                                clear hxy
                                go_wp2_with fail
                                go_quiet (fail)
                                go_wp2_with fail
                                go_roundw
                                case rel => exact ⟨p + 1, by omega, by rw [HD2.out], HIT3.out, below_drewN HB8.out _⟩
                                case measure => rw [itPos_of (w := W2.drewN nq) HIT3.out, HPOS.out]; omega
                              · have hne : (((XB[p]'hp1).toNat : Int) != ((YB[p]'hp2).toNat : Int)) = true := by
                                  rw [bne_iff_ne]; intro he; apply hxy; rw [← UInt8.toNat_inj]; omega
                                have HD2 := Lib.hid (show dfc XB.data.toList YB.data.toList (p + 1) = d + 1 by rw [HD.out, if_neg hxy])
                                clear hxy
                                go_wp2_with fail
                                go_quiet (fail)
                                go_wp2_with fail
                                go_roundw
                                case rel => exact ⟨p + 1, by omega, by rw [HD2.out]; go_num, HIT3.out, below_drewN HB8.out _⟩
                                case measure => rw [itPos_of (w := W2.drewN nq) HIT3.out, HPOS.out]; omega
                            · have hpn' : p = n := by omega
                              have hnx : ∀ ty, (Instr.next (.pointer (some ⟨IT, 0, none⟩)) true ty).run Try.prog wr = _ := fun ty => Lib.run_next_end_at wr IT XB p ty hit (by omega)
                              rw [hpn'] at hdl ⊢
                              obtain ⟨d, hd⟩ : ∃ d, dfc XB.data.toList YB.data.toList n = d := ⟨_, rfl⟩
                              have HDD := Lib.hid (show d ≤ 1 ∧ vfB g.data.toList YB.data.toList = decide (d = 0) ∧ dck g.data.toList YB.data.toList = 0 by
                                rw [← hd]; exact ⟨HD1.out, HV.out.1, HV.out.2⟩)
                              rw [hd]
                              clear hit hpos hd hpn hdl
                              rcases (show d = 0 ∨ d = 1 by have := HDD.out.1; omega) with rfl | rfl
                              · go_wp2_with fail
                                refine (Verify_any _ _ _).mono ?_
                                rintro e x6 ⟨rfl, h6⟩
                                rw [HDD.out.2.1, HDD.out.2.2]
                                have H6 := Lib.hid (HB7.out.trans (h6.mono HB7.out.size)); clear h6
                                go_wp2_with fail
                                go_roundw
                                case rel => exact ⟨q + 1, by omega, by go_num, H6.out⟩
                                case measure => simp [intOf]; omega
                              · go_wp2_with fail
                                refine (Verify_any _ _ _).mono ?_
                                rintro e x6 ⟨rfl, h6⟩
                                rw [HDD.out.2.1, HDD.out.2.2]
                                have H6 := Lib.hid (HB7.out.trans (h6.mono HB7.out.size)); clear h6
                                go_wp2_with fail
                                go_roundw
                                case rel => exact ⟨q + 1, by omega, by go_num, H6.out⟩
                                case measure => simp [intOf]; omega
                        · obtain rfl : q = k := by omega
                          have hqd : decide ((q : Int) < (q : Int)) = false := by simp
                          go_wp2_with fail
                          refine (tawake_any _).mono ?_
                          rintro e w7 ⟨rfl, h7⟩
                          have H7 := Lib.hid (HB0.out.trans ((HBQ.out.trans (h7.mono HBQ.out.size)).mono HB0.out.size)); clear h7
                          go_wp2_with fail
                          go_ret
                          exact ⟨rfl, H7.out⟩
        · have hd4 : decide ((4 : Int) < (R : Int)) = true := by simp; omega
          have hd4' : decide (4 < R) = true := by simp; omega
          clear hg
          go_enter Try.func4, Try.ntmps4
          go_wp2_with fail
          rw [HW1.out]
          refine (refGCheck_any _ _).mono ?_
          rintro e x1 ⟨rfl, rfl⟩
          rw [HG.out]
          go_wp2_with fail
          refine (tawake_any _).mono ?_
          rintro e w7 ⟨rfl, h7⟩
          have H7 := Lib.hid (HB0.out.trans (h7.mono HB0.out.size)); clear h7
          go_wp2_with fail
          go_ret
          exact ⟨rfl, H7.out⟩
    · have hb : (gck g.data.toList != 0) = true := by simpa using hg
      clear hg
      go_enter Try.func4, Try.ntmps4
      go_wp2_with fail
      rw [HW1.out]
      refine (refGCheck_any _ _).mono ?_
      rintro e x1 ⟨rfl, rfl⟩
      go_wp2_with fail
      refine (tawake_any _).mono ?_
      rintro e w7 ⟨rfl, h7⟩
      have H7 := Lib.hid (HB0.out.trans (h7.mono HB0.out.size)); clear h7
      go_wp2_with fail
      go_ret
      exact ⟨rfl, H7.out⟩
  · have hd8 : decide ((8 : Int) < (g.size : Int)) = true := by simp; omega
    go_enter Try.func4, Try.ntmps4
    go_wp2_with fail
    rw [HW1.out]
    refine (tawake_any _).mono ?_
    rintro e w7 ⟨rfl, h7⟩
    have H7 := Lib.hid (HB0.out.trans (h7.mono HB0.out.size)); clear h7
    go_wp2_with fail
    go_ret
    exact ⟨rfl, H7.out⟩
end Go.Proofs.Ytdogepiddjoemaa
