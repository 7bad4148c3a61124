/-
  The contract of remainder.
-/
import Derived.Test.YtdogepiddjoemaaDgC
namespace Go.Proofs.Ytdogepiddjoemaa
open Go.RowKit Go.Shelf
attribute [local go_sem] Oper.semAt_some

set_option maxRecDepth 100000 in
set_option maxHeartbeats 4000000 in
theorem remainder_in (g s : ByteArray) (w : World) (hg1 : 1 ≤ g.size) (hg : g.size ≤ 33) (hgb : g.data.toList.all isB = true) (hs : s.size ≤ 140000) (hb : s.data.toList.all isB = true) (k : Nat) (hk : g.size = k + 1)
    (hG : vl g.data.toList < 2 ^ (k + 1)) (hG2 : 2 ^ k ≤ vl g.data.toList) :
    Calls Try.prog 18 #[.string g, .string s] w fun e w' => e = .returned (.int .u64 (rm k (vl g.data.toList) s.data.toList : Nat)) ∧ Below w.heap.size w w' := by
  have HK := Lib.hid hk
  have hk1 : ((g.size : Int) - 1) = (k : Int) := by omega
  have hk32 : k ≤ 32 := by omega
  obtain ⟨G, hGG⟩ : ∃ G, vl g.data.toList = G := ⟨_, rfl⟩
  rw [hGG] at hG hG2 ⊢
  have HG := Lib.hid hG
  have HG2 := Lib.hid hG2
  have HGG := Lib.hid hGG
  clear hk hG hG2 hGG
  refine (callsIn_wide (n := 6)).1 ?_
  refine callsIn_of_wp_marks Try.func18 rfl trivial ?_ rfl
  simp only [Try.ntmps18, List.size_toArray, List.length_cons, List.length_nil, Nat.reduceAdd, Nat.reduceSub, Array.replicate_succ, Array.replicate_zero, List.push_toArray, List.append_toArray, List.nil_append, List.cons_append]
  gi_wp2_with (first | (refine ⟨trivial, ?_⟩; gi_at_call 29; refine ((callsIn_wide.2 (number_in g _ (by omega) hgb))).mono ?_; rintro e w1 ⟨rfl, hb1'⟩; rw [HGG.out]) | (refine ⟨trivial, ?_⟩; gi_at_call 30; refine ((callsIn_wide.2 (bits_any s _))).mono ?_; rintro e w2 ⟨rfl, rfl⟩))
  --RANGE
  have hb0 : Boxed (((((w1).alloc (.cells #[.int .i64 (k : Int)] 3)).alloc (.cells #[.int .u64 (G : Int)] 40)).alloc (.cells #[.int .u64 0] 40)).alloc (.cells #[.string s] 9)) (w1.heap.size) 3 (.int .i64 (k : Int)) := by
    have h : Boxed (((((w1).alloc (.cells #[.int .i64 (k : Int)] 3)).alloc (.cells #[.int .u64 (G : Int)] 40)).alloc (.cells #[.int .u64 0] 40)).alloc (.cells #[.string s] 9)) (w1).heap.size 3 (.int .i64 (k : Int)) := (((Boxed.new (w1) 3 (.int .i64 (k : Int))).alloc _).alloc _).alloc _
    have e : (w1).heap.size = w1.heap.size := by first | rfl | (simp; done)
    rw [e] at h; exact h
  have hb1 : Boxed (((((w1).alloc (.cells #[.int .i64 (k : Int)] 3)).alloc (.cells #[.int .u64 (G : Int)] 40)).alloc (.cells #[.int .u64 0] 40)).alloc (.cells #[.string s] 9)) (w1.heap.size + 1) 40 (.int .u64 (G : Int)) := by
    have h : Boxed (((((w1).alloc (.cells #[.int .i64 (k : Int)] 3)).alloc (.cells #[.int .u64 (G : Int)] 40)).alloc (.cells #[.int .u64 0] 40)).alloc (.cells #[.string s] 9)) ((w1).alloc (.cells #[.int .i64 (k : Int)] 3)).heap.size 40 (.int .u64 (G : Int)) := ((Boxed.new ((w1).alloc (.cells #[.int .i64 (k : Int)] 3)) 40 (.int .u64 (G : Int))).alloc _).alloc _
    have e : ((w1).alloc (.cells #[.int .i64 (k : Int)] 3)).heap.size = w1.heap.size + 1 := by first | rfl | (simp; done)
    rw [e] at h; exact h
  have hb2 : Boxed (((((w1).alloc (.cells #[.int .i64 (k : Int)] 3)).alloc (.cells #[.int .u64 (G : Int)] 40)).alloc (.cells #[.int .u64 0] 40)).alloc (.cells #[.string s] 9)) (w1.heap.size + 1 + 1) 40 (.int .u64 0) := by
    have h : Boxed (((((w1).alloc (.cells #[.int .i64 (k : Int)] 3)).alloc (.cells #[.int .u64 (G : Int)] 40)).alloc (.cells #[.int .u64 0] 40)).alloc (.cells #[.string s] 9)) (((w1).alloc (.cells #[.int .i64 (k : Int)] 3)).alloc (.cells #[.int .u64 (G : Int)] 40)).heap.size 40 (.int .u64 0) := (Boxed.new (((w1).alloc (.cells #[.int .i64 (k : Int)] 3)).alloc (.cells #[.int .u64 (G : Int)] 40)) 40 (.int .u64 0)).alloc _
    have e : (((w1).alloc (.cells #[.int .i64 (k : Int)] 3)).alloc (.cells #[.int .u64 (G : Int)] 40)).heap.size = w1.heap.size + 1 + 1 := by first | rfl | (simp; done)
    rw [e] at h; exact h
  have hb3 : Boxed (((((w1).alloc (.cells #[.int .i64 (k : Int)] 3)).alloc (.cells #[.int .u64 (G : Int)] 40)).alloc (.cells #[.int .u64 0] 40)).alloc (.cells #[.string s] 9)) (w1.heap.size + 1 + 1 + 1) 9 (.string s) := by
    have h : Boxed (((((w1).alloc (.cells #[.int .i64 (k : Int)] 3)).alloc (.cells #[.int .u64 (G : Int)] 40)).alloc (.cells #[.int .u64 0] 40)).alloc (.cells #[.string s] 9)) ((((w1).alloc (.cells #[.int .i64 (k : Int)] 3)).alloc (.cells #[.int .u64 (G : Int)] 40)).alloc (.cells #[.int .u64 0] 40)).heap.size 9 (.string s) := Boxed.new ((((w1).alloc (.cells #[.int .i64 (k : Int)] 3)).alloc (.cells #[.int .u64 (G : Int)] 40)).alloc (.cells #[.int .u64 0] 40)) 9 (.string s)
    have e : ((((w1).alloc (.cells #[.int .i64 (k : Int)] 3)).alloc (.cells #[.int .u64 (G : Int)] 40)).alloc (.cells #[.int .u64 0] 40)).heap.size = w1.heap.size + 1 + 1 + 1 := by first | rfl | (simp; done)
    rw [e] at h; exact h
  have hBL : Below w.heap.size w (((((w1).alloc (.cells #[.int .i64 (k : Int)] 3)).alloc (.cells #[.int .u64 (G : Int)] 40)).alloc (.cells #[.int .u64 0] 40)).alloc (.cells #[.string s] 9)) := hb1'.trans (((((Below.refl w1.heap.size w1).alloc (Nat.le_refl _) _).alloc (by simp) _).alloc (by simp; omega) _).alloc (by simp; omega) _ |>.mono hb1'.size)
  have hzL : (((((w1).alloc (.cells #[.int .i64 (k : Int)] 3)).alloc (.cells #[.int .u64 (G : Int)] 40)).alloc (.cells #[.int .u64 0] 40)).alloc (.cells #[.string s] 9)).heap.size = w1.heap.size + 1 + 1 + 1 + 1 := by simp
  have hz1 := hb1'.size
  obtain ⟨WL, hWL⟩ : ∃ WL, ((((w1).alloc (.cells #[.int .i64 (k : Int)] 3)).alloc (.cells #[.int .u64 (G : Int)] 40)).alloc (.cells #[.int .u64 0] 40)).alloc (.cells #[.string s] 9) = WL := ⟨_, rfl⟩
  rw [hWL] at hb0 hb1 hb2 hb3 hBL hzL ⊢
  clear hWL
  obtain ⟨B0, hB0⟩ : ∃ B0, w1.heap.size = B0 := ⟨_, rfl⟩
  rw [hB0] at hb0 hb1 hb2 hb3 hzL hz1 ⊢
  clear hB0 hb1'
  refine wpIn_rangeFunc_ownG rfl (by omega) (gf := 41) (lb := #[.pointer (some ⟨B0 + 1 + 1 + 1, 0, none⟩)]) rfl trivial (enters_of Try.func41 (by kernel_rfl) rfl)
    (bits_stops 5 (by omega) (B0 + 1 + 1 + 1) s (by omega) hb WL (by omega) hb3.cell) keepC_t (fun W l o o' h1 h2 h3 h4 => keepC_b W l o o' h1 h2 h3 h4) (Below.refl _ _) (fun _ => rfl)
    (fun pre W => Boxed W (B0 + 1 + 1) 40 (.int .u64 (rmB k G 0 pre : Nat)) ∧ Boxed W (B0) 3 (.int .i64 (k : Int)) ∧ Boxed W (B0 + 1) 40 (.int .u64 (G : Int)) ∧ Below w.heap.size w W)
    (fun _ _ _ => False)
    (OwnFrom.and (Own.from (boxed_own (B0 + 1 + 1) 40 (fun pre => .int .u64 (rmB k G 0 pre : Nat))) _) (OwnFrom.and (Own.from (boxed_own (B0) 3 (fun _ => .int .i64 (k : Int))) _) (OwnFrom.and (Own.from (boxed_own (B0 + 1) 40 (fun _ => .int .u64 (G : Int))) _) (ownFrom_below (Nat.le_refl _) (by omega)))))
    (fun _ _ _ _ _ hs _ _ => hs)
    ⟨hb2, hb0, hb1, hBL⟩
    (fun x => { tmps := #[.string g, .string s, undef, undef, .int .u64 0, .pointer (some ⟨B0, 0, none⟩), .pointer (some ⟨B0 + 1, 0, none⟩), .pointer (some ⟨B0 + 1 + 1, 0, none⟩), .int .u64 (x.1 : Int), .string g, .int .i64 (g.size : Int), .int .i64 (k : Int), .string g, .int .u64 (G : Int), .string s, .func (.func 41) #[] #[.pointer (some ⟨B0 + 1 + 1 + 1, 0, none⟩)], .int .u64 (x.1 : Int), undef, undef, undef, undef, undef, undef, undef, undef, undef, undef, undef, undef, undef], defers := [] }) ?assign ?body ?done ?stop
  case assign =>
    intro l x W K hK
    gi_wp2
    exact hK
  case body =>
    rintro l pre x W ⟨hv, hck, hcg, hB⟩ hlt
    have hx2 := x.2
    have hR := rmB_lt HG.out HG2.out pre 0 (Nat.two_pow_pos k)
    have h32 : 2 ^ k ≤ 2 ^ 32 := Nat.pow_le_pow_right (by omega) hk32
    have HA := Lib.hid (rmB_app k G 0 pre [x])
    obtain ⟨R, hRR⟩ : ∃ R, rmB k G 0 pre = R := ⟨_, rfl⟩
    rw [hRR] at hv hR HA
    clear hRR
    have hR32 : R < 4294967296 := by omega
    have hG32 : G < 8589934592 := by have h1 := HG.out; rw [Nat.pow_succ] at h1; omega
    have hor := or_bit R x.1 hx2 (by omega)
    obtain ⟨R2, hR2⟩ : ∃ R2, 2 * R + x.1 = R2 := ⟨_, rfl⟩
    have htb := top_bit k R2 (by omega)
    have HA2 : Hid (rmB k G 0 (pre ++ [x]) = st1 k G R2) := Lib.hid (by rw [HA.out, ← hR2]; rfl)
    rw [hR2] at hor
    have hR2b : R2 < 8589934592 := by omega
    clear hR h32 HA hR2
    have c0 := hv.cell
    have c1 := hck.cell
    have c2 := hcg.cell
    have f0 := hv.frozen
    have c1' := (hck.other (B' := B0 + 1 + 1) (by omega) (.int .u64 (R2 : Int))).cell
    have c2' := (hcg.other (B' := B0 + 1 + 1) (by omega) (.int .u64 (R2 : Int))).cell
    have c0' := (hv.set (.int .u64 (R2 : Int))).cell
    have f0' := (hv.set (.int .u64 (R2 : Int))).frozen
    by_cases htt : R2.testBit k = true
    · have HS := Lib.hid (show st1 k G R2 = R2 ^^^ G by rw [st1, if_pos htt])
      have hxr := bits_xor_u64_nat R2 G (by omega) (by omega)
      rw [if_pos htt] at htb
      clear htt
      gi_wp2
      exact ⟨((KeepsOthers.setCell _ _ _).trans (KeepsOthers.setCell _ _ _)).from _, keepC_t (keepC_set (by omega) _ _) (keepC_set (by omega) _ _), by rw [HA2.out, HS.out]; exact (hv.set _).set _, (hck.other (by omega) _).other (by omega) _, (hcg.other (by omega) _).other (by omega) _, (hB.setCell (p := ⟨B0 + 1 + 1, 0, none⟩) (by simp only; omega) _).setCell (p := ⟨B0 + 1 + 1, 0, none⟩) (by simp only; omega) _⟩
    · have HS := Lib.hid (show st1 k G R2 = R2 by rw [st1, if_neg htt])
      rw [if_neg htt] at htb
      clear htt
      gi_wp2
      exact ⟨(KeepsOthers.setCell _ _ _).from _, keepC_set (by omega) _ _, by rw [HA2.out, HS.out]; exact hv.set _, hck.other (by omega) _, hcg.other (by omega) _, hB.setCell (p := ⟨B0 + 1 + 1, 0, none⟩) (by simp only; omega) _⟩
  case done =>
    rintro D ys W hD rfl ⟨hv, hck, hcg, hB⟩ hK
    have c0 := hv.cell
    rw [rmB_bbs] at c0
    gi_wp2
    refine ⟨by simp, .inl ⟨_, _, rfl, run_takeDeferred hK, ?_⟩⟩
    refine ⟨.int .u64 (rm k G s.data.toList : Nat), ?_, rfl, hB.trans (belowK_b (w := w) (Nat.le_refl _) _ D _ _ (by omega) hK rfl rfl)⟩
    simp [results, Try.f18, go_sem, rm]
  case stop =>
    rintro D c pre W _ _ h _
    exact h.elim
  --END
end Go.Proofs.Ytdogepiddjoemaa
