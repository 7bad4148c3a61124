/-
  The contract of (*strings.Replacer).build at the four strings 0, 1, 1, 0: a table of 256 letters in which these two are exchanged.
-/
import Derived.Test.YtagelndnhpijfaaRpC
namespace Go.Proofs.Ytagelndnhpijfaa
open Go.RowKit

def s48 : Value := .string ⟨#[48]⟩
def s49 : Value := .string ⟨#[49]⟩
/-- The four strings lie from the beginning of block sb on. -/
def Four (w : World) (sb : Nat) : Prop := w.cell? ⟨sb, 0, none⟩ = some (.string ⟨#[48]⟩) ∧ w.cell? ⟨sb, 1, none⟩ = some (.string ⟨#[49]⟩) ∧ w.cell? ⟨sb, 2, none⟩ = some (.string ⟨#[49]⟩) ∧ w.cell? ⟨sb, 3, none⟩ = some (.string ⟨#[48]⟩)
theorem Four.below {w w' : World} {sb C : Nat} (h : Four w sb) (hb : Below C w w') (hC : sb < C) : Four w' sb :=
  ⟨cell_below h.1 hb hC, cell_below h.2.1 hb hC, cell_below h.2.2.1 hb hC, cell_below h.2.2.2 hb hC⟩

set_option maxHeartbeats 2000000 in
set_option maxRecDepth 100000 in
theorem build_any (rb sb c : Nat) (w : World) (h4 : w.cell? ⟨rb, 4, none⟩ = some (.slice (some ⟨sb, 0, none⟩) 4 c)) (hf : Four w sb) (hsb : sb < w.heap.size) :
    Calls Try.prog 67 #[.pointer (some ⟨rb, 0, none⟩)] w fun e w' => ∃ Bt, e = .returned (.iface 120 (.pointer (some ⟨Bt, 0, none⟩))) ∧ w.heap.size ≤ Bt ∧ Bt < w'.heap.size ∧ Below w.heap.size w w' ∧
      w'.cell? ⟨Bt, 48, none⟩ = some (.int .u8 49) ∧ w'.cell? ⟨Bt, 49, none⟩ = some (.int .u8 48) := by
  have HF := Lib.hid hf; clear hf
  have hx48 : ∀ h, (((⟨#[48]⟩ : ByteArray)[0]'h).toNat) = 48 := fun _ => rfl
  have hx49 : ∀ h, (((⟨#[49]⟩ : ByteArray)[0]'h).toNat) = 49 := fun _ => rfl
  have c0 := HF.out.1
  have c1 := HF.out.2.1
  have c2 := HF.out.2.2.1
  have c3 := HF.out.2.2.2
  go_enter Try.func67, Try.ntmps67
  go_wp2_with fail
  go_loopw [4, 5] (fun b i wr => ∃ k : Nat, k ≤ 2 ∧ b = .bool true ∧ i = .int .i64 (2 * (k : Int)) ∧ w = wr) (fun _ i _ => 4 - (intOf i).toNat)
  case atStart => exact ⟨0, by omega, rfl, rfl, rfl⟩
  case round =>
    obtain ⟨k, hk, rfl, rfl, rfl⟩ := hrel
    rcases (show k = 0 ∨ k = 1 ∨ k = 2 by omega) with rfl | rfl | rfl
    · go_wp2_with fail
      go_roundw
      case rel => exact ⟨1, by omega, rfl, by go_num, trivial⟩
      case measure => simp [intOf]
    · go_wp2_with fail
      go_roundw
      case rel => exact ⟨2, by omega, rfl, by go_num, trivial⟩
      case measure => simp [intOf]
    · clear c0 c1 c2 c3
      have HZ := Lib.hid (show Try.zeroCells119 = Z0 by kernel_rfl)
      have e3 : Try.zeroCells119.size = 256 := by rw [HZ.out]; exact Z0_size
      have e4 : Try.zeroCells119.all (·.oneCell') = true := by rw [HZ.out]; exact Z0_one
      have e5 := run_newTable
      rw [← HZ.out] at e5
      go_wp2_with (first | (refine Great.wpList_allocTo rfl (some 6) rfl _ (.cells Try.zeroCells119 119) (e5 _ _ rfl _) ?_) | (refine wpList_store_rowTo rfl 119 _ _ rfl rfl w.heap.size Try.zeroCells119 rfl rfl 119 Try.zeroCells119 (heap_alloc_new _ _) (by rw [z0_size, e3]) rfl e4 ?_))
      rw [setRow_new]
      have HR0 := Lib.hid (show Row (w.alloc (.cells Try.zeroCells119 119)) w.heap.size 119 (tb 0) by rw [HZ.out, tb_zero]; exact row_new w _ _)
      have HB0 := Lib.hid (show Below w.heap.size w (w.alloc (.cells Try.zeroCells119 119)) from Below.alloc (Below.refl _ _) (Nat.le_refl _) _)
      have HS0 := Lib.hid (show (w.alloc (.cells Try.zeroCells119 119)).heap.size = w.heap.size + 1 by simp)
      generalize (w.alloc (.cells Try.zeroCells119 119)) = v0 at *
      clear e3 e4 e5
      go_loopw [61, 7] (fun i v wr => ∃ k : Nat, k ≤ 256 ∧ i = .int .i64 k ∧ Below w.heap.size w wr ∧ wr.heap.size = w.heap.size + 1 ∧ Row wr w.heap.size 119 (tb k)) (fun i _ _ => 256 - (intOf i).toNat)
      case atStart => exact ⟨0, by omega, rfl, HB0.out, HS0.out, HR0.out⟩
      case round =>
        obtain ⟨k, hk, rfl, hb, hsz, hrow⟩ := hrel
        by_cases hlt : k < 256
        · have hd : decide ((k : Int) < 256) = true := by simp; omega
          have hix : 0 ≤ (k : Int) ∧ (k : Int) < 256 := by omega
          have hw : IntKind.u8.wrap (k : Int) = (k : Int) := by rw [IntKind.wrap_u8']; omega
          have hcl := hrow.cell k
          have hfz := hrow.frozen k
          rw [List.getElem?_eq_getElem (by rw [tb_len hk]; exact hlt)] at hcl
          obtain ⟨u, hcu⟩ : ∃ u, wr.cell? ⟨w.heap.size, k, none⟩ = some u := ⟨_, hcl⟩
          clear hcl
          have HX := Lib.hid (show Row (wr.setCell ⟨w.heap.size, k, none⟩ (.int .u8 k)) w.heap.size 119 (tb (k + 1)) by
            have h := hrow.set k (.int .u8 k)
            rw [tb_set hlt] at h
            exact h)
          have HB := Lib.hid hb
          have HSZ := Lib.hid (show (wr.setCell ⟨w.heap.size, k, none⟩ (.int .u8 k)).heap.size = w.heap.size + 1 by rw [← hsz]; simp [World.setCell])
          clear hrow hb hsz
          go_wp2_with fail
          go_roundw
          case rel => exact ⟨k + 1, by omega, by go_num, HB.out.setCell (p := ⟨w.heap.size, k, none⟩) (Nat.le_refl _) _, HSZ.out, HX.out⟩
          case measure => simp [intOf]; omega
        · obtain rfl : k = 256 := by omega
          have HB := Lib.hid hb
          have HSZ := Lib.hid hsz
          have HR := Lib.hid hrow
          have c0 := (HF.out.below hb hsb).1
          have c1 := (HF.out.below hb hsb).2.1
          have c2 := (HF.out.below hb hsb).2.2.1
          have c3 := (HF.out.below hb hsb).2.2.2
          clear hb hsz hrow
          go_wp2_with fail
          go_loopw [8, 9, 10] (fun i _ _ wq => Below w.heap.size w wq ∧ wq.heap.size = w.heap.size + 1 ∧ ((i = .int .i64 2 ∧ Row wq w.heap.size 119 (tb 256)) ∨ (i = .int .i64 0 ∧ Row wq w.heap.size 119 ((tb 256).set 49 (.int .u8 48))) ∨ (i = .int .i64 (-2) ∧ Row wq w.heap.size 119 (((tb 256).set 49 (.int .u8 48)).set 48 (.int .u8 49))))) (fun i _ _ _ => (intOf i + 2).toNat)
          case atStart => exact ⟨HB.out, HSZ.out, .inl ⟨rfl, HR.out⟩⟩
          case round =>
            obtain ⟨hb, hsz, ⟨rfl, hrow⟩ | ⟨rfl, hrow⟩ | ⟨rfl, hrow⟩⟩ := hrel
            · have HB3 := Lib.hid hb
              have HSZ3 := Lib.hid hsz
              have d0 := (HF.out.below hb hsb).1
              have d1 := (HF.out.below hb hsb).2.1
              have d2 := (HF.out.below hb hsb).2.2.1
              have d3 := (HF.out.below hb hsb).2.2.2
              have hlen : (tb 256).length = 256 := by exact tb_len (Nat.le_refl _)
              have hcl := hrow.cell 49
              have hfz := hrow.frozen 49
              rw [List.getElem?_eq_getElem (by rw [hlen]; omega)] at hcl
              obtain ⟨u, hcu⟩ : ∃ u, wr.cell? ⟨w.heap.size, 49, none⟩ = some u := ⟨_, hcl⟩
              clear hcl
              have HX := Lib.hid (hrow.set 49 (.int .u8 48))
              have HSZ4 := Lib.hid (show (wr.setCell ⟨w.heap.size, 49, none⟩ (.int .u8 48)).heap.size = w.heap.size + 1 by rw [← hsz]; simp [World.setCell])
              clear hb hsz hrow hlen c0 c1 c2 c3
              go_wp2_with fail
              go_roundw
              case rel => exact ⟨HB3.out.setCell (p := ⟨w.heap.size, 49, none⟩) (Nat.le_refl _) _, HSZ4.out, .inr (.inl ⟨by go_num, HX.out⟩)⟩
              case measure => simp [intOf]
            · have HB3 := Lib.hid hb
              have HSZ3 := Lib.hid hsz
              have d0 := (HF.out.below hb hsb).1
              have d1 := (HF.out.below hb hsb).2.1
              have d2 := (HF.out.below hb hsb).2.2.1
              have d3 := (HF.out.below hb hsb).2.2.2
              have hlen : ((tb 256).set 49 (.int .u8 48)).length = 256 := by rw [List.length_set]; exact tb_len (Nat.le_refl _)
              have hcl := hrow.cell 48
              have hfz := hrow.frozen 48
              rw [List.getElem?_eq_getElem (by rw [hlen]; omega)] at hcl
              obtain ⟨u, hcu⟩ : ∃ u, wr.cell? ⟨w.heap.size, 48, none⟩ = some u := ⟨_, hcl⟩
              clear hcl
              have HX := Lib.hid (hrow.set 48 (.int .u8 49))
              have HSZ4 := Lib.hid (show (wr.setCell ⟨w.heap.size, 48, none⟩ (.int .u8 49)).heap.size = w.heap.size + 1 by rw [← hsz]; simp [World.setCell])
              clear hb hsz hrow hlen c0 c1 c2 c3
              go_wp2_with fail
              go_roundw
              case rel => exact ⟨HB3.out.setCell (p := ⟨w.heap.size, 48, none⟩) (Nat.le_refl _) _, HSZ4.out, .inr (.inr ⟨by go_num, HX.out⟩)⟩
              case measure => simp [intOf]
            · have HB3 := Lib.hid hb
              have HSZ3 := Lib.hid hsz
              have hl : (tb 256).length = 256 := tb_len (Nat.le_refl _)
              have hc48 := hrow.cell 48
              have hc49 := hrow.cell 49
              rw [List.getElem?_set_self (by rw [List.length_set, hl]; omega)] at hc48
              rw [List.getElem?_set_ne (by omega), List.getElem?_set_self (by rw [hl]; omega)] at hc49
              have H48 := Lib.hid hc48
              have H49 := Lib.hid hc49
              clear hb hsz hrow hl hc48 hc49 c0 c1 c2 c3
              go_wp2_with fail
              go_ret
              exact ⟨w.heap.size, rfl, Nat.le_refl _, by rw [HSZ3.out]; omega, HB3.out, H48.out, H49.out⟩
end Go.Proofs.Ytagelndnhpijfaa
