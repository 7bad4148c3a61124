/-
  The contract of the reference Detects.
-/
import Derived.Test.YtahfmeopecmpmaaDoorRfF
namespace Go.Proofs.YtahfmeopecmpmaaDoor
open Go.RowKit

set_option maxHeartbeats 1000000 in
set_option maxRecDepth 100000 in
theorem rDetects_any (g : ByteArray) (n : Int) (w : World) :
    Calls Tryd.prog 32 #[.string g, .int .i64 n] w fun e w' => e = .returned (.tuple #[.int .i64 (dtV g.data.toList n), .int .i64 (dtE g.data.toList n)]) ∧ Below w.heap.size w w' := by
  by_cases h : gck g.data.toList = 0
  · have e0 : g.data.toList.length = g.size := rfl
    by_cases h13 : g.size ≤ 13
    · by_cases hn : 0 ≤ n ∧ n ≤ 64
      · obtain ⟨N, rfl⟩ : ∃ N : Nat, n = N := ⟨n.toNat, by omega⟩
        refine (rdetects_in g N w ((gck_iff _).1 h) h13 (by omega)).mono fun e w' ⟨h1, h2⟩ => ⟨?_, h2⟩
        rw [h1, dtV, if_pos ⟨h, by omega, hn.1, hn.2⟩, dtE, if_pos h, if_pos (by omega), if_pos hn]
        congr 5
        omega
      · have HV := Lib.hid (show dtV g.data.toList n = 0 by rw [dtV, if_neg (fun h => hn h.2.2)])
        have HE := Lib.hid (show dtE g.data.toList n = 2 by rw [dtE, if_pos h, if_pos (by omega), if_neg hn])
        have H := Lib.hid h; clear h
        have hlen : decide ((13 : Int) < (g.size : Int)) = false := by simp; omega
        by_cases h0 : n < 0
        · go_enter Tryd.func32, Tryd.ntmps32
          go_wp2_with fail
          refine (refGCheck_any _ _).mono ?_
          rintro e w1 ⟨rfl, rfl⟩
          rw [H.out]
          go_wp2_with fail
          go_ret2
          exact ⟨by rw [HV.out, HE.out]; rfl, Below.refl _ _⟩
        · have h64 : 64 < n := by omega
          go_enter Tryd.func32, Tryd.ntmps32
          go_wp2_with fail
          refine (refGCheck_any _ _).mono ?_
          rintro e w1 ⟨rfl, rfl⟩
          rw [H.out]
          go_wp2_with fail
          go_ret2
          exact ⟨by rw [HV.out, HE.out]; rfl, Below.refl _ _⟩
    · have HV := Lib.hid (show dtV g.data.toList n = 0 by rw [dtV, if_neg (fun h => h13 (by omega))])
      have HE := Lib.hid (show dtE g.data.toList n = 4 by rw [dtE, if_pos h, if_neg (by omega)])
      have H := Lib.hid h; clear h
      have hlen : decide ((13 : Int) < (g.size : Int)) = true := by simp; omega
      go_enter Tryd.func32, Tryd.ntmps32
      go_wp2_with fail
      refine (refGCheck_any _ _).mono ?_
      rintro e w1 ⟨rfl, rfl⟩
      rw [H.out]
      go_wp2_with fail
      go_ret2
      exact ⟨by rw [HV.out, HE.out]; rfl, Below.refl _ _⟩
  · have HV := Lib.hid (show dtV g.data.toList n = 0 by rw [dtV, if_neg (fun h' => h h'.1)])
    have HE := Lib.hid (show dtE g.data.toList n = gck g.data.toList by rw [dtE, if_neg h])
    have hb : (gck g.data.toList != 0) = true := by simpa using h
    clear h
    go_enter Tryd.func32, Tryd.ntmps32
    go_wp2_with fail
    refine (refGCheck_any _ _).mono ?_
    rintro e w1 ⟨rfl, rfl⟩
    go_wp2_with fail
    go_ret2
    exact ⟨by rw [HV.out, HE.out]; rfl, Below.refl _ _⟩
end Go.Proofs.YtahfmeopecmpmaaDoor
