/-
  Plain laws: unstuffing and unpadding lead back, and accept only what was stuffed or padded.
-/
import Derived.Test.YtdalcopbaaabiaaDoorStJ
import Derived.Test.YtdalcopbaaabiaaDoorStF
namespace Go.Proofs.YtdalcopbaaabiaaDoor
open Go.RowKit

theorem ust_stf (c put : UInt8) (n : Nat) (hn : 0 < n) : ∀ (l : List UInt8) (run : Nat), run < n → ust c put n run false (stf c put n run l) = some l
  | [], run, _ => by rw [stf, ust]
  | a :: l, run, h => by
    have ih := ust_stf c put n hn l (nxt c n run a) (nxt_lt c n run a hn)
    rw [stf_cons, ust]
    cases hm : msT c n run a with
    | true => rw [if_pos rfl, ust, if_pos rfl, ih]; rfl
    | false => rw [if_neg (by simp), ih]; rfl
theorem stf_ust (c put : UInt8) (n : Nat) : ∀ (l : List UInt8), (∀ run x, ust c put n run false l = some x → stf c put n run x = l) ∧ (∀ run x, ust c put n run true l = some x → l = put :: stf c put n run x)
  | [] => ⟨fun run x h => by rw [ust] at h; cases h; rw [stf], fun run x h => by rw [ust] at h; cases h⟩
  | a :: l => by
    obtain ⟨i1, i2⟩ := stf_ust c put n l
    refine ⟨fun run x h => ?_, fun run x h => ?_⟩
    · rw [ust] at h
      obtain ⟨y, hy, rfl⟩ := Option.map_eq_some_iff.1 h
      rw [stf_cons]
      cases hm : msT c n run a with
      | true => rw [hm] at hy; rw [if_pos rfl, ← i2 _ _ hy]
      | false => rw [hm] at hy; rw [if_neg (by simp), i1 _ _ hy]
    · rw [ust] at h
      by_cases ha : a = put
      · rw [if_pos ha] at h; rw [ha, i1 _ _ h]
      · rw [if_neg ha] at h; cases h
theorem ust_sub (c put : UInt8) (n : Nat) : ∀ (l : List UInt8) (run : Nat) (f : Bool) (x : List UInt8), ust c put n run f l = some x → l.all isB = true → x.all isB = true ∧ x.length ≤ l.length
  | [], run, false, x, h, _ => by rw [ust] at h; cases h; exact ⟨rfl, Nat.le_refl _⟩
  | [], run, true, x, h, _ => by rw [ust] at h; cases h
  | a :: l, run, false, x, h, ha => by
    simp only [List.all_cons, Bool.and_eq_true] at ha
    rw [ust] at h
    obtain ⟨y, hy, rfl⟩ := Option.map_eq_some_iff.1 h
    obtain ⟨h1, h2⟩ := ust_sub c put n l _ _ y hy ha.2
    exact ⟨by simp [ha.1, h1], by simp; omega⟩
  | a :: l, run, true, x, h, ha => by
    simp only [List.all_cons, Bool.and_eq_true] at ha
    rw [ust] at h
    split at h
    · obtain ⟨h1, h2⟩ := ust_sub c put n l _ _ x h ha.2
      exact ⟨h1, by simp; omega⟩
    · cases h
theorem upd_rep (d : Nat) (m : List UInt8) : ∀ s, upd d s (List.replicate s 48 ++ m) = upd d 0 m
  | 0 => by simp
  | s + 1 => by rw [List.replicate_succ, List.cons_append, upd, if_pos rfl, upd_rep d m s]
theorem upd_pad (d : Nat) : ∀ l : List UInt8, l.all isB = true → upd d 0 (padL d l) = some l
  | [], _ => by simp [padL, upd]
  | a :: l, h => by
    simp only [List.all_cons, Bool.and_eq_true] at h
    have ih := upd_pad d l h.2
    have e : padL d (a :: l) = (if a = 49 then 49 :: List.replicate d 48 else [a]) ++ padL d l := by simp [padL]
    rw [e]
    rcases isB_cases h.1 with rfl | rfl
    · rw [if_neg (by decide), List.singleton_append, upd, if_pos rfl, ih]; rfl
    · rw [if_pos rfl, List.cons_append, upd, if_neg (by decide), upd_rep, ih]; rfl
theorem pad_upd (d : Nat) : ∀ (l : List UInt8) (s : Nat) (x : List UInt8), upd d s l = some x → l.all isB = true → l = List.replicate s 48 ++ padL d x
  | [], 0, x, h, _ => by rw [upd] at h; cases h; simp [padL]
  | [], s + 1, x, h, _ => by rw [upd] at h; cases h
  | a :: l, s + 1, x, h, ha => by
    simp only [List.all_cons, Bool.and_eq_true] at ha
    rw [upd] at h
    by_cases h0 : a = 48
    · rw [if_pos h0] at h
      rw [List.replicate_succ, List.cons_append, ← pad_upd d l s x h ha.2, h0]
    · rw [if_neg h0] at h; cases h
  | a :: l, 0, x, h, ha => by
    simp only [List.all_cons, Bool.and_eq_true] at ha
    rw [upd] at h
    obtain ⟨y, hy, rfl⟩ := Option.map_eq_some_iff.1 h
    have ih := pad_upd d l _ y hy ha.2
    have e : padL d (a :: y) = (if a = 49 then 49 :: List.replicate d 48 else [a]) ++ padL d y := by simp [padL]
    rw [e]
    rcases isB_cases ha.1 with rfl | rfl
    · rw [if_pos rfl] at ih; rw [ih]; simp
    · rw [if_neg (by decide)] at ih; rw [ih]; simp

/-- What a pair of functions that lead there and back answers at one word. -/
structure Pair (th bk : List UInt8 → List UInt8 × Int) (l : List UInt8) : Prop where
  go : (th l).2 = 0
  back : bk (th l).1 = (l, 0)
  other : ((bk l).2 = 0 ∧ th (bk l).1 = (l, 0)) ∨ ((bk l).2 = 13 ∧ (bk l).1 = [])
theorem us_ok {k : Nat} {l : List UInt8} (h1 : 1 ≤ k) (h2 : k ≤ 64) (hc : chk 2 l = 0) (x : List UInt8) (h : ust 48 49 k 0 false l = some x) : usE k l = 0 ∧ usO k l = x := by
  have he : usE k l = 0 := by rw [usE, if_neg (by omega), if_neg (by simp [hc]), ustB]; show (if (ust 48 49 k 0 false l).isSome = true then (0 : Int) else 13) = 0; rw [h]; rfl
  refine ⟨he, ?_⟩
  rw [usO, if_pos he, ustO]; show (ust 48 49 k 0 false l).getD [] = x; rw [h]; rfl
theorem us_no {k : Nat} {l : List UInt8} (h1 : 1 ≤ k) (h2 : k ≤ 64) (hc : chk 2 l = 0) (h : ust 48 49 k 0 false l = none) : usE k l = 13 ∧ usO k l = [] := by
  have he : usE k l = 13 := by rw [usE, if_neg (by omega), if_neg (by simp [hc]), ustB]; show (if (ust 48 49 k 0 false l).isSome = true then (0 : Int) else 13) = 13; rw [h]; rfl
  exact ⟨he, by rw [usO, he]; rfl⟩
theorem up_ok {d : Nat} {l : List UInt8} (h2 : d ≤ 64) (hc : chk 2 l = 0) (x : List UInt8) (h : upd d 0 l = some x) : upE d l = 0 ∧ upO d l = x := by
  have he : upE d l = 0 := by rw [upE, if_neg (by omega), if_neg (by simp [hc])]; show (if (upd d 0 l).isSome = true then (0 : Int) else 13) = 0; rw [h]; rfl
  refine ⟨he, ?_⟩
  rw [upO, if_pos he]; show (upd d 0 l).getD [] = x; rw [h]; rfl
theorem up_no {d : Nat} {l : List UInt8} (h2 : d ≤ 64) (hc : chk 2 l = 0) (h : upd d 0 l = none) : upE d l = 13 ∧ upO d l = [] := by
  have he : upE d l = 13 := by rw [upE, if_neg (by omega), if_neg (by simp [hc])]; show (if (upd d 0 l).isSome = true then (0 : Int) else 13) = 13; rw [h]; rfl
  exact ⟨he, by rw [upO, he]; rfl⟩
theorem padL_all (d : Nat) : ∀ l : List UInt8, l.all isB = true → (padL d l).all isB = true
  | [], _ => rfl
  | a :: l, h => by
    simp only [List.all_cons, Bool.and_eq_true] at h
    have e : padL d (a :: l) = (if a = 49 then 49 :: List.replicate d 48 else [a]) ++ padL d l := by simp [padL]
    rw [e, List.all_append, padL_all d l h.2]
    split
    · have : (List.replicate d (48 : UInt8)).all isB = true := by rw [List.all_eq_true]; intro x hx; rw [List.eq_of_mem_replicate hx]; rfl
      simp [this]; rfl
    · simp [h.1]
theorem padL_small {d : Nat} {l : List UInt8} (h2 : d ≤ 12) (hl : l.length ≤ 120) : (padL d l).length ≤ 65536 := by
  have := padL_len d l
  have hc : l.count 49 ≤ l.length := List.count_le_length
  have hp : d * l.count 49 ≤ 12 * 120 := Nat.mul_le_mul h2 (by omega)
  omega
theorem pair_st {B : Nat} {l : List UInt8} (h1 : 1 ≤ B) (h2 : B ≤ 12) (hl : l.length ≤ 60) (ha : l.all isB = true) : Pair (fun l => (stO B l, stE B l)) (fun l => (usO B l, usE B l)) l := by
  obtain ⟨s1, s2⟩ := st_small (k := B) h1 (by omega) hl ha
  have hlen := stf_len 48 49 B l 0
  have hall := stf_all 48 49 B isB (by decide) l 0 ha
  obtain ⟨u1, u2⟩ := us_ok (k := B) (l := stf 48 49 B 0 l) h1 (by omega) (chk2_small (by omega) hall) l (ust_stf 48 49 B (by omega) l 0 (by omega))
  refine ⟨s1, by show (usO B (stO B l), usE B (stO B l)) = (l, 0); rw [s2, u1, u2], ?_⟩
  rcases hu : ust 48 49 B 0 false l with _ | x
  · obtain ⟨n1, n2⟩ := us_no h1 (by omega) (chk2_small (by omega) ha) hu
    exact .inr ⟨n1, n2⟩
  · obtain ⟨n1, n2⟩ := us_ok h1 (by omega) (chk2_small (by omega) ha) x hu
    obtain ⟨x1, x2⟩ := ust_sub 48 49 B l 0 false x hu ha
    obtain ⟨t1, t2⟩ := st_small (k := B) h1 (by omega) (by omega : x.length ≤ 60) x1
    exact .inl ⟨n1, by show (stO B (usO B l), stE B (usO B l)) = (l, 0); rw [n2, t1, t2, (stf_ust 48 49 B l).1 0 x hu]⟩
theorem pair_pd {A : Nat} {l : List UInt8} (h2 : A ≤ 12) (hl : l.length ≤ 60) (ha : l.all isB = true) : Pair (fun l => (pdO A l, pdE A l)) (fun l => (upO A l, upE A l)) l := by
  obtain ⟨s1, s2⟩ := pd_small (d := A) h2 (by omega : l.length ≤ 120) ha
  obtain ⟨u1, u2⟩ := up_ok (d := A) (l := padL A l) (by omega) (chk2_small (padL_small h2 (by omega)) (padL_all A l ha)) l (upd_pad A l ha)
  refine ⟨s1, by show (upO A (pdO A l), upE A (pdO A l)) = (l, 0); rw [s2, u1, u2], ?_⟩
  rcases hu : upd A 0 l with _ | x
  · obtain ⟨n1, n2⟩ := up_no (by omega) (chk2_small (by omega) ha) hu
    exact .inr ⟨n1, n2⟩
  · obtain ⟨n1, n2⟩ := up_ok (by omega) (chk2_small (by omega) ha) x hu
    obtain ⟨x1, x2⟩ := upd_sub A l 0 x hu ha
    obtain ⟨t1, t2⟩ := pd_small (d := A) h2 (by omega : x.length ≤ 120) x1
    exact .inl ⟨n1, by show (pdO A (upO A l), pdE A (upO A l)) = (l, 0); rw [n2, t1, t2]; have := pad_upd A l 0 x hu ha; simp at this; rw [← this]⟩
theorem pair_bo {A B : Nat} {l : List UInt8} (hAB : A < B) (h2 : B ≤ 12) (hl : l.length ≤ 60) (ha : l.all isB = true) : Pair (fun l => (boO A B l, boE A B l)) (fun l => (ubO A B l, ubE A B l)) l := by
  have hcast : ((B : Int) - (A : Int)) = ((B - A : Nat) : Int) := by omega
  obtain ⟨s1, s2⟩ := bo_small hAB h2 hl ha
  have hlen := stf_len 48 49 (B - A) l 0
  have hall := stf_all 48 49 (B - A) isB (by decide) l 0 ha
  obtain ⟨p1, p2⟩ := up_ok (d := A) (l := padL A (stf 48 49 (B - A) 0 l)) (by omega) (chk2_small (padL_small (by omega) (by omega)) (padL_all A _ hall)) _ (upd_pad A _ hall)
  obtain ⟨u1, u2⟩ := us_ok (k := B - A) (l := stf 48 49 (B - A) 0 l) (by omega) (by omega) (chk2_small (by omega) hall) l (ust_stf 48 49 (B - A) (by omega) l 0 (by omega))
  have hE : ubE A B (padL A (stf 48 49 (B - A) 0 l)) = 0 := by rw [ubE, if_neg (by omega), p1, if_neg (by simp), hcast, p2, u1]
  refine ⟨s1, by show (ubO A B (boO A B l), ubE A B (boO A B l)) = (l, 0); rw [s2, hE, ubO, if_pos hE, hcast, p2, u2], ?_⟩
  show ((ubE A B l = 0 ∧ (boO A B (ubO A B l), boE A B (ubO A B l)) = (l, 0)) ∨ (ubE A B l = 13 ∧ ubO A B l = []))
  rcases hu : upd A 0 l with _ | x
  · obtain ⟨n1, n2⟩ := up_no (by omega) (chk2_small (by omega) ha) hu
    have e : ubE A B l = 13 := by rw [ubE, if_neg (by omega), n1]; rfl
    exact .inr ⟨e, by rw [ubO, e]; rfl⟩
  · obtain ⟨n1, n2⟩ := up_ok (by omega) (chk2_small (by omega) ha) x hu
    obtain ⟨x1, x2⟩ := upd_sub A l 0 x hu ha
    rcases hv : ust 48 49 (B - A) 0 false x with _ | y
    · obtain ⟨m1, m2⟩ := us_no (k := B - A) (by omega) (by omega) (chk2_small (by omega) x1) hv
      have e : ubE A B l = 13 := by rw [ubE, if_neg (by omega), n1, if_neg (by simp), hcast, n2, m1]
      exact .inr ⟨e, by rw [ubO, e]; rfl⟩
    · obtain ⟨m1, m2⟩ := us_ok (k := B - A) (by omega) (by omega) (chk2_small (by omega) x1) y hv
      obtain ⟨y1, y2⟩ := ust_sub 48 49 (B - A) x 0 false y hv x1
      have e : ubE A B l = 0 := by rw [ubE, if_neg (by omega), n1, if_neg (by simp), hcast, n2, m1]
      have e2 : ubO A B l = y := by rw [ubO, if_pos e, hcast, n2, m2]
      obtain ⟨t1, t2⟩ := bo_small hAB h2 (by omega : y.length ≤ 60) y1
      refine .inl ⟨e, ?_⟩
      rw [e2, t1, t2, (stf_ust 48 49 (B - A) x).1 0 y hv]
      have := pad_upd A l 0 x hu ha
      simp at this; rw [← this]
end Go.Proofs.YtdalcopbaaabiaaDoor
