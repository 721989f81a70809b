/-
  cmp.Compare at int; the comparison that impl.Allocate hands to the sort. Conditions: the cells that it captured can be read.
-/
import Derived.Test.YtcibffmhlamcdaaAllWithin
import Derived.Test.YtcibffmhlamcdaaTab
namespace Go.Proofs.Ytcibffmhlamcdaa
open Go.RowKit
set_option linter.unusedVariables false
set_option maxRecDepth 4000

def cmpOf (a b : Int) : Int := if a < b then -1 else if b < a then 1 else 0
theorem cmpOf_neg (a b : Int) : cmpOf a b < 0 ↔ a < b := by
  unfold cmpOf
  split
  · simp; omega
  · split <;> simp <;> omega

set_option maxHeartbeats 400000 in
theorem isNaN_c (a : Int) (w : World) : Calls Try.prog 31 #[.int .i64 a] w fun e w' => e = .returned (.bool false) ∧ w = w' := by
  go_enter Try.func31, Try.ntmps31
  go_wp2
  go_ret
  exact ⟨rfl, rfl⟩
set_option maxHeartbeats 1000000 in
theorem compare_c (a b : Int) (w : World) : Calls Try.prog 23 #[.int .i64 a, .int .i64 b] w fun e w' => e = .returned (.int .i64 (cmpOf a b)) ∧ w = w' := by
  rcases Int.lt_trichotomy a b with h | h | h
  · have HO : Hid (cmpOf a b = -1) := if_pos h
    have d1 : decide (a < b) = true := decide_eq_true h
    go_enter Try.func23, Try.ntmps23
    go_wp2_with (go_at_call 31; refine (isNaN_c _ _).mono ?_; rintro e w' ⟨rfl, rfl⟩)
    go_ret
    exact ⟨ret_int HO.out.symm, rfl⟩
  · subst h
    have HO : Hid (cmpOf a a = 0) := by show _ = _; unfold cmpOf; simp
    go_enter Try.func23, Try.ntmps23
    go_wp2_with (go_at_call 31; refine (isNaN_c _ _).mono ?_; rintro e w' ⟨rfl, rfl⟩)
    go_ret
    exact ⟨ret_int HO.out.symm, rfl⟩
  · have HO : Hid (cmpOf a b = 1) := by show _ = _; unfold cmpOf; rw [if_neg (by omega), if_pos h]
    have d1 : decide (a < b) = false := decide_eq_false (by omega)
    have d2 : decide (b < a) = true := decide_eq_true h
    have d3 : decide (a > b) = true := decide_eq_true h
    go_enter Try.func23, Try.ntmps23
    go_wp2_with (go_at_call 31; refine (isNaN_c _ _).mono ?_; rintro e w' ⟨rfl, rfl⟩)
    go_ret
    exact ⟨ret_int HO.out.symm, rfl⟩

set_option maxHeartbeats 1000000 in
theorem sortCmp_c (T S x y : Int) (i j b2 b3 b5 b off n cap : Nat) (w : World) (h2 : w.cell? ⟨b2, 0, none⟩ = some (.int .i64 T)) (h3 : w.cell? ⟨b3, 0, none⟩ = some (.slice (some ⟨b, off, none⟩) n cap)) (h5 : w.cell? ⟨b5, 0, none⟩ = some (.int .i64 S))
    (hi : i < n) (hj : j < n) (ci : w.cell? ⟨b, off + i, none⟩ = some (.int .i64 x)) (cj : w.cell? ⟨b, off + j, none⟩ = some (.int .i64 y)) (t0 : 0 ≤ T) (t1 : T ≤ 1000000000) (s0 : 0 < S) (x0 : 0 ≤ x) (x1 : x ≤ 1000000) (y0 : 0 ≤ y) (y1 : y ≤ 1000000) :
    Calls Try.prog 22 #[.int .i64 i, .int .i64 j, .pointer (some ⟨b2, 0, none⟩), .pointer (some ⟨b3, 0, none⟩), .pointer (some ⟨b5, 0, none⟩)] w fun e w' => e = .returned (.int .i64 (cmpOf (T * y % S) (T * x % S))) ∧ Drw w w' := by
  have p0 := Int.mul_nonneg t0 x0
  have p1 : T * x ≤ 1000000000 * 1000000 := Int.mul_le_mul t1 x1 x0 (by decide)
  have q0 := Int.mul_nonneg t0 y0
  have q1 : T * y ≤ 1000000000 * 1000000 := Int.mul_le_mul t1 y1 y0 (by decide)
  have e1 : IntKind.i64.wrap (T * x) = T * x := IntWalk.i64_in _ ⟨by omega, by omega⟩
  have e2 : IntKind.i64.wrap (T * y) = T * y := IntWalk.i64_in _ ⟨by omega, by omega⟩
  have r1 : (T * x).tmod S = T * x % S := Int.tmod_eq_emod_of_nonneg p0
  have r2 : (T * y).tmod S = T * y % S := Int.tmod_eq_emod_of_nonneg q0
  have u0 := Int.emod_nonneg (T * x) (by omega : S ≠ 0)
  have u1 := Int.emod_nonneg (T * y) (by omega : S ≠ 0)
  have sne : ¬ S = 0 := by omega
  have i0 : (0 : Int) ≤ (i : Int) := by omega
  have i1 : (i : Int) < (n : Int) := by omega
  have j0 : (0 : Int) ≤ (j : Int) := by omega
  have j1 : (j : Int) < (n : Int) := by omega
  clear x0 x1 y0 y1 t0 t1
  generalize T * x % S = kx at *
  generalize T * y % S = ky at *
  generalize hpx : T * x = px at *
  generalize hpy : T * y = py at *
  go_enter Try.func22, Try.ntmps22
  go_wp2_with fail
  go_quiet ((go_at_call 23; exact q_same (compare_c _ _ _)))
  go_wp2
  go_ret
  exact ⟨rfl, _, rfl⟩

end Go.Proofs.Ytcibffmhlamcdaa
