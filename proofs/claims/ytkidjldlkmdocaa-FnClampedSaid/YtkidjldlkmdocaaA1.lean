/-
  The walks of the laws FnExactConstants, FnExactClamp, FnExactMonthOf, FnExactAgeAt. Conditions: none.
-/
import Derived.Test.YtkidjldlkmdocaaPure
namespace Go.Proofs.Ytkidjldlkmdocaa
open Go.RowKit
set_option linter.unusedVariables false

set_option maxHeartbeats 400000 in
theorem walk_FnExactConstants (w : World) :
    Calls Try.prog 3 #[] w fun e w' => e = .returned (.bool true) ∧ Below w.heap.size w w' := by
  go_enter Try.func3, Try.ntmps3
  go_wp2
  go_ret
  exact ⟨rfl, Below.refl _ _⟩

def clampI (n lo hi : Int) : Int := if hi < lo ∨ n < lo then lo else if hi < n then hi else n

set_option maxHeartbeats 400000 in
theorem implClamp_c (n lo hi : Int) (w : World) :
    Calls Try.prog 18 #[.int .i64 n, .int .i64 lo, .int .i64 hi] w fun e w' => e = .returned (.int .i64 (clampI n lo hi)) ∧ w = w' := by
  go_enter Try.func18, Try.ntmps18
  go_wp2
  all_goals
    go_ret
    exact ⟨ret_int (by unfold clampI; split <;> (try split) <;> omega), rfl⟩

set_option maxHeartbeats 400000 in
theorem specClamp_c (n lo hi : Int) (w : World) :
    Calls Try.prog 17 #[.int .i64 n, .int .i64 lo, .int .i64 hi] w fun e w' => e = .returned (.int .i64 (clampI n lo hi)) ∧ w = w' := by
  go_enter Try.func17, Try.ntmps17
  go_wp2
  all_goals
    go_ret
    exact ⟨ret_int (by unfold clampI; split <;> (try split) <;> omega), rfl⟩

set_option maxHeartbeats 400000 in
theorem walk_FnExactClamp (a0 : Int) (w0 : (Lit.int .i64 a0).wf = true) (a1 : Int) (w1 : (Lit.int .i64 a1).wf = true) (a2 : Int) (w2 : (Lit.int .i64 a2).wf = true) (w : World) :
    Calls Try.prog 5 #[.int .i64 a0, .int .i64 a1, .int .i64 a2] w fun e w' => e = .returned (.bool true) ∧ Below w.heap.size w w' := by
  go_enter Try.func5, Try.ntmps5
  go_wp2_with (first
    | (go_at_call 18; refine (implClamp_c _ _ _ _).mono ?_; rintro e w' ⟨rfl, rfl⟩)
    | (go_at_call 17; refine (specClamp_c _ _ _ _).mono ?_; rintro e w' ⟨rfl, rfl⟩))
  go_ret
  exact ⟨rfl, Below.refl _ _⟩

def monthOf (y m : Int) : Int := if 1 ≤ m ∧ m ≤ 12 ∧ 1900 ≤ y ∧ y ≤ 2199 then (y - 1900) * 12 + m - 1 else -1

set_option maxHeartbeats 400000 in
theorem implMonthOf_c (y m : Int) (w : World) :
    Calls Try.prog 20 #[.int .i64 y, .int .i64 m] w fun e w' => e = .returned (.int .i64 (monthOf y m)) ∧ w = w' := by
  have hr : Hid (monthOf y m = if inB m 1 12 && inB y 1900 2199 then (y - 1900) * 12 + m - 1 else -1) := by
    show monthOf y m = _
    simp only [monthOf, inB, Bool.and_eq_true, decide_eq_true_eq]
    split <;> split <;> first | rfl | (exfalso; omega)
  cases h1 : inB m 1 12 <;> cases h2 : inB y 1900 2199
  case true.true =>
    have a := (inB_iff.1 h1).1
    have b := (inB_iff.1 h1).2
    have c := (inB_iff.1 h2).1
    have d := (inB_iff.1 h2).2
    go_enter Try.func20, Try.ntmps20
    go_wp2_with (go_at_call 40; refine (within_c _ _ _ _).mono ?_; rintro e w' ⟨rfl, rfl⟩)
    go_ret
    exact ⟨ret_int (by rw [hr.out]; simp [h1, h2]), rfl⟩
  all_goals
    go_enter Try.func20, Try.ntmps20
    go_wp2_with (go_at_call 40; refine (within_c _ _ _ _).mono ?_; rintro e w' ⟨rfl, rfl⟩)
    go_ret
    exact ⟨ret_int (by rw [hr.out]; simp [h1, h2]), rfl⟩

set_option maxHeartbeats 400000 in
theorem specMonthOf_c (y m : Int) (w : World) :
    Calls Try.prog 19 #[.int .i64 y, .int .i64 m] w fun e w' => e = .returned (.int .i64 (monthOf y m)) ∧ w = w' := by
  have hr : Hid (monthOf y m = if inB m 1 12 && inB y 1900 2199 then (y - 1900) * 12 + m - 1 else -1) := by
    show monthOf y m = _
    simp only [monthOf, inB, Bool.and_eq_true, decide_eq_true_eq]
    split <;> split <;> first | rfl | (exfalso; omega)
  cases h1 : inB m 1 12 <;> cases h2 : inB y 1900 2199
  case true.true =>
    have a := (inB_iff.1 h1).1
    have b := (inB_iff.1 h1).2
    have c := (inB_iff.1 h2).1
    have d := (inB_iff.1 h2).2
    go_enter Try.func19, Try.ntmps19
    go_wp2_with (go_at_call 39; refine (l01In_c _ _ _ _).mono ?_; rintro e w' ⟨rfl, rfl⟩)
    go_ret
    exact ⟨ret_int (by rw [hr.out]; simp [h1, h2]), rfl⟩
  all_goals
    go_enter Try.func19, Try.ntmps19
    go_wp2_with (go_at_call 39; refine (l01In_c _ _ _ _).mono ?_; rintro e w' ⟨rfl, rfl⟩)
    go_ret
    exact ⟨ret_int (by rw [hr.out]; simp [h1, h2]), rfl⟩

set_option maxHeartbeats 400000 in
theorem walk_FnExactMonthOf (a0 : Int) (w0 : (Lit.int .i64 a0).wf = true) (a1 : Int) (w1 : (Lit.int .i64 a1).wf = true) (w : World) :
    Calls Try.prog 6 #[.int .i64 a0, .int .i64 a1] w fun e w' => e = .returned (.bool true) ∧ Below w.heap.size w w' := by
  go_enter Try.func6, Try.ntmps6
  go_wp2_with (first
    | (go_at_call 20; refine (implMonthOf_c _ _ _).mono ?_; rintro e w' ⟨rfl, rfl⟩)
    | (go_at_call 19; refine (specMonthOf_c _ _ _).mono ?_; rintro e w' ⟨rfl, rfl⟩))
  go_ret
  exact ⟨rfl, Below.refl _ _⟩

end Go.Proofs.Ytkidjldlkmdocaa
