/-
  AgeAt of both packages computes one plain function; the walk of the law FnExactAgeAt. Conditions: none.
-/
import Derived.Test.YtkidjldlkmdocaaPure
namespace Go.Proofs.Ytkidjldlkmdocaa
open Go.RowKit
set_option linter.unusedVariables false

def ageAt (b m k : Int) : Int :=
  if inB b 0 3599 && inB m 0 3599 && decide (b ≤ m) then
    (if k = 1 then (m - b) / 12 else if k = 2 then (m - b + 6) / 12 else if k = 3 then (m - b) / 12 + 1 else -1)
  else -1

set_option maxHeartbeats 1000000 in
theorem implAgeAt_c (b m k : Int) (w : World) :
    Calls Try.prog 30 #[.int .i64 b, .int .i64 m, .int .i64 k] w fun e w' => e = .returned (.int .i64 (ageAt b m k)) ∧ w = w' := by
  cases h1 : inB b 0 3599 <;> cases h2 : inB m 0 3599 <;> cases h3 : decide (m < b)
  case true.true.false =>
    have e3 : b ≤ m := by simpa using h3
    have hr : Hid (ageAt b m k = if k = 1 then (m - b) / 12 else if k = 2 then (m - b + 6) / 12 else if k = 3 then (m - b) / 12 + 1 else -1) := by show ageAt b m k = _; simp [ageAt, h1, h2, e3]
    obtain ⟨p1, p2⟩ := inB_iff.1 h1
    obtain ⟨p3, p4⟩ := inB_iff.1 h2
    by_cases k1 : k = 1
    · subst k1
      go_enter Try.func30, Try.ntmps30
      go_wp2_with (go_at_call 16; refine (implMonthOk_c _ _).mono ?_; rintro e w' ⟨rfl, rfl⟩)
      go_ret
      exact ⟨ret_int (by rw [hr.out]; simp), rfl⟩
    · by_cases k2 : k = 2
      · subst k2
        go_enter Try.func30, Try.ntmps30
        go_wp2_with (go_at_call 16; refine (implMonthOk_c _ _).mono ?_; rintro e w' ⟨rfl, rfl⟩)
        go_ret
        exact ⟨ret_int (by rw [hr.out]; simp), rfl⟩
      · by_cases k3 : k = 3
        · subst k3
          go_enter Try.func30, Try.ntmps30
          go_wp2_with (go_at_call 16; refine (implMonthOk_c _ _).mono ?_; rintro e w' ⟨rfl, rfl⟩)
          go_ret
          exact ⟨ret_int (by rw [hr.out]; simp), rfl⟩
        · have hz : Hid (ageAt b m k = -1) := by show ageAt b m k = -1; rw [hr.out, if_neg k1, if_neg k2, if_neg k3]
          have f1 : (k == 1) = false := by simpa using k1
          have f2 : (k == 2) = false := by simpa using k2
          have f3 : (k == 3) = false := by simpa using k3
          clear k1 k2 k3
          go_enter Try.func30, Try.ntmps30
          go_wp2_with (go_at_call 16; refine (implMonthOk_c _ _).mono ?_; rintro e w' ⟨rfl, rfl⟩)
          go_ret
          exact ⟨ret_int (by rw [hz.out]), rfl⟩
  all_goals
    have hz : Hid (ageAt b m k = -1) := by
      show ageAt b m k = -1
      have e3 : decide (b ≤ m) = !decide (m < b) := by rw [Bool.eq_iff_iff]; simp
      simp [ageAt, h1, h2, e3, h3]
    go_enter Try.func30, Try.ntmps30
    go_wp2_with (go_at_call 16; refine (implMonthOk_c _ _).mono ?_; rintro e w' ⟨rfl, rfl⟩)
    go_ret
    exact ⟨ret_int (by rw [hz.out]), rfl⟩

set_option maxHeartbeats 1000000 in
theorem specAgeAt_c (b m k : Int) (w : World) :
    Calls Try.prog 29 #[.int .i64 b, .int .i64 m, .int .i64 k] w fun e w' => e = .returned (.int .i64 (ageAt b m k)) ∧ w = w' := by
  cases h1 : inB b 0 3599 <;> cases h2 : inB m 0 3599 <;> cases h3 : decide (m < b)
  case true.true.false =>
    have e3 : b ≤ m := by simpa using h3
    have hr : Hid (ageAt b m k = if k = 1 then (m - b) / 12 else if k = 2 then (m - b + 6) / 12 else if k = 3 then (m - b) / 12 + 1 else -1) := by show ageAt b m k = _; simp [ageAt, h1, h2, e3]
    obtain ⟨p1, p2⟩ := inB_iff.1 h1
    obtain ⟨p3, p4⟩ := inB_iff.1 h2
    by_cases k1 : k = 1
    · subst k1
      go_enter Try.func29, Try.ntmps29
      go_wp2_with (go_at_call 15; refine (specMonthOk_c _ _).mono ?_; rintro e w' ⟨rfl, rfl⟩)
      go_ret
      exact ⟨ret_int (by rw [hr.out]; simp), rfl⟩
    · by_cases k2 : k = 2
      · subst k2
        go_enter Try.func29, Try.ntmps29
        go_wp2_with (go_at_call 15; refine (specMonthOk_c _ _).mono ?_; rintro e w' ⟨rfl, rfl⟩)
        go_ret
        exact ⟨ret_int (by rw [hr.out]; simp), rfl⟩
      · by_cases k3 : k = 3
        · subst k3
          go_enter Try.func29, Try.ntmps29
          go_wp2_with (go_at_call 15; refine (specMonthOk_c _ _).mono ?_; rintro e w' ⟨rfl, rfl⟩)
          go_ret
          exact ⟨ret_int (by rw [hr.out]; simp), rfl⟩
        · have hz : Hid (ageAt b m k = -1) := by show ageAt b m k = -1; rw [hr.out, if_neg k1, if_neg k2, if_neg k3]
          have f1 : (k == 1) = false := by simpa using k1
          have f2 : (k == 2) = false := by simpa using k2
          have f3 : (k == 3) = false := by simpa using k3
          clear k1 k2 k3
          go_enter Try.func29, Try.ntmps29
          go_wp2_with (go_at_call 15; refine (specMonthOk_c _ _).mono ?_; rintro e w' ⟨rfl, rfl⟩)
          go_ret
          exact ⟨ret_int (by rw [hz.out]), rfl⟩
  all_goals
    have hz : Hid (ageAt b m k = -1) := by
      show ageAt b m k = -1
      have e3 : decide (b ≤ m) = !decide (m < b) := by rw [Bool.eq_iff_iff]; simp
      simp [ageAt, h1, h2, e3, h3]
    go_enter Try.func29, Try.ntmps29
    go_wp2_with (go_at_call 15; refine (specMonthOk_c _ _).mono ?_; rintro e w' ⟨rfl, rfl⟩)
    go_ret
    exact ⟨ret_int (by rw [hz.out]), rfl⟩

set_option maxHeartbeats 400000 in
theorem walk_FnExactAgeAt (a0 : Int) (w0 : (Lit.int .i64 a0).wf = true) (a1 : Int) (w1 : (Lit.int .i64 a1).wf = true) (a2 : Int) (w2 : (Lit.int .i64 a2).wf = true) (w : World) :
    Calls Try.prog 10 #[.int .i64 a0, .int .i64 a1, .int .i64 a2] w fun e w' => e = .returned (.bool true) ∧ Below w.heap.size w w' := by
  go_enter Try.func10, Try.ntmps10
  go_wp2_with (first
    | (go_at_call 30; refine (implAgeAt_c _ _ _ _).mono ?_; rintro e w' ⟨rfl, rfl⟩)
    | (go_at_call 29; refine (specAgeAt_c _ _ _ _).mono ?_; rintro e w' ⟨rfl, rfl⟩))
  go_ret
  exact ⟨rfl, Below.refl _ _⟩

end Go.Proofs.Ytkidjldlkmdocaa
