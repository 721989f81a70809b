/-
  spec.FracOk computes the condition 'okB'; the walk of the law FnExactFracOk. Conditions: none.
-/
import Derived.Test.YtkidjldlkmdocaaGcd
namespace Go.Proofs.Ytkidjldlkmdocaa
open Go.RowKit
set_option linter.unusedVariables false

set_option maxHeartbeats 1600000 in
theorem specFracOk_c (n d : Int) (w : World) :
    Calls Try.prog 26 #[.agg #[.int .i64 n, .int .i64 d]] w fun e w' => e = .returned (.bool (okB n d)) ∧ Below w.heap.size w w' := by
  have hr : Hid (okB n d = (inB d 1 1000000 && inB n (-1000000000000) 1000000000000 && decide (Int.gcd n d = 1))) := rfl
  cases h1 : inB d 1 1000000 <;> cases h2 : inB n (-1000000000000) 1000000000000
  all_goals rw [h1, h2] at hr
  case true.true =>
    obtain ⟨p1, p2⟩ := inB_iff.1 h1
    obtain ⟨p3, p4⟩ := inB_iff.1 h2
    go_enter Try.func26, Try.ntmps26
    go_wp2_with fail
    go_quiet ((first
      | (go_at_call 39; exact q_same (l01In_c _ _ _ _))
      | (go_at_call 45; exact q_same (l02Abs_c _ _ (by omega)))
      | (go_at_call 44; exact q_drw (l02Gcd_c _ _ _ (by omega) (by omega) (by omega) (by omega)))))
    go_wp2
    go_ret
    exact ⟨ret_bool (by rw [hr.out]; simp [beq_one, gcd_abs]), andDrewN (by go_grown) _⟩
  all_goals
    go_enter Try.func26, Try.ntmps26
    go_wp2_with fail
    go_quiet ((go_at_call 39; exact q_same (l01In_c _ _ _ _)))
    go_wp2
    go_ret
    exact ⟨ret_bool (by rw [hr.out]; simp), andDrewN (by go_grown) _⟩

set_option maxHeartbeats 400000 in
theorem toFrac_c (n d : Int) (w : World) :
    Calls Try.prog 27 #[.agg #[.int .i64 n, .int .i64 d]] w fun e w' => e = .returned (.agg #[.int .i64 n, .int .i64 d]) ∧ Below w.heap.size w w' := by
  go_enter Try.func27, Try.ntmps27
  go_wp2
  go_returns
  exact ⟨rfl, by go_grown⟩

set_option maxHeartbeats 400000 in
theorem walk_FnExactFracOk (n d : Int) {q : Prop} (_ : q) (w : World) :
    Calls Try.prog 9 #[.agg #[.int .i64 n, .int .i64 d]] w fun e w' => e = .returned (.bool true) ∧ Below w.heap.size w w' := by
  go_enter Try.func9, Try.ntmps9
  go_wp2_with fail
  refine (toFrac_c _ _ _).mono ?_
  rintro e w1 ⟨rfl, b1⟩
  obtain ⟨c1, f1⟩ := bcell b1
  have z1 : w.heap.size < w1.heap.size := by have := b1.size; simp at this; omega
  go_wp2_with fail
  refine (specFracOk_c _ _ _).mono ?_
  rintro e w2 ⟨rfl, b2⟩
  obtain ⟨c2, f2⟩ := bcell b2
  go_wp2_with fail
  refine (toFrac_c _ _ _).mono ?_
  rintro e w3 ⟨rfl, b3⟩
  go_wp2_with fail
  refine (implFracOk_c _ _ _).mono ?_
  rintro e w4 ⟨rfl, b4⟩
  go_wp2_with fail
  go_ret
  exact ⟨rfl, andThen (andThen (andThen (andThen (andAlloc (Below.refl _ _) _) b1) b2) b3) b4⟩

end Go.Proofs.Ytkidjldlkmdocaa
