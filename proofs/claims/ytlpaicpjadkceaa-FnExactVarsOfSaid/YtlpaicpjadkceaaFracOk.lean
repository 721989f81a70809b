/-
  spec.FracOk computes the condition 'okB'; the walk of the law FnExactFracOk. Conditions: none.
-/
import Derived.Test.YtlpaicpjadkceaaGcd
namespace Go.Proofs.Ytlpaicpjadkceaa
open Go.RowKit
set_option linter.unusedVariables false

set_option maxHeartbeats 1600000 in
theorem specFracOk_c (n d : Int) (w : World) :
    Calls Try.prog 73 #[.agg #[.int .i64 n, .int .i64 d]] w fun e w' => e = .returned (.bool (okB n d)) ∧ Below w.heap.size w w' := by
  have hr : Hid (okB n d = (inB d 1 1000000 && inB n (-1000000000000) 1000000000000 && decide (Int.gcd n d = 1))) := rfl
  cases h1 : inB d 1 1000000 <;> cases h2 : inB n (-1000000000000) 1000000000000
  all_goals rw [h1, h2] at hr
  case true.true =>
    obtain ⟨p1, p2⟩ := inB_iff.1 h1
    obtain ⟨p3, p4⟩ := inB_iff.1 h2
    go_enter Try.func73, Try.ntmps73
    go_wp2_with fail
    go_quiet ((first
      | (go_at_call 58; exact q_same (l01In_c _ _ _ _))
      | (go_at_call 87; exact q_same (l02Abs_c _ _ (by omega)))
      | (go_at_call 86; exact q_drw (l02Gcd_c _ _ _ (by omega) (by omega) (by omega) (by omega)))))
    go_wp2
    go_ret
    exact ⟨ret_bool (by rw [hr.out]; simp [beq_one, gcd_abs]), andDrewN (by go_grown) _⟩
  all_goals
    go_enter Try.func73, Try.ntmps73
    go_wp2_with fail
    go_quiet ((go_at_call 58; exact q_same (l01In_c _ _ _ _)))
    go_wp2
    go_ret
    exact ⟨ret_bool (by rw [hr.out]; simp), andDrewN (by go_grown) _⟩

set_option maxHeartbeats 400000 in
theorem toFrac_c (n d : Int) (w : World) :
    Calls Try.prog 76 #[.agg #[.int .i64 n, .int .i64 d]] w fun e w' => e = .returned (.agg #[.int .i64 n, .int .i64 d]) ∧ Below w.heap.size w w' := by
  go_enter Try.func76, Try.ntmps76
  go_wp2
  go_returns
  exact ⟨rfl, by go_grown⟩


end Go.Proofs.Ytlpaicpjadkceaa
