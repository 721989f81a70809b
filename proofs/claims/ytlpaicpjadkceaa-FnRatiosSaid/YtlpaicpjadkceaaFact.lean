/-
  Contracts of toFact, impl.FactOk, spec.FactOk; the walk of the law FnExactFactOk. Conditions: none.
-/
import Derived.Test.YtlpaicpjadkceaaPure
namespace Go.Proofs.Ytlpaicpjadkceaa
open Go.RowKit
set_option linter.unusedVariables false


def isSpanB (f t : Int) : Bool := decide (0 ≤ f ∧ f < t ∧ t ≤ 3600)


def factB (k f t n v : Int) : Bool := inB k 1 50 && isSpanB f t && inB n 0 3599 && inB v (-1000000000) 1000000000


set_option maxHeartbeats 400000 in
theorem specFactOk_c (k f t n v : Int) (w : World) :
    Calls Try.prog 91 #[.agg #[.int .i64 k, .int .i64 f, .int .i64 t, .int .i64 n, .int .i64 v]] w fun e w' => e = .returned (.bool (factB k f t n v)) ∧ Below w.heap.size w w' := by
  have hr : Hid (factB k f t n v = (inB k 1 50 && (decide (0 ≤ f) && decide (f < t) && decide (t ≤ 3600)) && inB n 0 3599 && inB v (-1000000000) 1000000000)) := by
    show factB k f t n v = _
    unfold factB isSpanB
    congr 2; congr 1
    rw [Bool.eq_iff_iff]; simp; omega
  cases h1 : inB k 1 50 <;> cases h2 : decide (0 ≤ f) <;> cases h3 : decide (f < t) <;> cases h4 : decide (t ≤ 3600) <;> cases h5 : inB n 0 3599
  all_goals
    rw [h1, h2, h3, h4, h5] at hr
    go_enter Try.func91, Try.ntmps91
    go_wp2_with (first
      | (go_at_call 58; refine (l01In_c _ _ _ _).mono ?_; rintro e w' ⟨rfl, rfl⟩)
      | (go_at_call 57; refine (specMonthOk_c _ _).mono ?_; rintro e w' ⟨rfl, rfl⟩))
    go_ret
    exact ⟨ret_bool (by rw [hr.out]; simp), by go_grown⟩


end Go.Proofs.Ytlpaicpjadkceaa
