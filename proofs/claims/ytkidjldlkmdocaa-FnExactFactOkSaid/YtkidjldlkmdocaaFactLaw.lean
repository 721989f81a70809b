/-
  The walk of the law FnExactFactOk. Conditions: none.
-/
import Derived.Test.YtkidjldlkmdocaaFact
namespace Go.Proofs.Ytkidjldlkmdocaa
open Go.RowKit
set_option linter.unusedVariables false

set_option maxHeartbeats 400000 in
theorem walk_FnExactFactOk (k f t n v : Int) {q : Prop} (_wf : q) (w : World) :
    Calls Try.prog 7 #[.agg #[.int .i64 k, .int .i64 f, .int .i64 t, .int .i64 n, .int .i64 v]] w fun e w' => e = .returned (.bool true) ∧ Below w.heap.size w w' := by
  go_enter Try.func7, Try.ntmps7
  go_wp2_with fail
  refine (toFact_c _ _ _ _ _ _).mono ?_
  rintro e w1 ⟨rfl, b1⟩
  obtain ⟨c1, f1⟩ := bcell b1
  have z1 : w.heap.size < w1.heap.size := by have := b1.size; simp at this; omega
  go_wp2_with fail
  refine (specFactOk_c _ _ _ _ _ _).mono ?_
  rintro e w2 ⟨rfl, b2⟩
  obtain ⟨c2, f2⟩ := bcell b2
  go_wp2_with fail
  refine (toFact_c _ _ _ _ _ _).mono ?_
  rintro e w3 ⟨rfl, b3⟩
  go_wp2_with fail
  refine (implFactOk_c _ _ _ _ _ _).mono ?_
  rintro e w4 ⟨rfl, b4⟩
  go_wp2_with fail
  go_ret
  exact ⟨rfl, andThen (andThen (andThen (andThen (andAlloc (Below.refl _ _) _) b1) b2) b3) b4⟩

end Go.Proofs.Ytkidjldlkmdocaa
