/-
  The conversion of a node; the walk of the law FnExactNodeOk. Conditions: none.
-/
import Derived.Test.YtlpaicpjadkceaaNodeOk2
namespace Go.Proofs.Ytlpaicpjadkceaa
open Go.RowKit
set_option linter.unusedVariables false
set_option maxRecDepth 4000

set_option maxHeartbeats 1000000 in
theorem toNode_c (k a b c n d : Int) (w : World) :
    Calls Try.prog 40 #[.agg #[.int .i64 k, .int .i64 a, .int .i64 b, .int .i64 c, .int .i64 n, .int .i64 d]] w fun e w' => e = .returned (.agg #[.int .i64 k, .int .i64 a, .int .i64 b, .int .i64 c, .int .i64 n, .int .i64 d]) ∧ Below w.heap.size w w' := by
  go_enter Try.func40, Try.ntmps40
  go_wp2_with fail
  refine (toFrac_c _ _ _).mono ?_
  rintro e w1 ⟨rfl, b1⟩
  obtain ⟨c1, f1⟩ := bcell b1
  have z1 : w.heap.size + 1 + 1 < w1.heap.size := by have := b1.size; simp at this; omega
  go_wp2_with fail
  refine bodyPost_ret (v := .agg #[.int .i64 k, .int .i64 a, .int .i64 b, .int .i64 c, .int .i64 n, .int .i64 d]) (by simp [results, Try.results40, go_sem, c1]) rfl ?_
  have l1 : Below w.heap.size w w1 := andThen (by go_grown) b1
  refine ⟨rfl, ?_⟩
  repeat (first | (with_reducible exact l1) | refine below_put ?_ (by omega) _ _)

set_option maxHeartbeats 1000000 in
theorem walk_FnExactNodeOk (k a b c n d : Int) {q : Prop} (_ : q) (t : Int) (wt : (Lit.int .i64 t).wf = true) (w : World) :
    Calls Try.prog 10 #[.agg #[.int .i64 k, .int .i64 a, .int .i64 b, .int .i64 c, .int .i64 n, .int .i64 d], .int .i64 t] w fun e w' => e = .returned (.bool true) ∧ Below w.heap.size w w' := by
  obtain ⟨t0, t1⟩ := bounds_i64 wt
  go_enter Try.func10, Try.ntmps10
  go_wp2_with fail
  refine (toNode_c _ _ _ _ _ _ _).mono ?_
  rintro e w1 ⟨rfl, b1⟩
  obtain ⟨c1, f1⟩ := bcell b1
  have z1 : w.heap.size < w1.heap.size := by have := b1.size; simp at this; omega
  go_wp2_with fail
  refine (specNodeOk_c _ _ _ _ _ _ _ _).mono ?_
  rintro e w2 ⟨rfl, b2⟩
  obtain ⟨c2, f2⟩ := bcell b2
  go_wp2_with fail
  refine (toNode_c _ _ _ _ _ _ _).mono ?_
  rintro e w3 ⟨rfl, b3⟩
  go_wp2_with fail
  refine (implNodeOk_c _ _ _ _ _ _ _ _ t0 t1).mono ?_
  rintro e w4 ⟨rfl, b4⟩
  go_wp2_with fail
  go_ret
  exact ⟨rfl, andThen (andThen (andThen (andThen (andAlloc (Below.refl _ _) _) b1) b2) b3) b4⟩

end Go.Proofs.Ytlpaicpjadkceaa
