/-
  The walk of the law FnExactFracCmp. Conditions: none.
-/
import Derived.Test.YtlkkbekfkgliaaaFracLawKit
namespace Go.Proofs.Ytlkkbekfkgliaaa
open Go.RowKit
set_option linter.unusedVariables false
attribute [local go_sem ↓] Go.wp_at_zero Go.wp_at_succ

set_option maxHeartbeats 4000000 in
theorem walk_FnExactFracCmp (a b : Int) {q0 : Prop} (_ : q0) (c d : Int) {q1 : Prop} (_ : q1) (w : World) :
    Calls Try.prog 5 #[.agg #[.int .i64 a, .int .i64 b], .agg #[.int .i64 c, .int .i64 d]] w fun e w' => e = .returned (.bool true) ∧ Below w.heap.size w w' := by
  go_enter Try.func5, Try.ntmps5
  go_upto_region 1 with fail
  have A0 : Box2 ((w.alloc (.cells #[.int .i64 a, .int .i64 b] 28)).alloc (.cells #[.int .i64 c, .int .i64 d] 28)) w.heap.size (.int .i64 a) (.int .i64 b) := (Box2.new _ _ _ _).alloc _
  have B0 : Box2 ((w.alloc (.cells #[.int .i64 a, .int .i64 b] 28)).alloc (.cells #[.int .i64 c, .int .i64 d] 28)) (w.heap.size + 1) (.int .i64 c) (.int .i64 d) := ⟨by go_simp, by go_simp, by go_simp, by go_simp⟩
  have L0 : Below w.heap.size w ((w.alloc (.cells #[.int .i64 a, .int .i64 b] 28)).alloc (.cells #[.int .i64 c, .int .i64 d] 28)) := andAlloc (andAlloc (Below.refl _ _) _) _
  generalize ((w.alloc (.cells #[.int .i64 a, .int .i64 b] 28)).alloc (.cells #[.int .i64 c, .int .i64 d] 28)) = W0 at A0 B0 L0 ⊢
  go_cut [5] (fun s5 wx => s5 = .int .i64 (cmpF a b c d) ∧ Below W0.heap.size W0 wx)
  case first =>
    obtain ⟨a00, a01, a02, a03⟩ := id A0
    obtain ⟨p00, p01, p02, p03⟩ := id B0
    go_region_held3 (fun w' => w'.cell? ⟨w.heap.size, 0, none⟩ = some (.int .i64 a) ∧ w'.cell? ⟨w.heap.size, 1, none⟩ = some (.int .i64 b) ∧ w'.cell? ⟨w.heap.size + 1, 0, none⟩ = some (.int .i64 c) ∧ w'.cell? ⟨w.heap.size + 1, 1, none⟩ = some (.int .i64 d))
      (first | exact keep4 (by assumption) (by assumption) | go_keep)
      (first
        | (go_at_call 18; refine (toFrac_c _ _ _).mono ?_; rintro e w1 ⟨rfl, b1⟩)
        | (go_at_call 20; refine (specFracCmp_c _ _ _ _ _).mono ?_; rintro e w1 ⟨rfl, b1⟩))
    all_goals
      go_wp2_with fail
      go_meet
      exact ⟨rfl, (by repeat (first | exact Below.refl _ _ | (with_reducible assumption) | refine Below.drew ?_ | refine andThen ?_ (by assumption)))⟩
  case rest =>
    obtain ⟨rfl, b9⟩ := hcut
    have A1 := Box2.later b9 A0
    have B1 := Box2.later b9 B0
    have L1 := andThen L0 b9
    clear A0 B0 L0 b9
    go_upto_region 2 with fail
    go_cut [6] (fun s5 wx => s5 = .int .i64 (cmpF a b c d) ∧ Below wc.heap.size wc wx)
    case first =>
      obtain ⟨a00, a01, a02, a03⟩ := id A1
      obtain ⟨p00, p01, p02, p03⟩ := id B1
      go_region_held3 (fun w' => w'.cell? ⟨w.heap.size, 0, none⟩ = some (.int .i64 a) ∧ w'.cell? ⟨w.heap.size, 1, none⟩ = some (.int .i64 b) ∧ w'.cell? ⟨w.heap.size + 1, 0, none⟩ = some (.int .i64 c) ∧ w'.cell? ⟨w.heap.size + 1, 1, none⟩ = some (.int .i64 d))
        (first | exact keep4 (by assumption) (by assumption) | go_keep)
        (first
          | (go_at_call 18; refine (toFrac_c _ _ _).mono ?_; rintro e w1 ⟨rfl, b1⟩)
          | (go_at_call 21; refine (implFracCmp_c _ _ _ _ _).mono ?_; rintro e w1 ⟨rfl, b1⟩))
      all_goals
        go_wp2_with fail
        go_meet
        exact ⟨rfl, (by repeat (first | exact Below.refl _ _ | (with_reducible assumption) | refine Below.drew ?_ | refine andThen ?_ (by assumption)))⟩
    case rest =>
      obtain ⟨rfl, b9⟩ := hcut
      go_wp2_with fail
      go_ret
      exact ⟨rfl, andThen L1 b9⟩

end Go.Proofs.Ytlkkbekfkgliaaa
