/-
  spec.NodeOk computes the condition 'nodeB'; the walk of the law FnExactNodeOk. Conditions: none.
-/
import Derived.Test.YtlpaicpjadkceaaNodeOk
import Derived.Test.YtlpaicpjadkceaaOpenN
namespace Go.Proofs.Ytlpaicpjadkceaa
open Go.RowKit
set_option linter.unusedVariables false
set_option maxRecDepth 4000

theorem nodeB_val {k a b c n d t : Int} (h1 : (k == 1) = false) (h : ((n == 0) && (d == 0)) = false) : nodeB k a b c n d t = false := by
  unfold nodeB
  rw [h1, h]
  rfl
theorem nodeB_rest {k a b c n d t : Int} (h1 : (k == 1) = false) (hn : (n == 0) = true) (hd : (d == 0) = true) (h2 : (k == 2) = false) (h3 : inB k 3 8 = false) : nodeB k a b c n d t = ((k == 9) && (ltB a t && (ltB b t && ltB c t))) := by
  unfold nodeB
  rw [h1, hn, hd, h2, h3]
  rfl

set_option maxHeartbeats 4000000 in
theorem specNode_const (a b c n d t : Int) (w : World) :
    Calls Try.prog 39 #[.agg #[.int .i64 1, .int .i64 a, .int .i64 b, .int .i64 c, .int .i64 n, .int .i64 d], .int .i64 t] w fun e w' => e = .returned (.bool (nodeB 1 a b c n d t)) ∧ Below w.heap.size w w' := by
  have HB := Lib.hid (nodeB_const a b c n d t)
  cases ha : (a == 0) <;> cases hb : (b == 0) <;> cases hc : (c == 0)
  all_goals
    go_enter Try.func39, Try.ntmps39
    go_wp2_with (go_at_call 73; refine (specFracOk_c _ _ _).mono ?_; rintro e w1 ⟨rfl, b1⟩)
    go_ret
    exact ⟨ret_bool (by rw [HB.out]; simp only [ha, hb, hc, Bool.and_true, Bool.true_and, Bool.and_false, Bool.false_and]), by first | exact andThen (by go_grown) b1 | go_grown⟩

set_option maxHeartbeats 4000000 in
theorem specNode_val (k a b c n d t : Int) (w : World) (h1 : (k == 1) = false) (h : ((n == 0) && (d == 0)) = false) :
    Calls Try.prog 39 #[.agg #[.int .i64 k, .int .i64 a, .int .i64 b, .int .i64 c, .int .i64 n, .int .i64 d], .int .i64 t] w fun e w' => e = .returned (.bool (nodeB k a b c n d t)) ∧ Below w.heap.size w w' := by
  have HB := Lib.hid (nodeB_val (a := a) (b := b) (c := c) (t := t) h1 h)
  have heq := run_neqFrac
  have hgd : Try.prog.eqGuardType Try.prog.depth 54 = false := by kernel_rfl
  cases hn : (n == 0) <;> cases hd : (d == 0)
  case true.true => rw [hn, hd] at h; cases h
  all_goals
    clear h
    go_enter Try.func39, Try.ntmps39
    go_wp2
    go_ret
    exact ⟨ret_bool HB.out.symm, by go_grown⟩

set_option maxHeartbeats 4000000 in
theorem specNode_var (a b c n d t : Int) (w : World) (hn : (n == 0) = true) (hd : (d == 0) = true) :
    Calls Try.prog 39 #[.agg #[.int .i64 2, .int .i64 a, .int .i64 b, .int .i64 c, .int .i64 n, .int .i64 d], .int .i64 t] w fun e w' => e = .returned (.bool (nodeB 2 a b c n d t)) ∧ Below w.heap.size w w' := by
  have HB := Lib.hid (nodeB_var a b c n d t)
  have heq := run_neqFrac
  have hgd : Try.prog.eqGuardType Try.prog.depth 54 = false := by kernel_rfl
  cases ha : inB a 0 7 <;> cases hb : (b == 0)
  all_goals
    go_enter Try.func39, Try.ntmps39
    go_wp2_with (go_at_call 58; refine (l01In_c _ _ _ _).mono ?_; rintro e w' ⟨rfl, rfl⟩)
    go_ret
    exact ⟨ret_bool (by rw [HB.out]; simp [hn, hd, ha, hb]), by go_grown⟩

set_option maxHeartbeats 4000000 in
theorem specNode_two (k a b c n d t : Int) (w : World) (h : inB k 3 8 = true) (hn : (n == 0) = true) (hd : (d == 0) = true) :
    Calls Try.prog 39 #[.agg #[.int .i64 k, .int .i64 a, .int .i64 b, .int .i64 c, .int .i64 n, .int .i64 d], .int .i64 t] w fun e w' => e = .returned (.bool (nodeB k a b c n d t)) ∧ Below w.heap.size w w' := by
  have HB := Lib.hid (nodeB_two (a := a) (b := b) (c := c) (n := n) (d := d) (t := t) h)
  obtain ⟨k0, k1⟩ := inB_iff.1 h
  have e1 : (k == 1) = false := by simp; omega
  have e2 : (k == 2) = false := by simp; omega
  have e9 : (k == 9) = false := by simp; omega
  clear k0 k1
  have heq := run_neqFrac
  have hgd : Try.prog.eqGuardType Try.prog.depth 54 = false := by kernel_rfl
  cases ha : ltB a t <;> cases hb : ltB b t
  all_goals
    go_enter Try.func39, Try.ntmps39
    go_wp2_with (first
      | (go_at_call 74; refine (l08Two_c _ _).mono ?_; rintro e w' ⟨rfl, rfl⟩)
      | (go_at_call 75; refine (l08At_c _ _ _).mono ?_; rintro e w' ⟨rfl, rfl⟩))
    go_ret
    exact ⟨ret_bool (by rw [HB.out]; simp [hn, hd, ha, hb]), by go_grown⟩

set_option maxHeartbeats 4000000 in
theorem specNode_rest (k a b c n d t : Int) (w : World) (h1 : (k == 1) = false) (hn : (n == 0) = true) (hd : (d == 0) = true) (h2 : (k == 2) = false) (h3 : inB k 3 8 = false) :
    Calls Try.prog 39 #[.agg #[.int .i64 k, .int .i64 a, .int .i64 b, .int .i64 c, .int .i64 n, .int .i64 d], .int .i64 t] w fun e w' => e = .returned (.bool (nodeB k a b c n d t)) ∧ Below w.heap.size w w' := by
  have HB := Lib.hid (nodeB_rest (a := a) (b := b) (c := c) (t := t) h1 hn hd h2 h3)
  have heq := run_neqFrac
  have hgd : Try.prog.eqGuardType Try.prog.depth 54 = false := by kernel_rfl
  cases h9 : (k == 9) <;> cases ha : ltB a t <;> cases hb : ltB b t
  all_goals
    go_enter Try.func39, Try.ntmps39
    go_wp2_with (first
      | (go_at_call 74; refine (l08Two_c _ _).mono ?_; rintro e w' ⟨rfl, rfl⟩)
      | (go_at_call 75; refine (l08At_c _ _ _).mono ?_; rintro e w' ⟨rfl, rfl⟩))
    go_ret
    exact ⟨ret_bool (by rw [HB.out]; simp [h9, ha, hb]), by go_grown⟩

theorem specNodeOk_c (k a b c n d t : Int) (w : World) :
    Calls Try.prog 39 #[.agg #[.int .i64 k, .int .i64 a, .int .i64 b, .int .i64 c, .int .i64 n, .int .i64 d], .int .i64 t] w fun e w' => e = .returned (.bool (nodeB k a b c n d t)) ∧ Below w.heap.size w w' := by
  by_cases h1 : k = 1
  · subst h1; exact specNode_const a b c n d t w
  have e1 : (k == 1) = false := by simpa using h1
  cases h : ((n == 0) && (d == 0))
  · exact specNode_val k a b c n d t w e1 h
  · obtain ⟨hn, hd⟩ : (n == 0) = true ∧ (d == 0) = true := by simpa only [Bool.and_eq_true] using h
    by_cases h2 : k = 2
    · subst h2; exact specNode_var a b c n d t w hn hd
    cases h3 : inB k 3 8
    · exact specNode_rest k a b c n d t w e1 hn hd (by simpa using h2) h3
    · exact specNode_two k a b c n d t w h3 hn hd

end Go.Proofs.Ytlpaicpjadkceaa
