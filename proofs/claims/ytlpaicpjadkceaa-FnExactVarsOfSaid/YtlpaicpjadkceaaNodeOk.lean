/-
  NodeOk of both packages computes one plain condition 'nodeB'. Conditions: the number of the node is an int64.
-/
import Derived.Test.YtlpaicpjadkceaaFracOk
import Derived.Laws.StructEq
import Derived.RegionTactic
import Derived.ChangeAlike
namespace Go.Proofs.Ytlpaicpjadkceaa
open Go.RowKit
set_option linter.unusedVariables false
set_option maxRecDepth 4000

def ltB (x t : Int) : Bool := decide (0 ≤ x ∧ x < t)
def nodeB (k a b c n d t : Int) : Bool :=
  if (k == 1) = true then ((a == 0) && ((b == 0) && (c == 0))) && okB n d
  else if ((n == 0) && (d == 0)) = false then false
  else if (k == 2) = true then inB a 0 7 && ((b == 0) && (c == 0))
  else if inB k 3 8 = true then (ltB a t && ltB b t) && (c == 0)
  else (k == 9) && (ltB a t && (ltB b t && ltB c t))

theorem run_eqFrac (x0 x1 y0 y1 : Int) (w : World) : (Op.equalIn 9998 54 (.agg #[.int .i64 x0, .int .i64 x1]) (.agg #[.int .i64 y0, .int .i64 y1])).run Try.prog w = .ok ((x0 == y0) && (x1 == y1)) w := by
  have u3 := Try.underlying3
  have a3 := Try.isAgg3
  have z3 := Try.sizeOf3
  have hS : Try.prog.underlying 54 = some (.struct (Try.prog.fieldsOf 54)) := by kernel_rfl
  have hp : Try.prog.stoodInHeld 54 = false := by kernel_rfl
  rw [show (9998 : Nat) = 9997 + 1 from rfl, run_equalIn_agg w 9997 54 _ _ hS hp]
  simp only [Program.fieldsOf, Try.underlying54]
  go_simp
  by_cases h1 : x0 = y0 <;> by_cases h2 : x1 = y1 <;> simp [h1, h2]

theorem run_eqNode (x0 x1 x2 x3 x4 x5 y0 y1 y2 y3 y4 y5 : Int) (w : World) : (binOp .eql 70 (.agg #[.int .i64 x0, .int .i64 x1, .int .i64 x2, .int .i64 x3, .int .i64 x4, .int .i64 x5]) (.agg #[.int .i64 y0, .int .i64 y1, .int .i64 y2, .int .i64 y3, .int .i64 y4, .int .i64 y5])).run Try.prog w =
    .ok (.bool ((x0 == y0) && ((x1 == y1) && ((x2 == y2) && ((x3 == y3) && ((x4 == y4) && (x5 == y5))))))) w := by
  have u3 := Try.underlying3
  have a3 := Try.isAgg3
  have z3 := Try.sizeOf3
  have a4 := Try.isAgg54
  have z4 := Try.sizeOf54
  have hS : Try.prog.underlying 70 = some (.struct (Try.prog.fieldsOf 70)) := by kernel_rfl
  have hp : Try.prog.stoodInHeld 70 = false := by kernel_rfl
  have hf := run_eqFrac x4 x5 y4 y5
  rw [run_eql_struct, show (10000 : Nat) = 9999 + 1 from rfl, run_equalIn_agg w 9999 70 _ _ hS hp]
  simp only [Program.fieldsOf, Try.underlying70]
  go_simp
  by_cases h1 : x0 = y0 <;> by_cases h2 : x1 = y1 <;> by_cases h3 : x2 = y2 <;> by_cases h4 : x3 = y3 <;> by_cases h5 : x4 = y4 <;> by_cases h6 : x5 = y5 <;> simp [h1, h2, h3, h4, h5, h6]

theorem run_neqFrac (x0 x1 y0 y1 : Int) (w : World) : (binOp .neq 54 (.agg #[.int .i64 x0, .int .i64 x1]) (.agg #[.int .i64 y0, .int .i64 y1])).run Try.prog w = .ok (.bool (!((x0 == y0) && (x1 == y1)))) w := by
  have u3 := Try.underlying3
  have a3 := Try.isAgg3
  have z3 := Try.sizeOf3
  have hS : Try.prog.underlying 54 = some (.struct (Try.prog.fieldsOf 54)) := by kernel_rfl
  have hp : Try.prog.stoodInHeld 54 = false := by kernel_rfl
  rw [run_neq_struct, show (10000 : Nat) = 9999 + 1 from rfl, run_equalIn_agg w 9999 54 _ _ hS hp]
  simp only [Program.fieldsOf, Try.underlying54]
  go_simp
  by_cases h1 : x0 = y0 <;> by_cases h2 : x1 = y1 <;> simp [h1, h2]

theorem ltB_at {x t : Int} (h : 0 < t) : inB x 0 (t - 1) = ltB x t := by
  rw [Bool.eq_iff_iff, inB_iff]
  simp [ltB]
  omega
theorem ltB_no {x t : Int} (h : ¬ 0 < t) : ltB x t = false := decide_eq_false (by omega)

set_option maxHeartbeats 400000 in
theorem l08Two_c (k : Int) (w : World) :
    Calls Try.prog 74 #[.int .i64 k] w fun e w' => e = .returned (.bool (inB k 3 8)) ∧ w = w' := by
  go_enter Try.func74, Try.ntmps74
  go_wp2_with (go_at_call 58; refine (l01In_c _ _ _ _).mono ?_; rintro e w' ⟨rfl, rfl⟩)
  go_ret
  exact ⟨rfl, rfl⟩

set_option maxHeartbeats 400000 in
theorem l08At_c (x t : Int) (w : World) :
    Calls Try.prog 75 #[.int .i64 x, .int .i64 t] w fun e w' => e = .returned (.bool (ltB x t)) ∧ w = w' := by
  by_cases h1 : 0 ≤ x
  · by_cases h2 : x < t
    · have HL : Hid (ltB x t = true) := decide_eq_true ⟨h1, h2⟩
      go_enter Try.func75, Try.ntmps75
      go_wp2
      go_ret
      exact ⟨ret_bool HL.out.symm, rfl⟩
    · have HL : Hid (ltB x t = false) := decide_eq_false (by omega)
      go_enter Try.func75, Try.ntmps75
      go_wp2
      go_ret
      exact ⟨ret_bool HL.out.symm, rfl⟩
  · have HL : Hid (ltB x t = false) := decide_eq_false (by omega)
    go_enter Try.func75, Try.ntmps75
    go_wp2
    go_ret
    exact ⟨ret_bool HL.out.symm, rfl⟩

/-- Kind 1: a constant. -/
theorem nodeB_const (a b c n d t : Int) : nodeB 1 a b c n d t = (((a == 0) && ((b == 0) && (c == 0))) && okB n d) := rfl
theorem nodeB_var (a b c n d t : Int) : nodeB 2 a b c n d t = (((n == 0) && (d == 0)) && (inB a 0 7 && ((b == 0) && (c == 0)))) := by
  unfold nodeB
  cases h : ((n == 0) && (d == 0)) <;> rfl
theorem nodeB_pick (a b c n d t : Int) : nodeB 9 a b c n d t = (((n == 0) && (d == 0)) && (ltB a t && (ltB b t && ltB c t))) := by
  unfold nodeB
  cases h : ((n == 0) && (d == 0)) <;> rfl
theorem nodeB_two {k a b c n d t : Int} (h : inB k 3 8 = true) : nodeB k a b c n d t = (((n == 0) && (d == 0)) && ((ltB a t && ltB b t) && (c == 0))) := by
  obtain ⟨h1, h2⟩ := inB_iff.1 h
  have e1 : (k == 1) = false := by simp; omega
  have e2 : (k == 2) = false := by simp; omega
  unfold nodeB
  rw [e1, e2, h]
  cases h : ((n == 0) && (d == 0)) <;> rfl
theorem nodeB_none {k a b c n d t : Int} (h1 : (k == 1) = false) (h2 : (k == 2) = false) (h : inB k 3 9 = false) : nodeB k a b c n d t = false := by
  have e3 : inB k 3 8 = false := by
    rcases inB_not.1 h with h | h
    · exact inB_lo h
    · exact inB_hi (by omega)
  have e4 : (k == 9) = false := by
    rcases inB_not.1 h with h | h <;> (simp; omega)
  unfold nodeB
  rw [h1, h2, e3, e4]
  cases h : ((n == 0) && (d == 0)) <;> rfl

set_option maxHeartbeats 4000000 in
theorem implNode_const (a b c n d t : Int) (w : World) :
    Calls Try.prog 41 #[.agg #[.int .i64 1, .int .i64 a, .int .i64 b, .int .i64 c, .int .i64 n, .int .i64 d], .int .i64 t] w fun e w' => e = .returned (.bool (nodeB 1 a b c n d t)) ∧ Below w.heap.size w w' := by
  have HB := Lib.hid (nodeB_const a b c n d t)
  have heq := run_eqNode
  have hgd : Try.prog.eqGuardType Try.prog.depth 70 = false := by kernel_rfl
  cases ha : (a == 0) <;> cases hb : (b == 0) <;> cases hc : (c == 0)
  all_goals
    go_enter Try.func41, Try.ntmps41
    go_wp2_with (first
      | (go_at_call 77; refine (implFracOk_c _ _ _).mono ?_; rintro e w1 ⟨rfl, b1⟩)
      | (go_at_call 60; refine (within_c _ _ _ _).mono ?_; rintro e w' ⟨rfl, rfl⟩))
    go_ret
    exact ⟨ret_bool (by rw [HB.out]; simp only [ha, hb, hc, Bool.and_true, Bool.true_and, Bool.and_false, Bool.false_and]), by first | exact andThen (by go_grown) b1 | go_grown⟩

set_option maxHeartbeats 4000000 in
theorem implNode_var (a b c n d t : Int) (w : World) :
    Calls Try.prog 41 #[.agg #[.int .i64 2, .int .i64 a, .int .i64 b, .int .i64 c, .int .i64 n, .int .i64 d], .int .i64 t] w fun e w' => e = .returned (.bool (nodeB 2 a b c n d t)) ∧ Below w.heap.size w w' := by
  have HB := Lib.hid (nodeB_var a b c n d t)
  have heq := run_eqNode
  have hgd : Try.prog.eqGuardType Try.prog.depth 70 = false := by kernel_rfl
  cases hb : (b == 0) <;> cases hc : (c == 0) <;> cases hn : (n == 0) <;> cases hd : (d == 0)
  all_goals
    go_enter Try.func41, Try.ntmps41
    go_wp2_with (first
      | (go_at_call 77; refine (implFracOk_c _ _ _).mono ?_; rintro e w1 ⟨rfl, b1⟩)
      | (go_at_call 60; refine (within_c _ _ _ _).mono ?_; rintro e w' ⟨rfl, rfl⟩))
    go_ret
    exact ⟨ret_bool (by rw [HB.out]; simp only [hb, hc, hn, hd, Bool.and_true, Bool.true_and, Bool.and_false, Bool.false_and]), by go_grown⟩

set_option maxHeartbeats 4000000 in
theorem implNode_none (k a b c n d t : Int) (w : World) (h1 : (k == 1) = false) (h2 : (k == 2) = false) (h : inB k 3 9 = false) :
    Calls Try.prog 41 #[.agg #[.int .i64 k, .int .i64 a, .int .i64 b, .int .i64 c, .int .i64 n, .int .i64 d], .int .i64 t] w fun e w' => e = .returned (.bool (nodeB k a b c n d t)) ∧ Below w.heap.size w w' := by
  have HB := Lib.hid (nodeB_none (a := a) (b := b) (c := c) (n := n) (d := d) (t := t) h1 h2 h)
  go_enter Try.func41, Try.ntmps41
  go_wp2_with (first
      | (go_at_call 77; refine (implFracOk_c _ _ _).mono ?_; rintro e w1 ⟨rfl, b1⟩)
      | (go_at_call 60; refine (within_c _ _ _ _).mono ?_; rintro e w' ⟨rfl, rfl⟩))
  go_ret
  exact ⟨ret_bool HB.out.symm, by go_grown⟩

set_option maxHeartbeats 4000000 in
theorem implNode_two (k a b c n d t : Int) (w : World) (h : inB k 3 8 = true) (ht0 : -9223372036854775808 ≤ t) (ht1 : t ≤ 9223372036854775807) :
    Calls Try.prog 41 #[.agg #[.int .i64 k, .int .i64 a, .int .i64 b, .int .i64 c, .int .i64 n, .int .i64 d], .int .i64 t] w fun e w' => e = .returned (.bool (nodeB k a b c n d t)) ∧ Below w.heap.size w w' := by
  have HB := Lib.hid (nodeB_two (a := a) (b := b) (c := c) (n := n) (d := d) (t := t) h)
  obtain ⟨k0, k1⟩ := inB_iff.1 h
  have e1 : (k == 1) = false := by simp; omega
  have e2 : (k == 2) = false := by simp; omega
  have e9 : (k == 9) = false := by simp; omega
  have e3 : inB k 3 9 = true := inB_true k0 (by omega)
  clear h k0 k1
  have heq := run_eqNode
  have hgd : Try.prog.eqGuardType Try.prog.depth 70 = false := by kernel_rfl
  cases hc : (c == 0) <;> cases hn : (n == 0) <;> cases hd : (d == 0)
  case true.true.true =>
    by_cases ht : 0 < t
    · have la := ltB_at (x := a) ht
      have lb := ltB_at (x := b) ht
      have lc := ltB_at (x := c) ht
      have HB2 := Lib.hid HB.out
      rw [← la, ← lb] at HB2
      have fc : inB c 0 (t - 1) = true := inB_true (by simp at hc; omega) (by simp at hc; omega)
      clear la lb lc HB
      cases fa : inB a 0 (t - 1) <;> cases fb : inB b 0 (t - 1)
      all_goals
        go_enter Try.func41, Try.ntmps41
        go_wp2_with (first
        | (go_at_call 77; refine (implFracOk_c _ _ _).mono ?_; rintro e w1 ⟨rfl, b1⟩)
        | (go_at_call 60; refine (within_c _ _ _ _).mono ?_; rintro e w' ⟨rfl, rfl⟩))
        go_region
        all_goals
          go_wp2_with (first
        | (go_at_call 77; refine (implFracOk_c _ _ _).mono ?_; rintro e w1 ⟨rfl, b1⟩)
        | (go_at_call 60; refine (within_c _ _ _ _).mono ?_; rintro e w' ⟨rfl, rfl⟩))
          go_ret
          exact ⟨ret_bool (by rw [HB2.out]; simp [hc, hn, hd, fa, fb]), by go_grown⟩
    · have HB2 : Hid (nodeB k a b c n d t = false) := by show _ = _; rw [HB.out, ltB_no ht]; simp
      have ht2 : decide (0 < t) = false := decide_eq_false ht
      clear ht
      go_enter Try.func41, Try.ntmps41
      go_wp2_with (first
        | (go_at_call 77; refine (implFracOk_c _ _ _).mono ?_; rintro e w1 ⟨rfl, b1⟩)
        | (go_at_call 60; refine (within_c _ _ _ _).mono ?_; rintro e w' ⟨rfl, rfl⟩))
      go_region
      all_goals
        go_wp2_with (first
        | (go_at_call 77; refine (implFracOk_c _ _ _).mono ?_; rintro e w1 ⟨rfl, b1⟩)
        | (go_at_call 60; refine (within_c _ _ _ _).mono ?_; rintro e w' ⟨rfl, rfl⟩))
        go_ret
        exact ⟨ret_bool HB2.out.symm, by go_grown⟩
  all_goals
    go_enter Try.func41, Try.ntmps41
    go_wp2_with (first
      | (go_at_call 77; refine (implFracOk_c _ _ _).mono ?_; rintro e w1 ⟨rfl, b1⟩)
      | (go_at_call 60; refine (within_c _ _ _ _).mono ?_; rintro e w' ⟨rfl, rfl⟩))
    go_region
    all_goals
      go_wp2_with (first
      | (go_at_call 77; refine (implFracOk_c _ _ _).mono ?_; rintro e w1 ⟨rfl, b1⟩)
      | (go_at_call 60; refine (within_c _ _ _ _).mono ?_; rintro e w' ⟨rfl, rfl⟩))
      go_ret
      exact ⟨ret_bool (by rw [HB.out]; simp [hc, hn, hd]), by go_grown⟩

set_option maxHeartbeats 8000000 in
theorem implNode_pick (a b c n d t : Int) (w : World) (ht0 : -9223372036854775808 ≤ t) (ht1 : t ≤ 9223372036854775807) :
    Calls Try.prog 41 #[.agg #[.int .i64 9, .int .i64 a, .int .i64 b, .int .i64 c, .int .i64 n, .int .i64 d], .int .i64 t] w fun e w' => e = .returned (.bool (nodeB 9 a b c n d t)) ∧ Below w.heap.size w w' := by
  have HB := Lib.hid (nodeB_pick a b c n d t)
  have heq := run_eqNode
  have hgd : Try.prog.eqGuardType Try.prog.depth 70 = false := by kernel_rfl
  cases hn : (n == 0) <;> cases hd : (d == 0)
  case true.true =>
    by_cases ht : 0 < t
    · have la := ltB_at (x := a) ht
      have lb := ltB_at (x := b) ht
      have lc := ltB_at (x := c) ht
      have HB2 := Lib.hid HB.out
      rw [← la, ← lb, ← lc] at HB2
      clear la lb lc HB
      cases fa : inB a 0 (t - 1) <;> cases fb : inB b 0 (t - 1) <;> cases fc : inB c 0 (t - 1)
      all_goals
        go_enter Try.func41, Try.ntmps41
        go_wp2_with (first
        | (go_at_call 77; refine (implFracOk_c _ _ _).mono ?_; rintro e w1 ⟨rfl, b1⟩)
        | (go_at_call 60; refine (within_c _ _ _ _).mono ?_; rintro e w' ⟨rfl, rfl⟩))
        go_region
        all_goals
          go_wp2_with (first
        | (go_at_call 77; refine (implFracOk_c _ _ _).mono ?_; rintro e w1 ⟨rfl, b1⟩)
        | (go_at_call 60; refine (within_c _ _ _ _).mono ?_; rintro e w' ⟨rfl, rfl⟩))
          go_ret
          exact ⟨ret_bool (by rw [HB2.out]; simp [hn, hd, fa, fb, fc]), by go_grown⟩
    · have HB2 : Hid (nodeB 9 a b c n d t = false) := by show _ = _; rw [HB.out, ltB_no ht]; simp
      have ht2 : decide (0 < t) = false := decide_eq_false ht
      clear ht
      go_enter Try.func41, Try.ntmps41
      go_wp2_with (first
        | (go_at_call 77; refine (implFracOk_c _ _ _).mono ?_; rintro e w1 ⟨rfl, b1⟩)
        | (go_at_call 60; refine (within_c _ _ _ _).mono ?_; rintro e w' ⟨rfl, rfl⟩))
      go_region
      all_goals
        go_wp2_with (first
        | (go_at_call 77; refine (implFracOk_c _ _ _).mono ?_; rintro e w1 ⟨rfl, b1⟩)
        | (go_at_call 60; refine (within_c _ _ _ _).mono ?_; rintro e w' ⟨rfl, rfl⟩))
        go_ret
        exact ⟨ret_bool HB2.out.symm, by go_grown⟩
  all_goals
    go_enter Try.func41, Try.ntmps41
    go_wp2_with (first
        | (go_at_call 77; refine (implFracOk_c _ _ _).mono ?_; rintro e w1 ⟨rfl, b1⟩)
        | (go_at_call 60; refine (within_c _ _ _ _).mono ?_; rintro e w' ⟨rfl, rfl⟩))
    go_region
    all_goals
      go_wp2_with (first
        | (go_at_call 77; refine (implFracOk_c _ _ _).mono ?_; rintro e w1 ⟨rfl, b1⟩)
        | (go_at_call 60; refine (within_c _ _ _ _).mono ?_; rintro e w' ⟨rfl, rfl⟩))
      go_ret
      exact ⟨ret_bool (by rw [HB.out]; simp [hn, hd]), by go_grown⟩

theorem implNodeOk_c (k a b c n d t : Int) (w : World) (ht0 : -9223372036854775808 ≤ t) (ht1 : t ≤ 9223372036854775807) :
    Calls Try.prog 41 #[.agg #[.int .i64 k, .int .i64 a, .int .i64 b, .int .i64 c, .int .i64 n, .int .i64 d], .int .i64 t] w fun e w' => e = .returned (.bool (nodeB k a b c n d t)) ∧ Below w.heap.size w w' := by
  by_cases h1 : k = 1
  · subst h1; exact implNode_const a b c n d t w
  by_cases h2 : k = 2
  · subst h2; exact implNode_var a b c n d t w
  by_cases h9 : k = 9
  · subst h9; exact implNode_pick a b c n d t w ht0 ht1
  cases h : inB k 3 9
  · exact implNode_none k a b c n d t w (by simpa using h1) (by simpa using h2) h
  · obtain ⟨p, q⟩ := inB_iff.1 h
    exact implNode_two k a b c n d t w (inB_true p (by omega)) ht0 ht1

end Go.Proofs.Ytlpaicpjadkceaa
