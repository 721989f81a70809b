/-
  The operations of both packages on two fractions compute plain functions. Conditions: none.
-/
import Derived.Test.YtlkkbekfkgliaaaFracSum
import Derived.Test.YtlkkbekfkgliaaaBox
import Derived.Deep.RegionHeld3
namespace Go.Proofs.Ytlkkbekfkgliaaa
open Go.RowKit
set_option linter.unusedVariables false

set_option maxHeartbeats 400000 in
theorem specFracAdd_c (a b c d : Int) (w : World) :
    Calls Try.prog 22 #[.agg #[.int .i64 a, .int .i64 b], .agg #[.int .i64 c, .int .i64 d]] w fun e w' => e = .returned (.tuple #[.agg #[.int .i64 (addF a b c d).1, .int .i64 (addF a b c d).2.1], .bool (addF a b c d).2.2]) ∧ Below w.heap.size w w' := by
      obtain ⟨x, y, o, hx⟩ : ∃ x y o, addF a b c d = (x, y, o) := ⟨_, _, _, rfl⟩
      have HX := Lib.hid hx
      clear hx
      go_enter Try.func22, Try.ntmps22
      go_wp2_with fail
      refine (l02SumP_c _ _ _ _ _).mono ?_
      rintro e w1 ⟨rfl, b1⟩
      rw [HX.out]
      have R1 : Box2 w1 (w.heap.size + 1 + 1) (.int .i64 0) (.int .i64 0) := Box2.later b1 ⟨by go_simp, by go_simp, by go_simp, by go_simp⟩
      obtain ⟨r0, r1, r2, r3⟩ := id R1
      go_wp2_with fail
      refine bodyPost_ret (v := .tuple #[.agg #[.int .i64 x, .int .i64 y], .bool o]) (by simp [results, Try.results22, go_sem, r0, r1]) rfl ?_
      exact ⟨by rw [HX.out], andSet (andSet (andThen (andAlloc (andAlloc (andAlloc (Below.refl _ _) _) _) _) b1) (by dsimp only; omega) _) (by dsimp only; omega) _⟩

set_option maxHeartbeats 400000 in
theorem specFracSub_c (a b c d : Int) (w : World) :
    Calls Try.prog 24 #[.agg #[.int .i64 a, .int .i64 b], .agg #[.int .i64 c, .int .i64 d]] w fun e w' => e = .returned (.tuple #[.agg #[.int .i64 (subF a b c d).1, .int .i64 (subF a b c d).2.1], .bool (subF a b c d).2.2]) ∧ Below w.heap.size w w' := by
      obtain ⟨x, y, o, hx⟩ : ∃ x y o, subF a b c d = (x, y, o) := ⟨_, _, _, rfl⟩
      have HX := Lib.hid hx
      clear hx
      go_enter Try.func24, Try.ntmps24
      go_wp2_with fail
      refine (l02SumM_c _ _ _ _ _).mono ?_
      rintro e w1 ⟨rfl, b1⟩
      rw [HX.out]
      have R1 : Box2 w1 (w.heap.size + 1 + 1) (.int .i64 0) (.int .i64 0) := Box2.later b1 ⟨by go_simp, by go_simp, by go_simp, by go_simp⟩
      obtain ⟨r0, r1, r2, r3⟩ := id R1
      go_wp2_with fail
      refine bodyPost_ret (v := .tuple #[.agg #[.int .i64 x, .int .i64 y], .bool o]) (by simp [results, Try.results24, go_sem, r0, r1]) rfl ?_
      exact ⟨by rw [HX.out], andSet (andSet (andThen (andAlloc (andAlloc (andAlloc (Below.refl _ _) _) _) _) b1) (by dsimp only; omega) _) (by dsimp only; omega) _⟩

set_option maxHeartbeats 1000000 in
theorem implFracCmp_c (a b c d : Int) (w : World) :
    Calls Try.prog 21 #[.agg #[.int .i64 a, .int .i64 b], .agg #[.int .i64 c, .int .i64 d]] w fun e w' => e = .returned (.int .i64 (cmpF a b c d)) ∧ Below w.heap.size w w' := by
  cases h1 : okB a b
  case false =>
      have hr : Hid (cmpF a b c d = 2) := by show cmpF a b c d = _; simp [cmpF, h1]
      go_enter Try.func21, Try.ntmps21
      go_wp2_with fail
      refine (implFracOk_c _ _ _).mono ?_
      rintro e w1 ⟨rfl, b1⟩
      go_wp2_with fail
      go_ret
      exact ⟨ret_int (by rw [hr.out]), (andThen (andAlloc (andAlloc (Below.refl _ _) _) _) b1)⟩
  case true =>
    cases h2 : okB c d
    case false =>
      have hr : Hid (cmpF a b c d = 2) := by show cmpF a b c d = _; simp [cmpF, h1, h2]
      go_enter Try.func21, Try.ntmps21
      go_wp2_with fail
      refine (implFracOk_c _ _ _).mono ?_
      rintro e w1 ⟨rfl, b1⟩
      have B1 : Box2 w1 (w.heap.size + 1) (.int .i64 c) (.int .i64 d) := Box2.later b1 ⟨by go_simp, by go_simp, by go_simp, by go_simp⟩
      obtain ⟨p10, p11, p12, p13⟩ := id B1
      go_wp2_with fail
      refine (implFracOk_c _ _ _).mono ?_
      rintro e w2 ⟨rfl, b2⟩
      go_wp2_with fail
      go_ret
      exact ⟨ret_int (by rw [hr.out]), (andThen (andThen (andAlloc (andAlloc (Below.refl _ _) _) _) b1) b2)⟩
    case true =>
      have hr : Hid (cmpF a b c d = if a * d < c * b then -1 else if c * b < a * d then 1 else 0) := by show cmpF a b c d = _; simp [cmpF, h1, h2]
      obtain ⟨k1, k2, k3, k4, k5⟩ := okB_bd h1
      obtain ⟨k6, k7, k8, k9, k0⟩ := okB_bd h2
      clear k5 k0
      obtain ⟨m1, m2⟩ := mul_bd (a := a) (d := d) k3 k4 (by omega) k7
      obtain ⟨m3, m4⟩ := mul_bd (a := c) (d := b) k8 k9 (by omega) k2
      go_enter Try.func21, Try.ntmps21
      go_wp2_with fail
      refine (implFracOk_c _ _ _).mono ?_
      rintro e w1 ⟨rfl, b1⟩
      have A1 : Box2 w1 w.heap.size (.int .i64 a) (.int .i64 b) := Box2.later b1 ⟨by go_simp, by go_simp, by go_simp, by go_simp⟩
      have B1 : Box2 w1 (w.heap.size + 1) (.int .i64 c) (.int .i64 d) := Box2.later b1 ⟨by go_simp, by go_simp, by go_simp, by go_simp⟩
      obtain ⟨p10, p11, p12, p13⟩ := id B1
      go_wp2_with fail
      refine (implFracOk_c _ _ _).mono ?_
      rintro e w2 ⟨rfl, b2⟩
      obtain ⟨a20, a21, a22, a23⟩ := Box2.later b2 A1
      obtain ⟨p20, p21, p22, p23⟩ := Box2.later b2 B1
      clear p10 p11 p12 p13
      rcases Int.lt_trichotomy (a * d) (c * b) with u | u | u
      · go_wp2
        go_ret
        exact ⟨ret_int (by rw [hr.out, if_pos u]), (andThen (andThen (andAlloc (andAlloc (Below.refl _ _) _) _) b1) b2)⟩
      · have hv : Hid (cmpF a b c d = 0) := by show cmpF a b c d = _; rw [hr.out, u]; simp
        have u1 : a * d ≤ c * b := by omega
        have u2 : c * b ≤ a * d := by omega
        clear u
        go_wp2
        go_ret
        exact ⟨ret_int (by rw [hv.out]), (andThen (andThen (andAlloc (andAlloc (Below.refl _ _) _) _) b1) b2)⟩
      · go_wp2
        go_ret
        exact ⟨ret_int (by rw [hr.out, if_neg (by omega), if_pos u]), (andThen (andThen (andAlloc (andAlloc (Below.refl _ _) _) _) b1) b2)⟩

set_option maxHeartbeats 1000000 in
theorem specFracCmp_c (a b c d : Int) (w : World) :
    Calls Try.prog 20 #[.agg #[.int .i64 a, .int .i64 b], .agg #[.int .i64 c, .int .i64 d]] w fun e w' => e = .returned (.int .i64 (cmpF a b c d)) ∧ Below w.heap.size w w' := by
  cases h1 : okB a b
  case false =>
      have hr : Hid (cmpF a b c d = 2) := by show cmpF a b c d = _; simp [cmpF, h1]
      go_enter Try.func20, Try.ntmps20
      go_wp2_with fail
      refine (specFracOk_c _ _ _).mono ?_
      rintro e w1 ⟨rfl, b1⟩
      go_wp2_with fail
      go_ret
      exact ⟨ret_int (by rw [hr.out]), (andThen (andAlloc (andAlloc (Below.refl _ _) _) _) b1)⟩
  case true =>
    cases h2 : okB c d
    case false =>
      have hr : Hid (cmpF a b c d = 2) := by show cmpF a b c d = _; simp [cmpF, h1, h2]
      go_enter Try.func20, Try.ntmps20
      go_wp2_with fail
      refine (specFracOk_c _ _ _).mono ?_
      rintro e w1 ⟨rfl, b1⟩
      have B1 : Box2 w1 (w.heap.size + 1) (.int .i64 c) (.int .i64 d) := Box2.later b1 ⟨by go_simp, by go_simp, by go_simp, by go_simp⟩
      obtain ⟨p10, p11, p12, p13⟩ := id B1
      go_wp2_with fail
      refine (specFracOk_c _ _ _).mono ?_
      rintro e w2 ⟨rfl, b2⟩
      go_wp2_with fail
      go_ret
      exact ⟨ret_int (by rw [hr.out]), (andThen (andThen (andAlloc (andAlloc (Below.refl _ _) _) _) b1) b2)⟩
    case true =>
      have hr : Hid (cmpF a b c d = if a * d < c * b then -1 else if c * b < a * d then 1 else 0) := by show cmpF a b c d = _; simp [cmpF, h1, h2]
      obtain ⟨k1, k2, k3, k4, k5⟩ := okB_bd h1
      obtain ⟨k6, k7, k8, k9, k0⟩ := okB_bd h2
      clear k5 k0
      obtain ⟨m1, m2⟩ := mul_bd (a := a) (d := d) k3 k4 (by omega) k7
      obtain ⟨m3, m4⟩ := mul_bd (a := c) (d := b) k8 k9 (by omega) k2
      go_enter Try.func20, Try.ntmps20
      go_wp2_with fail
      refine (specFracOk_c _ _ _).mono ?_
      rintro e w1 ⟨rfl, b1⟩
      have A1 : Box2 w1 w.heap.size (.int .i64 a) (.int .i64 b) := Box2.later b1 ⟨by go_simp, by go_simp, by go_simp, by go_simp⟩
      have B1 : Box2 w1 (w.heap.size + 1) (.int .i64 c) (.int .i64 d) := Box2.later b1 ⟨by go_simp, by go_simp, by go_simp, by go_simp⟩
      obtain ⟨p10, p11, p12, p13⟩ := id B1
      go_wp2_with fail
      refine (specFracOk_c _ _ _).mono ?_
      rintro e w2 ⟨rfl, b2⟩
      obtain ⟨a20, a21, a22, a23⟩ := Box2.later b2 A1
      obtain ⟨p20, p21, p22, p23⟩ := Box2.later b2 B1
      clear p10 p11 p12 p13
      rcases Int.lt_trichotomy (a * d) (c * b) with u | u | u
      · go_wp2
        go_ret
        exact ⟨ret_int (by rw [hr.out, if_pos u]), (andThen (andThen (andAlloc (andAlloc (Below.refl _ _) _) _) b1) b2)⟩
      · have hv : Hid (cmpF a b c d = 0) := by show cmpF a b c d = _; rw [hr.out, u]; simp
        have u1 : a * d ≤ c * b := by omega
        have u2 : c * b ≤ a * d := by omega
        clear u
        go_wp2
        go_ret
        exact ⟨ret_int (by rw [hv.out]), (andThen (andThen (andAlloc (andAlloc (Below.refl _ _) _) _) b1) b2)⟩
      · go_wp2
        go_ret
        exact ⟨ret_int (by rw [hr.out, if_neg (by omega), if_pos u]), (andThen (andThen (andAlloc (andAlloc (Below.refl _ _) _) _) b1) b2)⟩

end Go.Proofs.Ytlkkbekfkgliaaa
