/-
  The operations of both packages on two fractions compute plain functions. Conditions: none.
-/
import Derived.Test.YtlpaicpjadkceaaFracOps
import Derived.Test.YtlpaicpjadkceaaBox
namespace Go.Proofs.Ytlpaicpjadkceaa
open Go.RowKit
set_option linter.unusedVariables false


set_option maxHeartbeats 1000000 in
theorem l02Small_c (a b : Int) (w : World) :
    Calls Try.prog 71 #[.agg #[.int .i64 a, .int .i64 b]] w fun e w' => e = .returned (.bool (smallB a b)) ∧ Below w.heap.size w w' := by
  cases h1 : okB a b
  all_goals
      have hr : Hid (smallB a b = (okB a b && inB a (-1000000) 1000000)) := rfl
      rw [h1] at hr
      go_enter Try.func71, Try.ntmps71
      go_wp2_with fail
      refine (specFracOk_c _ _ _).mono ?_
      rintro e w1 ⟨rfl, b1⟩
      have A1 : Box2 w1 w.heap.size (.int .i64 a) (.int .i64 b) := Box2.later b1 ⟨by go_simp, by go_simp, by go_simp, by go_simp⟩
      obtain ⟨a10, a11, a12, a13⟩ := id A1
      go_wp2_with (go_at_call 58; refine (l01In_c _ _ _ _).mono ?_; rintro e w' ⟨rfl, rfl⟩)
      go_ret
      exact ⟨ret_bool (by rw [hr.out]; simp), andThen (andAlloc (Below.refl _ _) _) b1⟩



set_option maxHeartbeats 1000000 in
theorem specFracMul_c (a b c d : Int) (w : World) :
    Calls Try.prog 38 #[.agg #[.int .i64 a, .int .i64 b], .agg #[.int .i64 c, .int .i64 d]] w fun e w' => e = .returned (.tuple #[.agg #[.int .i64 (mulF a b c d).1, .int .i64 (mulF a b c d).2.1], .bool (mulF a b c d).2.2]) ∧ Below w.heap.size w w' := by
  cases h1 : smallB a b <;> cases h2 : smallB c d
  case false.false =>
      have hr : Hid (mulF a b c d = (0, 0, false)) := by show mulF a b c d = _; simp [mulF, h1]
      go_enter Try.func38, Try.ntmps38
      go_wp2_with fail
      refine (l02Small_c _ _ _).mono ?_
      rintro e w1 ⟨rfl, b1⟩
      have R1 : Box2 w1 (w.heap.size + 1 + 1) (.int .i64 0) (.int .i64 0) := Box2.later b1 ⟨by go_simp, by go_simp, by go_simp, by go_simp⟩
      obtain ⟨r0, r1, r2, r3⟩ := id R1
      go_wp2_with fail
      refine bodyPost_ret (v := .tuple #[.agg #[.int .i64 0, .int .i64 0], .bool false]) (by simp [results, Try.results38, go_sem, r0, r1]) rfl ?_
      exact ⟨by rw [hr.out], andSet (andSet (andThen (andAlloc (andAlloc (andAlloc (Below.refl _ _) _) _) _) b1) (by dsimp only; omega) _) (by dsimp only; omega) _⟩
  case false.true =>
      have hr : Hid (mulF a b c d = (0, 0, false)) := by show mulF a b c d = _; simp [mulF, h1]
      go_enter Try.func38, Try.ntmps38
      go_wp2_with fail
      refine (l02Small_c _ _ _).mono ?_
      rintro e w1 ⟨rfl, b1⟩
      have R1 : Box2 w1 (w.heap.size + 1 + 1) (.int .i64 0) (.int .i64 0) := Box2.later b1 ⟨by go_simp, by go_simp, by go_simp, by go_simp⟩
      obtain ⟨r0, r1, r2, r3⟩ := id R1
      go_wp2_with fail
      refine bodyPost_ret (v := .tuple #[.agg #[.int .i64 0, .int .i64 0], .bool false]) (by simp [results, Try.results38, go_sem, r0, r1]) rfl ?_
      exact ⟨by rw [hr.out], andSet (andSet (andThen (andAlloc (andAlloc (andAlloc (Below.refl _ _) _) _) _) b1) (by dsimp only; omega) _) (by dsimp only; omega) _⟩
  case true.false =>
      have hr : Hid (mulF a b c d = (0, 0, false)) := by show mulF a b c d = _; simp [mulF, h1, h2]
      go_enter Try.func38, Try.ntmps38
      go_wp2_with fail
      refine (l02Small_c _ _ _).mono ?_
      rintro e w1 ⟨rfl, b1⟩
      have A1 : Box2 w1 w.heap.size (.int .i64 a) (.int .i64 b) := Box2.later b1 ⟨by go_simp, by go_simp, by go_simp, by go_simp⟩
      have B1 : Box2 w1 (w.heap.size + 1) (.int .i64 c) (.int .i64 d) := Box2.later b1 ⟨by go_simp, by go_simp, by go_simp, by go_simp⟩
      have R1 : Box2 w1 (w.heap.size + 1 + 1) (.int .i64 0) (.int .i64 0) := Box2.later b1 ⟨by go_simp, by go_simp, by go_simp, by go_simp⟩
      obtain ⟨p10, p11, p12, p13⟩ := id B1
      go_wp2_with fail
      refine (l02Small_c _ _ _).mono ?_
      rintro e w2 ⟨rfl, b2⟩
      have R2 := Box2.later b2 R1
      obtain ⟨a20, a21, a22, a23⟩ := Box2.later b2 A1
      obtain ⟨p20, p21, p22, p23⟩ := Box2.later b2 B1
      obtain ⟨r0, r1, r2, r3⟩ := id R2
      go_wp2_with fail
      refine bodyPost_ret (v := .tuple #[.agg #[.int .i64 0, .int .i64 0], .bool false]) (by simp [results, Try.results38, go_sem, r0, r1]) rfl ?_
      exact ⟨by rw [hr.out], andSet (andSet (andThen (andThen (andAlloc (andAlloc (andAlloc (Below.refl _ _) _) _) _) b1) b2) (by dsimp only; omega) _) (by dsimp only; omega) _⟩
  case true.true =>
      obtain ⟨x, y, o, hx⟩ : ∃ x y o, red (a * c) (b * d) = (x, y, o) := ⟨_, _, _, rfl⟩
      have hr : Hid (mulF a b c d = (x, y, o)) := by show mulF a b c d = _; simp [mulF, h1, h2, hx]
      have HX := Lib.hid hx
      clear hx
      have s1 : okB a b = true ∧ inB a (-1000000) 1000000 = true := by simpa [smallB] using h1
      have s2 : okB c d = true ∧ inB c (-1000000) 1000000 = true := by simpa [smallB] using h2
      obtain ⟨k1, k2, k3, k4, k5⟩ := okB_bd s1.1
      obtain ⟨k6, k7, k8, k9, k0⟩ := okB_bd s2.1
      obtain ⟨s3, s4⟩ := inB_iff.1 s1.2
      obtain ⟨s5, s6⟩ := inB_iff.1 s2.2
      clear k5 k0 s1 s2 k3 k4 k8 k9
      obtain ⟨m1, m2⟩ := mul_bd (a := a) (d := c) (A := 1000000) (D := 1000000) s3 s4 s5 s6
      obtain ⟨m3, m4⟩ := mul_bd (a := b) (d := d) (A := 1000000) (D := 1000000) (by omega) k2 (by omega) k7
      have m5 := Int.mul_pos (show 0 < b by omega) (show 0 < d by omega)
      go_enter Try.func38, Try.ntmps38
      go_wp2_with fail
      refine (l02Small_c _ _ _).mono ?_
      rintro e w1 ⟨rfl, b1⟩
      have A1 : Box2 w1 w.heap.size (.int .i64 a) (.int .i64 b) := Box2.later b1 ⟨by go_simp, by go_simp, by go_simp, by go_simp⟩
      have B1 : Box2 w1 (w.heap.size + 1) (.int .i64 c) (.int .i64 d) := Box2.later b1 ⟨by go_simp, by go_simp, by go_simp, by go_simp⟩
      have R1 : Box2 w1 (w.heap.size + 1 + 1) (.int .i64 0) (.int .i64 0) := Box2.later b1 ⟨by go_simp, by go_simp, by go_simp, by go_simp⟩
      obtain ⟨p10, p11, p12, p13⟩ := id B1
      go_wp2_with fail
      refine (l02Small_c _ _ _).mono ?_
      rintro e w2 ⟨rfl, b2⟩
      have R2 := Box2.later b2 R1
      obtain ⟨a20, a21, a22, a23⟩ := Box2.later b2 A1
      obtain ⟨p20, p21, p22, p23⟩ := Box2.later b2 B1
      go_wp2_with fail
      refine (l02Make_c _ _ _ (by omega) (by omega) (by omega)).mono ?_
      rintro e w3 ⟨rfl, b3⟩
      rw [HX.out]
      have R3 := Box2.later b3 R2
      obtain ⟨r0, r1, r2, r3⟩ := id R3
      go_wp2_with fail
      refine bodyPost_ret (v := .tuple #[.agg #[.int .i64 x, .int .i64 y], .bool o]) (by simp [results, Try.results38, go_sem, r0, r1]) rfl ?_
      exact ⟨by rw [hr.out], andSet (andSet (andThen (andThen (andThen (andAlloc (andAlloc (andAlloc (Below.refl _ _) _) _) _) b1) b2) b3) (by dsimp only; omega) _) (by dsimp only; omega) _⟩


end Go.Proofs.Ytlpaicpjadkceaa
