/-
  The operations of both packages on two fractions compute plain functions. Conditions: none.
-/
import Derived.Test.YtlkkbekfkgliaaaFracOps
import Derived.Test.YtlkkbekfkgliaaaBox
namespace Go.Proofs.Ytlkkbekfkgliaaa
open Go.RowKit
set_option linter.unusedVariables false

set_option maxHeartbeats 1000000 in
theorem implFracAdd_c (a b c d : Int) (w : World) :
    Calls Try.prog 23 #[.agg #[.int .i64 a, .int .i64 b], .agg #[.int .i64 c, .int .i64 d]] w fun e w' => e = .returned (.tuple #[.agg #[.int .i64 (addF a b c d).1, .int .i64 (addF a b c d).2.1], .bool (addF a b c d).2.2]) ∧ Below w.heap.size w w' := by
  cases h1 : okB a b
  case false =>
      have hr : Hid (addF a b c d = (0, 0, false)) := by show addF a b c d = _; simp [addF, h1]
      go_enter Try.func23, Try.ntmps23
      go_wp2_with fail
      refine (implFracOk_c _ _ _).mono ?_
      rintro e w1 ⟨rfl, b1⟩
      have R1 : Box2 w1 (w.heap.size + 1 + 1) (.int .i64 0) (.int .i64 0) := Box2.later b1 ⟨by go_simp, by go_simp, by go_simp, by go_simp⟩
      obtain ⟨r0, r1, r2, r3⟩ := id R1
      go_wp2_with fail
      refine bodyPost_ret (v := .tuple #[.agg #[.int .i64 0, .int .i64 0], .bool false]) (by simp [results, Try.results23, go_sem, r0, r1]) rfl ?_
      exact ⟨by rw [hr.out], andSet (andSet (andThen (andAlloc (andAlloc (andAlloc (Below.refl _ _) _) _) _) b1) (by dsimp only; omega) _) (by dsimp only; omega) _⟩
  case true =>
    cases h2 : okB c d
    case false =>
      have hr : Hid (addF a b c d = (0, 0, false)) := by show addF a b c d = _; simp [addF, h1, h2]
      go_enter Try.func23, Try.ntmps23
      go_wp2_with fail
      refine (implFracOk_c _ _ _).mono ?_
      rintro e w1 ⟨rfl, b1⟩
      have B1 : Box2 w1 (w.heap.size + 1) (.int .i64 c) (.int .i64 d) := Box2.later b1 ⟨by go_simp, by go_simp, by go_simp, by go_simp⟩
      have R1 : Box2 w1 (w.heap.size + 1 + 1) (.int .i64 0) (.int .i64 0) := Box2.later b1 ⟨by go_simp, by go_simp, by go_simp, by go_simp⟩
      obtain ⟨p10, p11, p12, p13⟩ := id B1
      go_wp2_with fail
      refine (implFracOk_c _ _ _).mono ?_
      rintro e w2 ⟨rfl, b2⟩
      have R2 := Box2.later b2 R1
      obtain ⟨r0, r1, r2, r3⟩ := id R2
      go_wp2_with fail
      refine bodyPost_ret (v := .tuple #[.agg #[.int .i64 0, .int .i64 0], .bool false]) (by simp [results, Try.results23, go_sem, r0, r1]) rfl ?_
      exact ⟨by rw [hr.out], andSet (andSet (andThen (andThen (andAlloc (andAlloc (andAlloc (Below.refl _ _) _) _) _) b1) b2) (by dsimp only; omega) _) (by dsimp only; omega) _⟩
    case true =>
      obtain ⟨x, y, o, hx⟩ : ∃ x y o, red (a * d + c * b) (b * d) = (x, y, o) := ⟨_, _, _, rfl⟩
      have hr : Hid (addF a b c d = (x, y, o)) := by show addF a b c d = _; simp [addF, h1, h2, hx]
      have HX := Lib.hid hx
      clear hx
      obtain ⟨k1, k2, k3, k4, k5⟩ := okB_bd h1
      obtain ⟨k6, k7, k8, k9, k0⟩ := okB_bd h2
      clear k5 k0
      obtain ⟨m1, m2⟩ := mul_bd (a := a) (d := d) k3 k4 (by omega) k7
      obtain ⟨m3, m4⟩ := mul_bd (a := c) (d := b) k8 k9 (by omega) k2
      obtain ⟨m5, m6⟩ := mul_bd (a := b) (d := d) (A := 1000000) (D := 1000000) (by omega) k2 (by omega) k7
      have m7 := Int.mul_pos (show 0 < b by omega) (show 0 < d by omega)
      go_enter Try.func23, Try.ntmps23
      go_wp2_with fail
      refine (implFracOk_c _ _ _).mono ?_
      rintro e w1 ⟨rfl, b1⟩
      have A1 : Box2 w1 w.heap.size (.int .i64 a) (.int .i64 b) := Box2.later b1 ⟨by go_simp, by go_simp, by go_simp, by go_simp⟩
      have B1 : Box2 w1 (w.heap.size + 1) (.int .i64 c) (.int .i64 d) := Box2.later b1 ⟨by go_simp, by go_simp, by go_simp, by go_simp⟩
      have R1 : Box2 w1 (w.heap.size + 1 + 1) (.int .i64 0) (.int .i64 0) := Box2.later b1 ⟨by go_simp, by go_simp, by go_simp, by go_simp⟩
      obtain ⟨p10, p11, p12, p13⟩ := id B1
      go_wp2_with fail
      refine (implFracOk_c _ _ _).mono ?_
      rintro e w2 ⟨rfl, b2⟩
      have R2 := Box2.later b2 R1
      obtain ⟨a20, a21, a22, a23⟩ := Box2.later b2 A1
      obtain ⟨p20, p21, p22, p23⟩ := Box2.later b2 B1
      go_wp2_with fail
      refine (reduced_c _ _ _ (by omega) (by omega) (by omega)).mono ?_
      rintro e w3 ⟨rfl, b3⟩
      rw [HX.out]
      have R3 := Box2.later b3 R2
      obtain ⟨r0, r1, r2, r3⟩ := id R3
      go_wp2_with fail
      refine bodyPost_ret (v := .tuple #[.agg #[.int .i64 x, .int .i64 y], .bool o]) (by simp [results, Try.results23, go_sem, r0, r1]) rfl ?_
      exact ⟨by rw [hr.out], andSet (andSet (andThen (andThen (andThen (andAlloc (andAlloc (andAlloc (Below.refl _ _) _) _) _) b1) b2) b3) (by dsimp only; omega) _) (by dsimp only; omega) _⟩

set_option maxHeartbeats 1000000 in
theorem implFracSub_c (a b c d : Int) (w : World) :
    Calls Try.prog 25 #[.agg #[.int .i64 a, .int .i64 b], .agg #[.int .i64 c, .int .i64 d]] w fun e w' => e = .returned (.tuple #[.agg #[.int .i64 (subF a b c d).1, .int .i64 (subF a b c d).2.1], .bool (subF a b c d).2.2]) ∧ Below w.heap.size w w' := by
  cases h1 : okB a b
  case false =>
      have hr : Hid (subF a b c d = (0, 0, false)) := by show subF a b c d = _; simp [subF, h1]
      go_enter Try.func25, Try.ntmps25
      go_wp2_with fail
      refine (implFracOk_c _ _ _).mono ?_
      rintro e w1 ⟨rfl, b1⟩
      have R1 : Box2 w1 (w.heap.size + 1 + 1) (.int .i64 0) (.int .i64 0) := Box2.later b1 ⟨by go_simp, by go_simp, by go_simp, by go_simp⟩
      obtain ⟨r0, r1, r2, r3⟩ := id R1
      go_wp2_with fail
      refine bodyPost_ret (v := .tuple #[.agg #[.int .i64 0, .int .i64 0], .bool false]) (by simp [results, Try.results25, go_sem, r0, r1]) rfl ?_
      exact ⟨by rw [hr.out], andSet (andSet (andThen (andAlloc (andAlloc (andAlloc (Below.refl _ _) _) _) _) b1) (by dsimp only; omega) _) (by dsimp only; omega) _⟩
  case true =>
    cases h2 : okB c d
    case false =>
      have hr : Hid (subF a b c d = (0, 0, false)) := by show subF a b c d = _; simp [subF, h1, h2]
      go_enter Try.func25, Try.ntmps25
      go_wp2_with fail
      refine (implFracOk_c _ _ _).mono ?_
      rintro e w1 ⟨rfl, b1⟩
      have B1 : Box2 w1 (w.heap.size + 1) (.int .i64 c) (.int .i64 d) := Box2.later b1 ⟨by go_simp, by go_simp, by go_simp, by go_simp⟩
      have R1 : Box2 w1 (w.heap.size + 1 + 1) (.int .i64 0) (.int .i64 0) := Box2.later b1 ⟨by go_simp, by go_simp, by go_simp, by go_simp⟩
      obtain ⟨p10, p11, p12, p13⟩ := id B1
      go_wp2_with fail
      refine (implFracOk_c _ _ _).mono ?_
      rintro e w2 ⟨rfl, b2⟩
      have R2 := Box2.later b2 R1
      obtain ⟨r0, r1, r2, r3⟩ := id R2
      go_wp2_with fail
      refine bodyPost_ret (v := .tuple #[.agg #[.int .i64 0, .int .i64 0], .bool false]) (by simp [results, Try.results25, go_sem, r0, r1]) rfl ?_
      exact ⟨by rw [hr.out], andSet (andSet (andThen (andThen (andAlloc (andAlloc (andAlloc (Below.refl _ _) _) _) _) b1) b2) (by dsimp only; omega) _) (by dsimp only; omega) _⟩
    case true =>
      obtain ⟨x, y, o, hx⟩ : ∃ x y o, red (a * d - c * b) (b * d) = (x, y, o) := ⟨_, _, _, rfl⟩
      have hr : Hid (subF a b c d = (x, y, o)) := by show subF a b c d = _; simp [subF, h1, h2, hx]
      have HX := Lib.hid hx
      clear hx
      obtain ⟨k1, k2, k3, k4, k5⟩ := okB_bd h1
      obtain ⟨k6, k7, k8, k9, k0⟩ := okB_bd h2
      clear k5 k0
      obtain ⟨m1, m2⟩ := mul_bd (a := a) (d := d) k3 k4 (by omega) k7
      obtain ⟨m3, m4⟩ := mul_bd (a := c) (d := b) k8 k9 (by omega) k2
      obtain ⟨m5, m6⟩ := mul_bd (a := b) (d := d) (A := 1000000) (D := 1000000) (by omega) k2 (by omega) k7
      have m7 := Int.mul_pos (show 0 < b by omega) (show 0 < d by omega)
      go_enter Try.func25, Try.ntmps25
      go_wp2_with fail
      refine (implFracOk_c _ _ _).mono ?_
      rintro e w1 ⟨rfl, b1⟩
      have A1 : Box2 w1 w.heap.size (.int .i64 a) (.int .i64 b) := Box2.later b1 ⟨by go_simp, by go_simp, by go_simp, by go_simp⟩
      have B1 : Box2 w1 (w.heap.size + 1) (.int .i64 c) (.int .i64 d) := Box2.later b1 ⟨by go_simp, by go_simp, by go_simp, by go_simp⟩
      have R1 : Box2 w1 (w.heap.size + 1 + 1) (.int .i64 0) (.int .i64 0) := Box2.later b1 ⟨by go_simp, by go_simp, by go_simp, by go_simp⟩
      obtain ⟨p10, p11, p12, p13⟩ := id B1
      go_wp2_with fail
      refine (implFracOk_c _ _ _).mono ?_
      rintro e w2 ⟨rfl, b2⟩
      have R2 := Box2.later b2 R1
      obtain ⟨a20, a21, a22, a23⟩ := Box2.later b2 A1
      obtain ⟨p20, p21, p22, p23⟩ := Box2.later b2 B1
      go_wp2_with fail
      refine (reduced_c _ _ _ (by omega) (by omega) (by omega)).mono ?_
      rintro e w3 ⟨rfl, b3⟩
      rw [HX.out]
      have R3 := Box2.later b3 R2
      obtain ⟨r0, r1, r2, r3⟩ := id R3
      go_wp2_with fail
      refine bodyPost_ret (v := .tuple #[.agg #[.int .i64 x, .int .i64 y], .bool o]) (by simp [results, Try.results25, go_sem, r0, r1]) rfl ?_
      exact ⟨by rw [hr.out], andSet (andSet (andThen (andThen (andThen (andAlloc (andAlloc (andAlloc (Below.refl _ _) _) _) _) b1) b2) b3) (by dsimp only; omega) _) (by dsimp only; omega) _⟩

end Go.Proofs.Ytlkkbekfkgliaaa
