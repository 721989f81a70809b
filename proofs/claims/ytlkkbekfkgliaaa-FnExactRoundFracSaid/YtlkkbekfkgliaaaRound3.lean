/-
  spec.RoundFrac computes the plain function 'roundF'; the walks of the laws FnExactFloorFrac, FnExactRoundFrac, FnExactFracCmp. Conditions: none.
-/
import Derived.Test.YtlkkbekfkgliaaaRound2
namespace Go.Proofs.Ytlkkbekfkgliaaa
open Go.RowKit
set_option linter.unusedVariables false

set_option maxHeartbeats 1000000 in
theorem specRound_m1 (n d : Int) (w : World) (h0 : okB n d = true) :
    Calls Try.prog 30 #[.agg #[.int .i64 n, .int .i64 d], .int .i64 1] w fun e w' => e = .returned (.tuple #[.int .i64 (rnd (n / d) (n - n / d * d) d 1), .bool true]) ∧ Below w.heap.size w w' := by
  obtain ⟨k1, k2, k3, k4⟩ := okB_bds h0
  have i0 : inB 1 1 4 = true := by decide
  have hf : floorF n d = n / d := by simp [floorF, h0]
  obtain ⟨l1, l2⟩ := ediv_bd (d := d) k3 k4
  obtain ⟨r1, r2⟩ := rest_bd (n := n) k1
  generalize hq : n / d = q at *
  have HQ := Lib.hid hq
  have HF := Lib.hid hf
  clear hq hf
  go_enter Try.func30, Try.ntmps30
  go_wp2_with fail
  refine (specFracOk_c _ _ _).mono ?_
  rintro e w1 ⟨rfl, b1⟩
  have A1 : Box2 w1 w.heap.size (.int .i64 n) (.int .i64 d) := Box2.later b1 ⟨by go_simp, by go_simp, by go_simp, by go_simp⟩
  obtain ⟨a10, a11, a12, a13⟩ := id A1
  go_wp2_with fail
  refine (l01In_c _ _ _ _).mono ?_
  rintro e w2 ⟨rfl, rfl⟩
  go_wp2_with fail
  refine (specFloor_c _ _ _).mono ?_
  rintro e w2 ⟨rfl, b2⟩
  rw [HF.out]
  obtain ⟨a20, a21, a22, a23⟩ := Box2.later b2 A1
  clear A1 a10 a11 a12 a13
  · go_wp2
    go_ret2
    exact ⟨ret_pair (by simp [rnd]), andThen (andThen (andAlloc (Below.refl _ _) _) b1) b2⟩

set_option maxHeartbeats 1000000 in
theorem specRound_m2 (n d : Int) (w : World) (h0 : okB n d = true) :
    Calls Try.prog 30 #[.agg #[.int .i64 n, .int .i64 d], .int .i64 2] w fun e w' => e = .returned (.tuple #[.int .i64 (rnd (n / d) (n - n / d * d) d 2), .bool true]) ∧ Below w.heap.size w w' := by
  obtain ⟨k1, k2, k3, k4⟩ := okB_bds h0
  have i0 : inB 2 1 4 = true := by decide
  have hf : floorF n d = n / d := by simp [floorF, h0]
  obtain ⟨l1, l2⟩ := ediv_bd (d := d) k3 k4
  obtain ⟨r1, r2⟩ := rest_bd (n := n) k1
  generalize hq : n / d = q at *
  have HQ := Lib.hid hq
  have HF := Lib.hid hf
  clear hq hf
  go_enter Try.func30, Try.ntmps30
  go_wp2_with fail
  refine (specFracOk_c _ _ _).mono ?_
  rintro e w1 ⟨rfl, b1⟩
  have A1 : Box2 w1 w.heap.size (.int .i64 n) (.int .i64 d) := Box2.later b1 ⟨by go_simp, by go_simp, by go_simp, by go_simp⟩
  obtain ⟨a10, a11, a12, a13⟩ := id A1
  go_wp2_with fail
  refine (l01In_c _ _ _ _).mono ?_
  rintro e w2 ⟨rfl, rfl⟩
  go_wp2_with fail
  refine (specFloor_c _ _ _).mono ?_
  rintro e w2 ⟨rfl, b2⟩
  rw [HF.out]
  obtain ⟨a20, a21, a22, a23⟩ := Box2.later b2 A1
  clear A1 a10 a11 a12 a13
  rcases Int.lt_or_le 0 (n - q * d) with u | u
  · go_wp2
    go_ret2
    exact ⟨ret_pair (by exact (show rnd q (n - q * d) d 2 = q + 1 by unfold rnd; rw [if_pos rfl, if_pos u]).symm), andThen (andThen (andAlloc (Below.refl _ _) _) b1) b2⟩
  · go_wp2
    go_ret2
    exact ⟨ret_pair (by exact (show rnd q (n - q * d) d 2 = q by unfold rnd; rw [if_pos rfl, if_neg (by omega)]).symm), andThen (andThen (andAlloc (Below.refl _ _) _) b1) b2⟩

set_option maxHeartbeats 1000000 in
theorem specRound_m3 (n d : Int) (w : World) (h0 : okB n d = true) :
    Calls Try.prog 30 #[.agg #[.int .i64 n, .int .i64 d], .int .i64 3] w fun e w' => e = .returned (.tuple #[.int .i64 (rnd (n / d) (n - n / d * d) d 3), .bool true]) ∧ Below w.heap.size w w' := by
  obtain ⟨k1, k2, k3, k4⟩ := okB_bds h0
  have i0 : inB 3 1 4 = true := by decide
  have hf : floorF n d = n / d := by simp [floorF, h0]
  obtain ⟨l1, l2⟩ := ediv_bd (d := d) k3 k4
  obtain ⟨r1, r2⟩ := rest_bd (n := n) k1
  generalize hq : n / d = q at *
  have HQ := Lib.hid hq
  have HF := Lib.hid hf
  clear hq hf
  go_enter Try.func30, Try.ntmps30
  go_wp2_with fail
  refine (specFracOk_c _ _ _).mono ?_
  rintro e w1 ⟨rfl, b1⟩
  have A1 : Box2 w1 w.heap.size (.int .i64 n) (.int .i64 d) := Box2.later b1 ⟨by go_simp, by go_simp, by go_simp, by go_simp⟩
  obtain ⟨a10, a11, a12, a13⟩ := id A1
  go_wp2_with fail
  refine (l01In_c _ _ _ _).mono ?_
  rintro e w2 ⟨rfl, rfl⟩
  go_wp2_with fail
  refine (specFloor_c _ _ _).mono ?_
  rintro e w2 ⟨rfl, b2⟩
  rw [HF.out]
  obtain ⟨a20, a21, a22, a23⟩ := Box2.later b2 A1
  clear A1 a10 a11 a12 a13
  rcases Int.lt_or_le (2 * (n - q * d)) d with u | u
  · go_wp2
    go_ret2
    exact ⟨ret_pair (by exact (show rnd q (n - q * d) d 3 = q by unfold rnd; rw [if_neg (by decide), if_pos rfl, if_neg (by omega)]).symm), andThen (andThen (andAlloc (Below.refl _ _) _) b1) b2⟩
  · go_wp2
    go_ret2
    exact ⟨ret_pair (by exact (show rnd q (n - q * d) d 3 = q + 1 by unfold rnd; rw [if_neg (by decide), if_pos rfl, if_pos u]).symm), andThen (andThen (andAlloc (Below.refl _ _) _) b1) b2⟩

set_option maxHeartbeats 1000000 in
theorem specRound_m4 (n d : Int) (w : World) (h0 : okB n d = true) :
    Calls Try.prog 30 #[.agg #[.int .i64 n, .int .i64 d], .int .i64 4] w fun e w' => e = .returned (.tuple #[.int .i64 (rnd (n / d) (n - n / d * d) d 4), .bool true]) ∧ Below w.heap.size w w' := by
  obtain ⟨k1, k2, k3, k4⟩ := okB_bds h0
  have i0 : inB 4 1 4 = true := by decide
  have hf : floorF n d = n / d := by simp [floorF, h0]
  obtain ⟨l1, l2⟩ := ediv_bd (d := d) k3 k4
  obtain ⟨r1, r2⟩ := rest_bd (n := n) k1
  generalize hq : n / d = q at *
  have HQ := Lib.hid hq
  have HF := Lib.hid hf
  clear hq hf
  go_enter Try.func30, Try.ntmps30
  go_wp2_with fail
  refine (specFracOk_c _ _ _).mono ?_
  rintro e w1 ⟨rfl, b1⟩
  have A1 : Box2 w1 w.heap.size (.int .i64 n) (.int .i64 d) := Box2.later b1 ⟨by go_simp, by go_simp, by go_simp, by go_simp⟩
  obtain ⟨a10, a11, a12, a13⟩ := id A1
  go_wp2_with fail
  refine (l01In_c _ _ _ _).mono ?_
  rintro e w2 ⟨rfl, rfl⟩
  go_wp2_with fail
  refine (specFloor_c _ _ _).mono ?_
  rintro e w2 ⟨rfl, b2⟩
  rw [HF.out]
  obtain ⟨a20, a21, a22, a23⟩ := Box2.later b2 A1
  clear A1 a10 a11 a12 a13
  have ea := and_one q
  rcases Int.lt_trichotomy (2 * (n - q * d)) d with u | u | u
  · have e1 : (2 * (n - q * d) == d) = false := beq_eq_false_iff_ne.2 (by omega)
    have e2 : decide (d < 2 * (n - q * d)) = false := decide_eq_false (by omega)
    go_wp2
    go_ret2
    exact ⟨ret_pair (by exact (show rnd q (n - q * d) d 4 = q by unfold rnd; rw [if_neg (by decide), if_neg (by decide), if_pos rfl, if_neg (by omega)]).symm), andThen (andThen (andAlloc (Below.refl _ _) _) b1) b2⟩
  · have e1 : (2 * (n - q * d) == d) = true := beq_iff_eq.2 u
    have U := Lib.hid u
    have e2 : decide (d < 2 * (n - q * d)) = false := decide_eq_false (by omega)
    clear u
    by_cases v : q % 2 = 1
    · have e3 : (q % 2 == 1) = true := beq_iff_eq.2 v
      have V := Lib.hid v
      clear v
      go_wp2
      go_ret2
      exact ⟨ret_pair (by exact (show rnd q (n - q * d) d 4 = q + 1 by unfold rnd; rw [if_neg (by decide), if_neg (by decide), if_pos rfl, if_pos (Or.inr ⟨U.out, V.out⟩)]).symm), andThen (andThen (andAlloc (Below.refl _ _) _) b1) b2⟩
    · have e3 : (q % 2 == 1) = false := beq_eq_false_iff_ne.2 v
      have V := Lib.hid v
      clear v
      go_wp2
      go_ret2
      exact ⟨ret_pair (by exact (show rnd q (n - q * d) d 4 = q by unfold rnd; rw [if_neg (by decide), if_neg (by decide), if_pos rfl, if_neg (by have h1 := U.out; have h2 := V.out; omega)]).symm), andThen (andThen (andAlloc (Below.refl _ _) _) b1) b2⟩
  · have e1 : (2 * (n - q * d) == d) = false := beq_eq_false_iff_ne.2 (by omega)
    go_wp2
    go_ret2
    exact ⟨ret_pair (by exact (show rnd q (n - q * d) d 4 = q + 1 by unfold rnd; rw [if_neg (by decide), if_neg (by decide), if_pos rfl, if_pos (Or.inl u)]).symm), andThen (andThen (andAlloc (Below.refl _ _) _) b1) b2⟩

set_option maxHeartbeats 1000000 in
theorem specRound_c (n d m : Int) (w : World) :
    Calls Try.prog 30 #[.agg #[.int .i64 n, .int .i64 d], .int .i64 m] w fun e w' => e = .returned (.tuple #[.int .i64 (roundF n d m).1, .bool (roundF n d m).2]) ∧ Below w.heap.size w w' := by
  cases h0 : okB n d
  case false =>
    have hr : Hid (roundF n d m = (0, false)) := by show roundF n d m = _; simp [roundF, h0]
    go_enter Try.func30, Try.ntmps30
    go_wp2_with fail
    refine (specFracOk_c _ _ _).mono ?_
    rintro e w1 ⟨rfl, b1⟩
    go_wp2_with fail
    go_ret2
    exact ⟨by rw [hr.out]; rfl, andThen (andAlloc (Below.refl _ _) _) b1⟩
  case true =>
    cases h1 : inB m 1 4
    case false =>
      have hr : Hid (roundF n d m = (0, false)) := by show roundF n d m = _; simp [roundF, h1]
      go_enter Try.func30, Try.ntmps30
      go_wp2_with fail
      refine (specFracOk_c _ _ _).mono ?_
      rintro e w1 ⟨rfl, b1⟩
      go_wp2_with fail
      refine (l01In_c _ _ _ _).mono ?_
      rintro e w2 ⟨rfl, rfl⟩
      go_wp2_with fail
      go_ret2
      exact ⟨by rw [hr.out]; rfl, andThen (andAlloc (Below.refl _ _) _) b1⟩
    case true =>
      have hr : roundF n d m = (rnd (n / d) (n - n / d * d) d m, true) := by simp [roundF, h0, h1]
      rw [hr]
      have h2 := inB_iff.1 h1
      rcases (show m = 1 ∨ m = 2 ∨ m = 3 ∨ m = 4 by omega) with rfl | rfl | rfl | rfl
      · exact specRound_m1 n d w h0
      · exact specRound_m2 n d w h0
      · exact specRound_m3 n d w h0
      · exact specRound_m4 n d w h0

set_option maxHeartbeats 1000000 in
theorem walk_FnExactFloorFrac (n d : Int) {q : Prop} (_ : q) (w : World) :
    Calls Try.prog 4 #[.agg #[.int .i64 n, .int .i64 d]] w fun e w' => e = .returned (.bool true) ∧ Below w.heap.size w w' := by
  go_enter Try.func4, Try.ntmps4
  go_wp2_with fail
  refine (toFrac_c _ _ _).mono ?_
  rintro e w1 ⟨rfl, b1⟩
  have A1 : Box2 w1 w.heap.size (.int .i64 n) (.int .i64 d) := Box2.later b1 ⟨by go_simp, by go_simp, by go_simp, by go_simp⟩
  go_wp2_with fail
  refine (specFloor_c _ _ _).mono ?_
  rintro e w2 ⟨rfl, b2⟩
  obtain ⟨a20, a21, a22, a23⟩ := Box2.later b2 A1
  go_wp2_with fail
  refine (toFrac_c _ _ _).mono ?_
  rintro e w3 ⟨rfl, b3⟩
  go_wp2_with fail
  refine (implFloor_c _ _ _).mono ?_
  rintro e w4 ⟨rfl, b4⟩
  go_wp2_with fail
  go_ret
  exact ⟨rfl, andThen (andThen (andThen (andThen (andAlloc (Below.refl _ _) _) b1) b2) b3) b4⟩

set_option maxHeartbeats 1000000 in
theorem walk_FnExactRoundFrac (n d : Int) {q : Prop} (_ : q) (m : Int) {q1 : Prop} (_ : q1) (w : World) :
    Calls Try.prog 10 #[.agg #[.int .i64 n, .int .i64 d], .int .i64 m] w fun e w' => e = .returned (.bool true) ∧ Below w.heap.size w w' := by
  go_enter Try.func10, Try.ntmps10
  go_wp2_with fail
  refine (toFrac_c _ _ _).mono ?_
  rintro e w1 ⟨rfl, b1⟩
  have A1 : Box2 w1 w.heap.size (.int .i64 n) (.int .i64 d) := Box2.later b1 ⟨by go_simp, by go_simp, by go_simp, by go_simp⟩
  go_wp2_with fail
  refine (specRound_c _ _ _ _).mono ?_
  rintro e w2 ⟨rfl, b2⟩
  obtain ⟨a20, a21, a22, a23⟩ := Box2.later b2 A1
  go_wp2_with fail
  refine (toFrac_c _ _ _).mono ?_
  rintro e w3 ⟨rfl, b3⟩
  go_wp2_with fail
  refine (implRound_c _ _ _ _).mono ?_
  rintro e w4 ⟨rfl, b4⟩
  go_wp2_with fail
  go_ret
  exact ⟨rfl, andThen (andThen (andThen (andThen (andAlloc (Below.refl _ _) _) b1) b2) b3) b4⟩

end Go.Proofs.Ytlkkbekfkgliaaa
