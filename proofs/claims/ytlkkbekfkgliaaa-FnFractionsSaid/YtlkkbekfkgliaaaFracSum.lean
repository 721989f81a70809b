/-
  The operations of both packages on two fractions compute plain functions. Conditions: none.
-/
import Derived.Test.YtlkkbekfkgliaaaFracOps
import Derived.Test.YtlkkbekfkgliaaaBox
import Derived.Deep.RegionHeld3
namespace Go.Proofs.Ytlkkbekfkgliaaa
open Go.RowKit
set_option linter.unusedVariables false

theorem sum_scale (a b c d : Int) (hb : 1 ≤ b) (hd : 1 ≤ d) (s : Int) :
    red (a * (d / (Int.gcd b d : Int)) + s * (c * (b / (Int.gcd b d : Int)))) (b / (Int.gcd b d : Int) * d) = red (a * d + s * (c * b)) (b * d) := by
  have hg : (1 : Int) ≤ (Int.gcd b d : Int) := gcd_pos (by omega)
  have e1 : (Int.gcd b d : Int) * (d / (Int.gcd b d : Int)) = d := Int.mul_ediv_cancel' (Int.gcd_dvd_right ..)
  have e2 : (Int.gcd b d : Int) * (b / (Int.gcd b d : Int)) = b := Int.mul_ediv_cancel' (Int.gcd_dvd_left ..)
  generalize ((Int.gcd b d : Nat) : Int) = g at *
  have n0 : b / g ≠ 0 := by
    intro h; rw [h] at e2; omega
  rw [← red_scale (k := g) (n := a * (d / g) + s * (c * (b / g))) (d := b / g * d) (by omega) (Int.mul_ne_zero n0 (by omega))]
  congr 1
  · rw [Int.mul_add, Int.mul_left_comm, e1, Int.mul_left_comm g s, Int.mul_left_comm g c, e2]
  · rw [← Int.mul_assoc, e2]

set_option maxHeartbeats 1000000 in
theorem l02SumP_c (a b c d : Int) (w : World) :
    Calls Try.prog 41 #[.agg #[.int .i64 a, .int .i64 b], .agg #[.int .i64 c, .int .i64 d], .int .i64 (1)] w fun e w' => e = .returned (.tuple #[.agg #[.int .i64 (addF a b c d).1, .int .i64 (addF a b c d).2.1], .bool (addF a b c d).2.2]) ∧ Below w.heap.size w w' := by
  cases h1 : okB a b
  case false =>
      have hr : Hid (addF a b c d = (0, 0, false)) := by show addF a b c d = _; simp [addF, h1]
      go_enter Try.func41, Try.ntmps41
      go_wp2_with fail
      refine (specFracOk_c _ _ _).mono ?_
      rintro e w1 ⟨rfl, b1⟩
      have R1 : Box2 w1 (w.heap.size + 1 + 1) (.int .i64 0) (.int .i64 0) := Box2.later b1 ⟨by go_simp, by go_simp, by go_simp, by go_simp⟩
      obtain ⟨r0, r1, r2, r3⟩ := id R1
      go_wp2_with fail
      refine bodyPost_ret (v := .tuple #[.agg #[.int .i64 0, .int .i64 0], .bool false]) (by simp [results, Try.results41, go_sem, r0, r1]) rfl ?_
      exact ⟨by rw [hr.out], andSet (andSet (andThen (andAlloc (andAlloc (andAlloc (Below.refl _ _) _) _) _) b1) (by dsimp only; omega) _) (by dsimp only; omega) _⟩
  case true =>
    cases h2 : okB c d
    case false =>
      have hr : Hid (addF a b c d = (0, 0, false)) := by show addF a b c d = _; simp [addF, h1, h2]
      go_enter Try.func41, Try.ntmps41
      go_wp2_with fail
      refine (specFracOk_c _ _ _).mono ?_
      rintro e w1 ⟨rfl, b1⟩
      have B1 : Box2 w1 (w.heap.size + 1) (.int .i64 c) (.int .i64 d) := Box2.later b1 ⟨by go_simp, by go_simp, by go_simp, by go_simp⟩
      have R1 : Box2 w1 (w.heap.size + 1 + 1) (.int .i64 0) (.int .i64 0) := Box2.later b1 ⟨by go_simp, by go_simp, by go_simp, by go_simp⟩
      obtain ⟨p10, p11, p12, p13⟩ := id B1
      go_wp2_with fail
      refine (specFracOk_c _ _ _).mono ?_
      rintro e w2 ⟨rfl, b2⟩
      have R2 := Box2.later b2 R1
      obtain ⟨r0, r1, r2, r3⟩ := id R2
      go_wp2_with fail
      refine bodyPost_ret (v := .tuple #[.agg #[.int .i64 0, .int .i64 0], .bool false]) (by simp [results, Try.results41, go_sem, r0, r1]) rfl ?_
      exact ⟨by rw [hr.out], andSet (andSet (andThen (andThen (andAlloc (andAlloc (andAlloc (Below.refl _ _) _) _) _) b1) b2) (by dsimp only; omega) _) (by dsimp only; omega) _⟩
    case true =>
      obtain ⟨x, y, o, hx⟩ : ∃ x y o, red (a * d + c * b) (b * d) = (x, y, o) := ⟨_, _, _, rfl⟩
      have hr : Hid (addF a b c d = (x, y, o)) := by show addF a b c d = _; simp [addF, h1, h2, hx]
      obtain ⟨k1, k2, k3, k4, k5⟩ := okB_bd h1
      obtain ⟨k6, k7, k8, k9, k0⟩ := okB_bd h2
      clear k5 k0
      have HX : Hid (red (a * (d / (Int.gcd b d : Int)) + c * (b / (Int.gcd b d : Int))) (b / (Int.gcd b d : Int) * d) = (x, y, o)) := by
        show _ = _
        have := sum_scale a b c d (by omega) (by omega) (1)
        rw [← hx]
        simpa [Int.sub_eq_add_neg] using this
      clear hx
      have g1 : (1 : Int) ≤ (Int.gcd b d : Int) := gcd_pos (by omega)
      have u1 := Int.ediv_le_self (Int.gcd b d : Int) (show 0 ≤ b by omega)
      have u2 := Int.ediv_le_self (Int.gcd b d : Int) (show 0 ≤ d by omega)
      have u3 := Int.ediv_nonneg (show 0 ≤ b by omega) (show (0 : Int) ≤ (Int.gcd b d : Int) by omega)
      have u4 := Int.ediv_nonneg (show 0 ≤ d by omega) (show (0 : Int) ≤ (Int.gcd b d : Int) by omega)
      have u5 : b / (Int.gcd b d : Int) ≠ 0 := by
        intro h
        have e2 : (Int.gcd b d : Int) * (b / (Int.gcd b d : Int)) = b := Int.mul_ediv_cancel' (Int.gcd_dvd_left ..)
        rw [h] at e2; omega
      have G1 := Lib.hid g1
      clear g1
      generalize hg : ((Int.gcd b d : Nat) : Int) = g at *
      have HG := Lib.hid hg
      clear hg
      have g1 := G1.out
      obtain ⟨m1, m2⟩ := mul_bd (a := a) (d := d / g) (A := 1000000000000) (D := 1000000) k3 k4 (by omega) (by omega)
      obtain ⟨m3, m4⟩ := mul_bd (a := c) (d := b / g) (A := 1000000000000) (D := 1000000) k8 k9 (by omega) (by omega)
      obtain ⟨m5, m6⟩ := mul_bd (a := b / g) (d := d) (A := 1000000) (D := 1000000) (by omega) (by omega) (by omega) k7
      have m7 := Int.mul_pos (show 0 < b / g by omega) (show 0 < d by omega)
      go_enter Try.func41, Try.ntmps41
      go_wp2_with fail
      refine (specFracOk_c _ _ _).mono ?_
      rintro e w1 ⟨rfl, b1⟩
      have A1 : Box2 w1 w.heap.size (.int .i64 a) (.int .i64 b) := Box2.later b1 ⟨by go_simp, by go_simp, by go_simp, by go_simp⟩
      have B1 : Box2 w1 (w.heap.size + 1) (.int .i64 c) (.int .i64 d) := Box2.later b1 ⟨by go_simp, by go_simp, by go_simp, by go_simp⟩
      have R1 : Box2 w1 (w.heap.size + 1 + 1) (.int .i64 0) (.int .i64 0) := Box2.later b1 ⟨by go_simp, by go_simp, by go_simp, by go_simp⟩
      obtain ⟨p10, p11, p12, p13⟩ := id B1
      go_wp2_with fail
      refine (specFracOk_c _ _ _).mono ?_
      rintro e w2 ⟨rfl, b2⟩
      have R2 := Box2.later b2 R1
      obtain ⟨a20, a21, a22, a23⟩ := Box2.later b2 A1
      obtain ⟨p20, p21, p22, p23⟩ := Box2.later b2 B1
      go_wp2_with fail
      refine (l02Gcd_c _ _ _ (by omega) (by omega) (by omega) (by omega)).mono ?_
      rintro e w3 ⟨rfl, hq⟩
      have b3 := hq.below w2.heap.size
      clear hq
      rw [HG.out]
      obtain ⟨a30, a31, a32, a33⟩ := Box2.later b3 ⟨a20, a21, a22, a23⟩
      obtain ⟨p30, p31, p32, p33⟩ := Box2.later b3 ⟨p20, p21, p22, p23⟩
      have R3 := Box2.later b3 R2
      clear a20 a21 a22 a23 p20 p21 p22 p23 p10 p11 p12 p13
      have t1 : d.tdiv g = d / g := Int.tdiv_eq_ediv_of_nonneg (by omega)
      have t2 : b.tdiv g = b / g := Int.tdiv_eq_ediv_of_nonneg (by omega)
      have i0 : (g == 0) = false := beq_eq_false_iff_ne.2 (by omega)
      have i1 : IntKind.i64.wrap (d.tdiv g) = d / g := by rw [t1]; exact IntWalk.i64_in _ ⟨by omega, by omega⟩
      have i2 : IntKind.i64.wrap (b.tdiv g) = b / g := by rw [t2]; exact IntWalk.i64_in _ ⟨by omega, by omega⟩
      have i3 : IntKind.i64.wrap (a * (d / g)) = a * (d / g) := IntWalk.i64_in _ ⟨by omega, by omega⟩
      have i4 : IntKind.i64.wrap c = c := IntWalk.i64_in _ ⟨by omega, by omega⟩
      have i5 : IntKind.i64.wrap (c * (b / g)) = c * (b / g) := IntWalk.i64_in _ ⟨by omega, by omega⟩
      have i6 : IntKind.i64.wrap (a * (d / g) + c * (b / g)) = a * (d / g) + c * (b / g) := IntWalk.i64_in _ ⟨by omega, by omega⟩
      have i7 : IntKind.i64.wrap (b / g * d) = b / g * d := IntWalk.i64_in _ ⟨by omega, by omega⟩
      have i9 : ¬ g = 0 := by omega
      clear t1 t2
      go_wp2_with fail
      go_region_held3 (fun w' => w'.cell? ⟨w.heap.size, 0, none⟩ = some (.int .i64 a) ∧ w'.cell? ⟨w.heap.size, 1, none⟩ = some (.int .i64 b) ∧ w'.cell? ⟨w.heap.size + 1, 0, none⟩ = some (.int .i64 c) ∧ w'.cell? ⟨w.heap.size + 1, 1, none⟩ = some (.int .i64 d))
        (first | exact ⟨s0, s1, s2, s3⟩ | exact ⟨(World.cell?_setCell_far _ _ _ _ (by dsimp only; omega)).trans ((World.cell?_setCell_far _ _ _ _ (by dsimp only; omega)).trans s0), (World.cell?_setCell_far _ _ _ _ (by dsimp only; omega)).trans ((World.cell?_setCell_far _ _ _ _ (by dsimp only; omega)).trans s1), (World.cell?_setCell_far _ _ _ _ (by dsimp only; omega)).trans ((World.cell?_setCell_far _ _ _ _ (by dsimp only; omega)).trans s2), (World.cell?_setCell_far _ _ _ _ (by dsimp only; omega)).trans ((World.cell?_setCell_far _ _ _ _ (by dsimp only; omega)).trans s3)⟩ | go_keep)
        ((go_at_call 36; refine (l02Make_c _ _ _ (by omega) (by omega) (by omega)).mono ?_; rintro e w4 ⟨rfl, b4⟩; rw [HX.out]; obtain ⟨r0, r1, r2, r3⟩ := Box2.later b4 (by exact R3); have s0 := keep_cell b4 (by exact a30); have s1 := keep_cell b4 (by exact a31); have s2 := keep_cell b4 (by exact p30); have s3 := keep_cell b4 (by exact p31)))
      go_wp2_with fail
      refine bodyPost_ret (v := .tuple #[.agg #[.int .i64 x, .int .i64 y], .bool o]) (by simp [results, Try.results41, go_sem, r0, r1]) rfl ?_
      exact ⟨by rw [hr.out], andSet (andSet (andThen (andDrewN (andThen (andThen (andThen (andAlloc (andAlloc (andAlloc (Below.refl _ _) _) _) _) b1) b2) b3) _) b4) (by dsimp only; omega) _) (by dsimp only; omega) _⟩

set_option maxHeartbeats 1000000 in
theorem l02SumM_c (a b c d : Int) (w : World) :
    Calls Try.prog 41 #[.agg #[.int .i64 a, .int .i64 b], .agg #[.int .i64 c, .int .i64 d], .int .i64 (-1)] w fun e w' => e = .returned (.tuple #[.agg #[.int .i64 (subF a b c d).1, .int .i64 (subF a b c d).2.1], .bool (subF a b c d).2.2]) ∧ Below w.heap.size w w' := by
  cases h1 : okB a b
  case false =>
      have hr : Hid (subF a b c d = (0, 0, false)) := by show subF a b c d = _; simp [subF, h1]
      go_enter Try.func41, Try.ntmps41
      go_wp2_with fail
      refine (specFracOk_c _ _ _).mono ?_
      rintro e w1 ⟨rfl, b1⟩
      have R1 : Box2 w1 (w.heap.size + 1 + 1) (.int .i64 0) (.int .i64 0) := Box2.later b1 ⟨by go_simp, by go_simp, by go_simp, by go_simp⟩
      obtain ⟨r0, r1, r2, r3⟩ := id R1
      go_wp2_with fail
      refine bodyPost_ret (v := .tuple #[.agg #[.int .i64 0, .int .i64 0], .bool false]) (by simp [results, Try.results41, go_sem, r0, r1]) rfl ?_
      exact ⟨by rw [hr.out], andSet (andSet (andThen (andAlloc (andAlloc (andAlloc (Below.refl _ _) _) _) _) b1) (by dsimp only; omega) _) (by dsimp only; omega) _⟩
  case true =>
    cases h2 : okB c d
    case false =>
      have hr : Hid (subF a b c d = (0, 0, false)) := by show subF a b c d = _; simp [subF, h1, h2]
      go_enter Try.func41, Try.ntmps41
      go_wp2_with fail
      refine (specFracOk_c _ _ _).mono ?_
      rintro e w1 ⟨rfl, b1⟩
      have B1 : Box2 w1 (w.heap.size + 1) (.int .i64 c) (.int .i64 d) := Box2.later b1 ⟨by go_simp, by go_simp, by go_simp, by go_simp⟩
      have R1 : Box2 w1 (w.heap.size + 1 + 1) (.int .i64 0) (.int .i64 0) := Box2.later b1 ⟨by go_simp, by go_simp, by go_simp, by go_simp⟩
      obtain ⟨p10, p11, p12, p13⟩ := id B1
      go_wp2_with fail
      refine (specFracOk_c _ _ _).mono ?_
      rintro e w2 ⟨rfl, b2⟩
      have R2 := Box2.later b2 R1
      obtain ⟨r0, r1, r2, r3⟩ := id R2
      go_wp2_with fail
      refine bodyPost_ret (v := .tuple #[.agg #[.int .i64 0, .int .i64 0], .bool false]) (by simp [results, Try.results41, go_sem, r0, r1]) rfl ?_
      exact ⟨by rw [hr.out], andSet (andSet (andThen (andThen (andAlloc (andAlloc (andAlloc (Below.refl _ _) _) _) _) b1) b2) (by dsimp only; omega) _) (by dsimp only; omega) _⟩
    case true =>
      obtain ⟨x, y, o, hx⟩ : ∃ x y o, red (a * d - c * b) (b * d) = (x, y, o) := ⟨_, _, _, rfl⟩
      have hr : Hid (subF a b c d = (x, y, o)) := by show subF a b c d = _; simp [subF, h1, h2, hx]
      obtain ⟨k1, k2, k3, k4, k5⟩ := okB_bd h1
      obtain ⟨k6, k7, k8, k9, k0⟩ := okB_bd h2
      clear k5 k0
      have HX : Hid (red (a * (d / (Int.gcd b d : Int)) - c * (b / (Int.gcd b d : Int))) (b / (Int.gcd b d : Int) * d) = (x, y, o)) := by
        show _ = _
        have := sum_scale a b c d (by omega) (by omega) (-1)
        rw [← hx]
        simpa [Int.sub_eq_add_neg] using this
      clear hx
      have g1 : (1 : Int) ≤ (Int.gcd b d : Int) := gcd_pos (by omega)
      have u1 := Int.ediv_le_self (Int.gcd b d : Int) (show 0 ≤ b by omega)
      have u2 := Int.ediv_le_self (Int.gcd b d : Int) (show 0 ≤ d by omega)
      have u3 := Int.ediv_nonneg (show 0 ≤ b by omega) (show (0 : Int) ≤ (Int.gcd b d : Int) by omega)
      have u4 := Int.ediv_nonneg (show 0 ≤ d by omega) (show (0 : Int) ≤ (Int.gcd b d : Int) by omega)
      have u5 : b / (Int.gcd b d : Int) ≠ 0 := by
        intro h
        have e2 : (Int.gcd b d : Int) * (b / (Int.gcd b d : Int)) = b := Int.mul_ediv_cancel' (Int.gcd_dvd_left ..)
        rw [h] at e2; omega
      have G1 := Lib.hid g1
      clear g1
      generalize hg : ((Int.gcd b d : Nat) : Int) = g at *
      have HG := Lib.hid hg
      clear hg
      have g1 := G1.out
      obtain ⟨m1, m2⟩ := mul_bd (a := a) (d := d / g) (A := 1000000000000) (D := 1000000) k3 k4 (by omega) (by omega)
      obtain ⟨m3, m4⟩ := mul_bd (a := c) (d := b / g) (A := 1000000000000) (D := 1000000) k8 k9 (by omega) (by omega)
      obtain ⟨m5, m6⟩ := mul_bd (a := b / g) (d := d) (A := 1000000) (D := 1000000) (by omega) (by omega) (by omega) k7
      have m7 := Int.mul_pos (show 0 < b / g by omega) (show 0 < d by omega)
      go_enter Try.func41, Try.ntmps41
      go_wp2_with fail
      refine (specFracOk_c _ _ _).mono ?_
      rintro e w1 ⟨rfl, b1⟩
      have A1 : Box2 w1 w.heap.size (.int .i64 a) (.int .i64 b) := Box2.later b1 ⟨by go_simp, by go_simp, by go_simp, by go_simp⟩
      have B1 : Box2 w1 (w.heap.size + 1) (.int .i64 c) (.int .i64 d) := Box2.later b1 ⟨by go_simp, by go_simp, by go_simp, by go_simp⟩
      have R1 : Box2 w1 (w.heap.size + 1 + 1) (.int .i64 0) (.int .i64 0) := Box2.later b1 ⟨by go_simp, by go_simp, by go_simp, by go_simp⟩
      obtain ⟨p10, p11, p12, p13⟩ := id B1
      go_wp2_with fail
      refine (specFracOk_c _ _ _).mono ?_
      rintro e w2 ⟨rfl, b2⟩
      have R2 := Box2.later b2 R1
      obtain ⟨a20, a21, a22, a23⟩ := Box2.later b2 A1
      obtain ⟨p20, p21, p22, p23⟩ := Box2.later b2 B1
      go_wp2_with fail
      refine (l02Gcd_c _ _ _ (by omega) (by omega) (by omega) (by omega)).mono ?_
      rintro e w3 ⟨rfl, hq⟩
      have b3 := hq.below w2.heap.size
      clear hq
      rw [HG.out]
      obtain ⟨a30, a31, a32, a33⟩ := Box2.later b3 ⟨a20, a21, a22, a23⟩
      obtain ⟨p30, p31, p32, p33⟩ := Box2.later b3 ⟨p20, p21, p22, p23⟩
      have R3 := Box2.later b3 R2
      clear a20 a21 a22 a23 p20 p21 p22 p23 p10 p11 p12 p13
      have t1 : d.tdiv g = d / g := Int.tdiv_eq_ediv_of_nonneg (by omega)
      have t2 : b.tdiv g = b / g := Int.tdiv_eq_ediv_of_nonneg (by omega)
      have i0 : (g == 0) = false := beq_eq_false_iff_ne.2 (by omega)
      have i1 : IntKind.i64.wrap (d.tdiv g) = d / g := by rw [t1]; exact IntWalk.i64_in _ ⟨by omega, by omega⟩
      have i2 : IntKind.i64.wrap (b.tdiv g) = b / g := by rw [t2]; exact IntWalk.i64_in _ ⟨by omega, by omega⟩
      have i3 : IntKind.i64.wrap (a * (d / g)) = a * (d / g) := IntWalk.i64_in _ ⟨by omega, by omega⟩
      have i10 : -c * (b / g) = -(c * (b / g)) := Int.neg_mul ..
      have i4 : IntKind.i64.wrap (-c) = -c := IntWalk.i64_in _ ⟨by omega, by omega⟩
      have i5 : IntKind.i64.wrap (-(c * (b / g))) = -(c * (b / g)) := IntWalk.i64_in _ ⟨by omega, by omega⟩
      have i6 : IntKind.i64.wrap (a * (d / g) + -(c * (b / g))) = a * (d / g) - c * (b / g) := (IntWalk.i64_in _ ⟨by omega, by omega⟩).trans (by omega)
      have i8 : IntKind.i64.wrap (a * (d / g) - c * (b / g)) = a * (d / g) - c * (b / g) := IntWalk.i64_in _ ⟨by omega, by omega⟩
      have i7 : IntKind.i64.wrap (b / g * d) = b / g * d := IntWalk.i64_in _ ⟨by omega, by omega⟩
      have i9 : ¬ g = 0 := by omega
      clear t1 t2
      go_wp2_with fail
      go_region_held3 (fun w' => w'.cell? ⟨w.heap.size, 0, none⟩ = some (.int .i64 a) ∧ w'.cell? ⟨w.heap.size, 1, none⟩ = some (.int .i64 b) ∧ w'.cell? ⟨w.heap.size + 1, 0, none⟩ = some (.int .i64 c) ∧ w'.cell? ⟨w.heap.size + 1, 1, none⟩ = some (.int .i64 d))
        (first | exact ⟨s0, s1, s2, s3⟩ | exact ⟨(World.cell?_setCell_far _ _ _ _ (by dsimp only; omega)).trans ((World.cell?_setCell_far _ _ _ _ (by dsimp only; omega)).trans s0), (World.cell?_setCell_far _ _ _ _ (by dsimp only; omega)).trans ((World.cell?_setCell_far _ _ _ _ (by dsimp only; omega)).trans s1), (World.cell?_setCell_far _ _ _ _ (by dsimp only; omega)).trans ((World.cell?_setCell_far _ _ _ _ (by dsimp only; omega)).trans s2), (World.cell?_setCell_far _ _ _ _ (by dsimp only; omega)).trans ((World.cell?_setCell_far _ _ _ _ (by dsimp only; omega)).trans s3)⟩ | go_keep)
        ((go_at_call 36; refine (l02Make_c _ _ _ (by omega) (by omega) (by omega)).mono ?_; rintro e w4 ⟨rfl, b4⟩; rw [HX.out]; obtain ⟨r0, r1, r2, r3⟩ := Box2.later b4 (by exact R3); have s0 := keep_cell b4 (by exact a30); have s1 := keep_cell b4 (by exact a31); have s2 := keep_cell b4 (by exact p30); have s3 := keep_cell b4 (by exact p31)))
      go_wp2_with fail
      refine bodyPost_ret (v := .tuple #[.agg #[.int .i64 x, .int .i64 y], .bool o]) (by simp [results, Try.results41, go_sem, r0, r1]) rfl ?_
      exact ⟨by rw [hr.out], andSet (andSet (andThen (andDrewN (andThen (andThen (andThen (andAlloc (andAlloc (andAlloc (Below.refl _ _) _) _) _) b1) b2) b3) _) b4) (by dsimp only; omega) _) (by dsimp only; omega) _⟩

end Go.Proofs.Ytlkkbekfkgliaaa
