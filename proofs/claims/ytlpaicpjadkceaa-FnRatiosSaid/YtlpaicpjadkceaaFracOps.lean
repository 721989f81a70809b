/-
  The operations on fractions of both packages compute plain functions. Conditions: none.
-/
import Derived.Test.YtlpaicpjadkceaaRed
namespace Go.Proofs.Ytlpaicpjadkceaa
open Go.RowKit
set_option linter.unusedVariables false

theorem red1_scale {k n d : Int} (hk : 0 < k) (hd : 0 < d) : red1 (k * n) (k * d) = red1 n d := by
  have hg : ((Int.gcd (k * n) (k * d) : Nat) : Int) = k * (Int.gcd n d : Int) := by
    rw [Int.gcd_mul_left]; push_cast; rw [Int.natAbs_of_nonneg (by omega)]
  unfold red1
  rw [hg, Int.mul_ediv_mul_of_pos _ _ hk, Int.mul_ediv_mul_of_pos _ _ hk]

theorem red_scale {k n d : Int} (hk : 0 < k) (hd : d ≠ 0) : red (k * n) (k * d) = red n d := by
  unfold red
  by_cases h : d < 0
  · rw [if_pos h, if_pos (Int.mul_neg_of_pos_of_neg hk h), ← Int.mul_neg, ← Int.mul_neg, red1_scale hk (by omega)]
  · rw [if_neg h, if_neg (by have := Int.mul_pos hk (show 0 < d by omega); omega), red1_scale hk (by omega)]

def newF (n d : Int) : Int × Int × Bool :=
  if !(d == 0) && inB n (-1000000000000) 1000000000000 && inB d (-1000000000000) 1000000000000 then red n d else (0, 0, false)
def addF (a b c d : Int) : Int × Int × Bool := if okB a b && okB c d then red (a * d + c * b) (b * d) else (0, 0, false)
def subF (a b c d : Int) : Int × Int × Bool := if okB a b && okB c d then red (a * d - c * b) (b * d) else (0, 0, false)
def smallB (n d : Int) : Bool := okB n d && inB n (-1000000) 1000000
def mulF (a b c d : Int) : Int × Int × Bool := if smallB a b && smallB c d then red (a * c) (b * d) else (0, 0, false)
def divF (a b c d : Int) : Int × Int × Bool := if smallB a b && smallB c d && !(c == 0) then red (a * d) (b * c) else (0, 0, false)
def cmpF (a b c d : Int) : Int := if okB a b && okB c d then (if a * d < c * b then -1 else if c * b < a * d then 1 else 0) else 2

theorem okB_bd {n d : Int} (h : okB n d = true) : 1 ≤ d ∧ d ≤ 1000000 ∧ -1000000000000 ≤ n ∧ n ≤ 1000000000000 ∧ Int.gcd n d = 1 := by
  simp only [okB, inB, Bool.and_eq_true, decide_eq_true_eq] at h
  omega

theorem mul_bd {a d A D : Int} (ha : -A ≤ a) (ha' : a ≤ A) (hd : -D ≤ d) (hd' : d ≤ D) : -(A * D) ≤ a * d ∧ a * d ≤ A * D := by
  have hA : 0 ≤ A := by omega
  have hD : 0 ≤ D := by omega
  have h1 : (a * d).natAbs ≤ (A * D).natAbs := by
    rw [Int.natAbs_mul, Int.natAbs_mul]; exact Nat.mul_le_mul (by omega) (by omega)
  have h2 : 0 ≤ A * D := Int.mul_nonneg hA hD
  omega

set_option maxHeartbeats 400000 in
theorem implFracNew_c (n d : Int) (w : World) :
    Calls Try.prog 69 #[.int .i64 n, .int .i64 d] w fun e w' => e = .returned (.tuple #[.agg #[.int .i64 (newF n d).1, .int .i64 (newF n d).2.1], .bool (newF n d).2.2]) ∧ Below w.heap.size w w' := by
  cases h0 : (d == 0) <;> cases h1 : inB n (-1000000000000) 1000000000000 <;> cases h2 : inB d (-1000000000000) 1000000000000
  case false.true.true =>
    obtain ⟨x, y, o, hx⟩ : ∃ x y o, red n d = (x, y, o) := ⟨_, _, _, rfl⟩
    have hr : Hid (newF n d = (x, y, o)) := by show newF n d = _; simp [newF, h0, h1, h2, hx]
    have HX := Lib.hid hx
    clear hx
    obtain ⟨p1, p2⟩ := inB_iff.1 h1
    obtain ⟨p3, p4⟩ := inB_iff.1 h2
    go_enter Try.func69, Try.ntmps69
    go_wp2_with (go_at_call 60; refine (within_c _ _ _ _).mono ?_; rintro e w' ⟨rfl, rfl⟩)
    refine (reduced_c _ _ _ (by omega) (by omega) (by simpa using h0)).mono ?_
    rintro e w1 ⟨rfl, b1⟩
    rw [HX.out]
    obtain ⟨c1, f1⟩ := bcell b1
    have q0 : w1.cell? ⟨w.heap.size, 0, none⟩ = some (.int .i64 0) := cell_later b1 (by go_simp)
    have q1 : w1.cell? ⟨w.heap.size, 1, none⟩ = some (.int .i64 0) := cell_later b1 (by go_simp)
    go_wp2_with fail
    refine bodyPost_ret (v := .tuple #[.agg #[.int .i64 x, .int .i64 y], .bool o]) (by simp [results, Try.results69, go_sem, q0, q1]) rfl ?_
    exact ⟨by rw [hr.out], andSet (andSet (andThen (andAlloc (Below.refl _ _) _) b1) (by simp) _) (by simp) _⟩
  all_goals
    have hr : Hid (newF n d = (0, 0, false)) := by show newF n d = _; simp [newF, h0, h1, h2]
    go_enter Try.func69, Try.ntmps69
    go_wp2_with (go_at_call 60; refine (within_c _ _ _ _).mono ?_; rintro e w' ⟨rfl, rfl⟩)
    go_returns
    exact ⟨by rw [hr.out], by go_grown⟩

set_option maxHeartbeats 400000 in
theorem specFracNew_c (n d : Int) (w : World) :
    Calls Try.prog 68 #[.int .i64 n, .int .i64 d] w fun e w' => e = .returned (.tuple #[.agg #[.int .i64 (newF n d).1, .int .i64 (newF n d).2.1], .bool (newF n d).2.2]) ∧ Below w.heap.size w w' := by
  cases h0 : (d == 0) <;> cases h1 : inB n (-1000000000000) 1000000000000 <;> cases h2 : inB d (-1000000000000) 1000000000000
  case false.true.true =>
    obtain ⟨x, y, o, hx⟩ : ∃ x y o, red n d = (x, y, o) := ⟨_, _, _, rfl⟩
    have hr : Hid (newF n d = (x, y, o)) := by show newF n d = _; simp [newF, h0, h1, h2, hx]
    have HX := Lib.hid hx
    clear hx
    obtain ⟨p1, p2⟩ := inB_iff.1 h1
    obtain ⟨p3, p4⟩ := inB_iff.1 h2
    go_enter Try.func68, Try.ntmps68
    go_wp2_with (go_at_call 58; refine (l01In_c _ _ _ _).mono ?_; rintro e w' ⟨rfl, rfl⟩)
    refine (l02Make_c _ _ _ (by omega) (by omega) (by simpa using h0)).mono ?_
    rintro e w1 ⟨rfl, b1⟩
    rw [HX.out]
    obtain ⟨c1, f1⟩ := bcell b1
    have q0 : w1.cell? ⟨w.heap.size, 0, none⟩ = some (.int .i64 0) := cell_later b1 (by go_simp)
    have q1 : w1.cell? ⟨w.heap.size, 1, none⟩ = some (.int .i64 0) := cell_later b1 (by go_simp)
    go_wp2_with fail
    refine bodyPost_ret (v := .tuple #[.agg #[.int .i64 x, .int .i64 y], .bool o]) (by simp [results, Try.results68, go_sem, q0, q1]) rfl ?_
    exact ⟨by rw [hr.out], andSet (andSet (andThen (andAlloc (Below.refl _ _) _) b1) (by simp) _) (by simp) _⟩
  all_goals
    have hr : Hid (newF n d = (0, 0, false)) := by show newF n d = _; simp [newF, h0, h1, h2]
    go_enter Try.func68, Try.ntmps68
    go_wp2_with (go_at_call 58; refine (l01In_c _ _ _ _).mono ?_; rintro e w' ⟨rfl, rfl⟩)
    go_returns
    exact ⟨by rw [hr.out], by go_grown⟩

end Go.Proofs.Ytlpaicpjadkceaa
