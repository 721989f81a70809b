/-
  RoundFrac, FloorFrac of both packages compute plain functions. Conditions: none.
-/
import Derived.Test.YtlkkbekfkgliaaaFracOk
import Derived.Test.YtlkkbekfkgliaaaBox
namespace Go.Proofs.Ytlkkbekfkgliaaa
open Go.RowKit
set_option linter.unusedVariables false

/-- The rounded number of a valid fraction: its quotient q, rounded down, and its rest r. -/
def rnd (q r d mode : Int) : Int :=
  if mode = 2 then (if 0 < r then q + 1 else q)
  else if mode = 3 then (if d ≤ 2 * r then q + 1 else q)
  else if mode = 4 then (if d < 2 * r ∨ (2 * r = d ∧ q % 2 = 1) then q + 1 else q)
  else q
def roundF (n d mode : Int) : Int × Bool := if okB n d && inB mode 1 4 then (rnd (n / d) (n - n / d * d) d mode, true) else (0, false)
def floorF (n d : Int) : Int := if okB n d then n / d else 0

theorem fd_neg {n d : Int} (hd : 1 ≤ d) (h : n.tmod d < 0) : n.tdiv d - 1 = n / d := by
  have e1 := Int.tdiv_eq_ediv (a := n) (b := d)
  have e2 := Int.tmod_eq_emod (a := n) (b := d)
  have e3 := Int.emod_nonneg n (show d ≠ 0 by omega)
  by_cases hc : 0 ≤ n ∨ d ∣ n
  · rw [if_pos hc] at e2; omega
  · rw [if_neg hc, Int.sign_eq_one_of_pos (by omega)] at e1; omega
theorem fd_pos {n d : Int} (hd : 1 ≤ d) (h : 0 ≤ n.tmod d) : n.tdiv d = n / d := by
  have e1 := Int.tdiv_eq_ediv (a := n) (b := d)
  have e2 := Int.tmod_eq_emod (a := n) (b := d)
  have e3 := Int.emod_lt_of_pos n (show 0 < d by omega)
  by_cases hc : 0 ≤ n ∨ d ∣ n
  · rw [if_pos hc] at e1; omega
  · rw [if_neg hc] at e2; omega

theorem tdiv_bd {n d A : Int} (h1 : -A ≤ n) (h2 : n ≤ A) : -A ≤ n.tdiv d ∧ n.tdiv d ≤ A := by
  have := Int.natAbs_tdiv_le_natAbs n d
  have h3 : (n.tdiv d).natAbs ≤ n.natAbs := this
  generalize n.tdiv d = t at *
  omega
theorem ediv_bd {n d A : Int} (h1 : -A ≤ n) (h2 : n ≤ A) : -A ≤ n / d ∧ n / d ≤ A := by
  have h3 := Int.natAbs_ediv_le_natAbs n d
  generalize n / d = t at *
  omega
theorem rest_bd {n d : Int} (hd : 1 ≤ d) : 0 ≤ n - n / d * d ∧ n - n / d * d < d := by
  have h1 := Int.emod_nonneg n (show d ≠ 0 by omega)
  have h2 := Int.emod_lt_of_pos n (show 0 < d by omega)
  have h3 := Int.mul_ediv_add_emod n d
  rw [Int.mul_comm] at h3
  omega

set_option maxHeartbeats 400000 in
theorem floorDiv_c (n d : Int) (w : World) (h1 : -1000000000000 ≤ n) (h2 : n ≤ 1000000000000) (hd : 1 ≤ d) (hd2 : d ≤ 1000000) :
    Calls Try.prog 44 #[.int .i64 n, .int .i64 d] w fun e w' => e = .returned (.int .i64 (n / d)) ∧ w = w' := by
  rcases Int.lt_or_le n 0 with h | h
  · obtain ⟨t1, t2⟩ := tdiv_bd (d := d) h1 h2
    go_enter Try.func44, Try.ntmps44
    go_wp2
    · have u : n.tmod d < 0 := by assumption
      go_ret
      exact ⟨ret_int (fd_neg hd u), rfl⟩
    · have u : 0 ≤ n.tmod d := by assumption
      go_ret
      exact ⟨ret_int (fd_pos hd u), rfl⟩
  · have h3 := Int.emod_nonneg n (show d ≠ 0 by omega)
    go_enter Try.func44, Try.ntmps44
    go_wp2
    go_ret
    exact ⟨rfl, rfl⟩

theorem okB_bds {n d : Int} (h : okB n d = true) : 1 ≤ d ∧ d ≤ 1000000 ∧ -1000000000000 ≤ n ∧ n ≤ 1000000000000 := by
  simp only [okB, inB, Bool.and_eq_true, decide_eq_true_eq] at h
  obtain ⟨⟨⟨h1, h2⟩, h3, h4⟩, h5⟩ := h
  exact ⟨h1, h2, h3, h4⟩
theorem ret_pair {a b : Int} {o : Bool} (h : a = b) : Ending.returned (.tuple #[.int .i64 a, .bool o]) = .returned (.tuple #[.int .i64 b, .bool o]) := by rw [h]
theorem odd_tmod (q : Int) : (q.tmod 2 != 0) = decide (q % 2 = 1) := by
  have := Int.tmod_eq_emod (a := q) (b := 2)
  rw [Bool.eq_iff_iff, bne_iff_ne, decide_eq_true_eq]
  by_cases hc : 0 ≤ q ∨ (2 : Int) ∣ q
  · rw [if_pos hc] at this; omega
  · rw [if_neg hc] at this; omega

set_option maxHeartbeats 1000000 in
theorem implRound_m1 (n d : Int) (w : World) (h0 : okB n d = true) :
    Calls Try.prog 31 #[.agg #[.int .i64 n, .int .i64 d], .int .i64 1] w fun e w' => e = .returned (.tuple #[.int .i64 (rnd (n / d) (n - n / d * d) d 1), .bool true]) ∧ Below w.heap.size w w' := by
  obtain ⟨k1, k2, k3, k4⟩ := okB_bds h0
  have i0 : inB 1 1 4 = true := by decide
  obtain ⟨l1, l2⟩ := ediv_bd (d := d) k3 k4
  obtain ⟨r1, r2⟩ := rest_bd (n := n) k1
  go_enter Try.func31, Try.ntmps31
  go_wp2_with fail
  refine (implFracOk_c _ _ _).mono ?_
  rintro e w1 ⟨rfl, b1⟩
  obtain ⟨a10, a11, a12, a13⟩ : Box2 w1 w.heap.size (.int .i64 n) (.int .i64 d) := Box2.later b1 ⟨by go_simp, by go_simp, by go_simp, by go_simp⟩
  go_wp2_with fail
  refine (within_c _ _ _ _).mono ?_
  rintro e w2 ⟨rfl, rfl⟩
  go_wp2_with fail
  refine (floorDiv_c _ _ _ (by omega) (by omega) (by omega) (by omega)).mono ?_
  rintro e w2 ⟨rfl, rfl⟩
  generalize hq : n / d = q at *
  have HQ := Lib.hid hq
  clear hq
  · go_wp2
    go_ret2
    exact ⟨ret_pair (by rw [HQ.out]; simp [rnd]), andThen (andAlloc (Below.refl _ _) _) b1⟩

set_option maxHeartbeats 1000000 in
theorem implRound_m2 (n d : Int) (w : World) (h0 : okB n d = true) :
    Calls Try.prog 31 #[.agg #[.int .i64 n, .int .i64 d], .int .i64 2] w fun e w' => e = .returned (.tuple #[.int .i64 (rnd (n / d) (n - n / d * d) d 2), .bool true]) ∧ Below w.heap.size w w' := by
  obtain ⟨k1, k2, k3, k4⟩ := okB_bds h0
  have i0 : inB 2 1 4 = true := by decide
  obtain ⟨l1, l2⟩ := ediv_bd (d := d) k3 k4
  obtain ⟨r1, r2⟩ := rest_bd (n := n) k1
  go_enter Try.func31, Try.ntmps31
  go_wp2_with fail
  refine (implFracOk_c _ _ _).mono ?_
  rintro e w1 ⟨rfl, b1⟩
  obtain ⟨a10, a11, a12, a13⟩ : Box2 w1 w.heap.size (.int .i64 n) (.int .i64 d) := Box2.later b1 ⟨by go_simp, by go_simp, by go_simp, by go_simp⟩
  go_wp2_with fail
  refine (within_c _ _ _ _).mono ?_
  rintro e w2 ⟨rfl, rfl⟩
  go_wp2_with fail
  refine (floorDiv_c _ _ _ (by omega) (by omega) (by omega) (by omega)).mono ?_
  rintro e w2 ⟨rfl, rfl⟩
  generalize hq : n / d = q at *
  have HQ := Lib.hid hq
  clear hq
  rcases Int.lt_or_le 0 (n - q * d) with u | u
  · go_wp2
    have v : ¬ (n - q * d ≤ 0) := by omega
    go_ret2
    exact ⟨ret_pair (by rw [HQ.out]; exact (show rnd q (n - q * d) d 2 = q + 1 by unfold rnd; rw [if_pos rfl, if_pos u]).symm), andThen (andAlloc (Below.refl _ _) _) b1⟩
  · go_wp2
    go_ret2
    exact ⟨ret_pair (by rw [HQ.out]; exact (show rnd q (n - q * d) d 2 = q by unfold rnd; rw [if_pos rfl, if_neg (by omega)]).symm), andThen (andAlloc (Below.refl _ _) _) b1⟩

set_option maxHeartbeats 1000000 in
theorem implRound_m3 (n d : Int) (w : World) (h0 : okB n d = true) :
    Calls Try.prog 31 #[.agg #[.int .i64 n, .int .i64 d], .int .i64 3] w fun e w' => e = .returned (.tuple #[.int .i64 (rnd (n / d) (n - n / d * d) d 3), .bool true]) ∧ Below w.heap.size w w' := by
  obtain ⟨k1, k2, k3, k4⟩ := okB_bds h0
  have i0 : inB 3 1 4 = true := by decide
  obtain ⟨l1, l2⟩ := ediv_bd (d := d) k3 k4
  obtain ⟨r1, r2⟩ := rest_bd (n := n) k1
  go_enter Try.func31, Try.ntmps31
  go_wp2_with fail
  refine (implFracOk_c _ _ _).mono ?_
  rintro e w1 ⟨rfl, b1⟩
  obtain ⟨a10, a11, a12, a13⟩ : Box2 w1 w.heap.size (.int .i64 n) (.int .i64 d) := Box2.later b1 ⟨by go_simp, by go_simp, by go_simp, by go_simp⟩
  go_wp2_with fail
  refine (within_c _ _ _ _).mono ?_
  rintro e w2 ⟨rfl, rfl⟩
  go_wp2_with fail
  refine (floorDiv_c _ _ _ (by omega) (by omega) (by omega) (by omega)).mono ?_
  rintro e w2 ⟨rfl, rfl⟩
  generalize hq : n / d = q at *
  have HQ := Lib.hid hq
  clear hq
  rcases Int.lt_or_le (2 * (n - q * d)) d with u | u
  · go_wp2
    go_ret2
    exact ⟨ret_pair (by rw [HQ.out]; exact (show rnd q (n - q * d) d 3 = q by unfold rnd; rw [if_neg (by decide), if_pos rfl, if_neg (by omega)]).symm), andThen (andAlloc (Below.refl _ _) _) b1⟩
  · go_wp2
    go_ret2
    exact ⟨ret_pair (by rw [HQ.out]; exact (show rnd q (n - q * d) d 3 = q + 1 by unfold rnd; rw [if_neg (by decide), if_pos rfl, if_pos u]).symm), andThen (andAlloc (Below.refl _ _) _) b1⟩

set_option maxHeartbeats 1000000 in
theorem implRound_m4 (n d : Int) (w : World) (h0 : okB n d = true) :
    Calls Try.prog 31 #[.agg #[.int .i64 n, .int .i64 d], .int .i64 4] w fun e w' => e = .returned (.tuple #[.int .i64 (rnd (n / d) (n - n / d * d) d 4), .bool true]) ∧ Below w.heap.size w w' := by
  obtain ⟨k1, k2, k3, k4⟩ := okB_bds h0
  have i0 : inB 4 1 4 = true := by decide
  obtain ⟨l1, l2⟩ := ediv_bd (d := d) k3 k4
  obtain ⟨r1, r2⟩ := rest_bd (n := n) k1
  go_enter Try.func31, Try.ntmps31
  go_wp2_with fail
  refine (implFracOk_c _ _ _).mono ?_
  rintro e w1 ⟨rfl, b1⟩
  obtain ⟨a10, a11, a12, a13⟩ : Box2 w1 w.heap.size (.int .i64 n) (.int .i64 d) := Box2.later b1 ⟨by go_simp, by go_simp, by go_simp, by go_simp⟩
  go_wp2_with fail
  refine (within_c _ _ _ _).mono ?_
  rintro e w2 ⟨rfl, rfl⟩
  go_wp2_with fail
  refine (floorDiv_c _ _ _ (by omega) (by omega) (by omega) (by omega)).mono ?_
  rintro e w2 ⟨rfl, rfl⟩
  generalize hq : n / d = q at *
  have HQ := Lib.hid hq
  clear hq
  rcases Int.lt_trichotomy (2 * (n - q * d)) d with u | u | u
  · have e1 : (2 * (n - q * d) == d) = false := beq_eq_false_iff_ne.2 (by omega)
    go_wp2
    go_ret2
    exact ⟨ret_pair (by rw [HQ.out]; exact (show rnd q (n - q * d) d 4 = q by unfold rnd; rw [if_neg (by decide), if_neg (by decide), if_pos rfl, if_neg (by omega)]).symm), andThen (andAlloc (Below.refl _ _) _) b1⟩
  · have e1 : (2 * (n - q * d) == d) = true := beq_iff_eq.2 u
    have U := Lib.hid u
    have e2 : decide (d < 2 * (n - q * d)) = false := decide_eq_false (by omega)
    clear u
    by_cases v : q % 2 = 1
    · have e3 : (q.tmod 2 != 0) = true := by rw [odd_tmod]; exact decide_eq_true v
      have V := Lib.hid v
      clear v
      go_wp2
      go_ret2
      exact ⟨ret_pair (by rw [HQ.out]; exact (show rnd q (n - q * d) d 4 = q + 1 by unfold rnd; rw [if_neg (by decide), if_neg (by decide), if_pos rfl, if_pos (Or.inr ⟨U.out, V.out⟩)]).symm), andThen (andAlloc (Below.refl _ _) _) b1⟩
    · have e3 : (q.tmod 2 != 0) = false := by rw [odd_tmod]; exact decide_eq_false v
      have V := Lib.hid v
      clear v
      go_wp2
      go_ret2
      exact ⟨ret_pair (by rw [HQ.out]; exact (show rnd q (n - q * d) d 4 = q by unfold rnd; rw [if_neg (by decide), if_neg (by decide), if_pos rfl, if_neg (by have h1 := U.out; have h2 := V.out; omega)]).symm), andThen (andAlloc (Below.refl _ _) _) b1⟩
  · have e1 : (2 * (n - q * d) == d) = false := beq_eq_false_iff_ne.2 (by omega)
    go_wp2
    go_ret2
    exact ⟨ret_pair (by rw [HQ.out]; exact (show rnd q (n - q * d) d 4 = q + 1 by unfold rnd; rw [if_neg (by decide), if_neg (by decide), if_pos rfl, if_pos (Or.inl u)]).symm), andThen (andAlloc (Below.refl _ _) _) b1⟩

end Go.Proofs.Ytlkkbekfkgliaaa
