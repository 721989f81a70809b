/-
  reduced and l02Make compute one plain function 'red'. Conditions: the numbers' bounds; the denominator is not 0.
-/
import Derived.Test.YtlpaicpjadkceaaFracOk
import Derived.RegionTactic
import Derived.BigRegion
namespace Go.Proofs.Ytlpaicpjadkceaa
open Go.RowKit
set_option linter.unusedVariables false

def red1 (n d : Int) : Int × Int × Bool :=
  if okB (n / (Int.gcd n d : Int)) (d / (Int.gcd n d : Int)) then (n / (Int.gcd n d : Int), d / (Int.gcd n d : Int), true) else (0, 0, false)
def red (n d : Int) : Int × Int × Bool := if d < 0 then red1 (-n) (-d) else red1 n d

theorem gcd_pos {n d : Int} (hd : d ≠ 0) : (1 : Int) ≤ (Int.gcd n d : Int) := by
  have := Int.gcd_pos_of_ne_zero_right n hd
  omega

theorem tdiv_l (n d : Int) : n.tdiv (Int.gcd n d : Int) = n / (Int.gcd n d : Int) := Int.tdiv_eq_ediv_of_dvd (Int.gcd_dvd_left ..)
theorem tdiv_r (n d : Int) : d.tdiv (Int.gcd n d : Int) = d / (Int.gcd n d : Int) := Int.tdiv_eq_ediv_of_dvd (Int.gcd_dvd_right ..)

theorem red1_ok {n d : Int} (h : okB (n / (Int.gcd n d : Int)) (d / (Int.gcd n d : Int)) = true) : red1 n d = (n / (Int.gcd n d : Int), d / (Int.gcd n d : Int), true) := if_pos h
theorem red1_no {n d : Int} (h : okB (n / (Int.gcd n d : Int)) (d / (Int.gcd n d : Int)) = false) : red1 n d = (0, 0, false) := if_neg (by simp [h])

set_option maxHeartbeats 400000 in
theorem reduced_pos (n d : Int) (w : World) (hn : n.natAbs ≤ 4611686018427387904) (hd : d.natAbs ≤ 4611686018427387904) (h0 : 0 < d) :
    Calls Try.prog 83 #[.int .i64 n, .int .i64 d] w fun e w' => e = .returned (.tuple #[.agg #[.int .i64 (red1 n d).1, .int .i64 (red1 n d).2.1], .bool (red1 n d).2.2]) ∧ Below w.heap.size w w' := by
  have G := Lib.hid (gcd_pos (n := n) (d := d) (by omega))
  have t1 := Int.natAbs_tdiv_le_natAbs n (Int.gcd n d : Int)
  have t2 := Int.natAbs_tdiv_le_natAbs d (Int.gcd n d : Int)
  have l1 : -4611686018427387904 ≤ n.tdiv (Int.gcd n d : Int) := by omega
  have l2 : n.tdiv (Int.gcd n d : Int) ≤ 4611686018427387904 := by omega
  have l3 : -4611686018427387904 ≤ d.tdiv (Int.gcd n d : Int) := by omega
  have l4 : d.tdiv (Int.gcd n d : Int) ≤ 4611686018427387904 := by omega
  clear t1 t2
  have E1 := Lib.hid (tdiv_l n d)
  have E2 := Lib.hid (tdiv_r n d)
  have hok : Hid (red1 n d = if okB (n / (Int.gcd n d : Int)) (d / (Int.gcd n d : Int)) then (n / (Int.gcd n d : Int), d / (Int.gcd n d : Int), true) else (0, 0, false)) := rfl
  go_enter Try.func83, Try.ntmps83
  go_wp2_with fail
  refine (gcd_c _ _ _ (by omega) (by omega)).mono ?_
  rintro e w1 ⟨rfl, q, rfl⟩
  generalize ((Int.gcd n d : Nat) : Int) = g at *
  have g1 := G.out
  go_wp2_with fail
  go_region
  go_wp2_with fail
  refine (implFracOk_c _ _ _).mono ?_
  rintro e w2 ⟨rfl, b2⟩
  obtain ⟨c2, f2⟩ := bcell b2
  have z2 : w.heap.size + 1 < w2.heap.size := by have := b2.size; simp at this; omega
  have q0 : w2.cell? ⟨w.heap.size, 0, none⟩ = some (.int .i64 0) := cell_later b2 (by go_simp)
  have q1 : w2.cell? ⟨w.heap.size, 1, none⟩ = some (.int .i64 0) := cell_later b2 (by go_simp)
  cases hb : okB (n.tdiv g) (d.tdiv g)
  · have hr : Hid (red1 n d = (0, 0, false)) := by show red1 n d = _; rw [hok.out, ← E1.out, ← E2.out, if_neg (by simp [hb])]
    go_wp2_with fail
    refine bodyPost_ret (v := .tuple #[.agg #[.int .i64 0, .int .i64 0], .bool false]) (by simp [results, Try.results83, go_sem, q0, q1]) rfl ?_
    refine ⟨by rw [hr.out], ?_⟩
    exact andSet (andSet (andThen (andAlloc (andDrewN (andAlloc (Below.refl _ _) _) _) _) b2) (by simp) _) (by simp) _
  · have hr : Hid (red1 n d = (n.tdiv g, d.tdiv g, true)) := by show red1 n d = _; rw [hok.out, ← E1.out, ← E2.out, if_pos hb]
    go_wp2_with fail
    refine bodyPost_ret (v := .tuple #[.agg #[.int .i64 (n.tdiv g), .int .i64 (d.tdiv g)], .bool true]) (by simp [results, Try.results83, go_sem, q0, q1]) rfl ?_
    refine ⟨by rw [hr.out], ?_⟩
    exact andSet (andSet (andThen (andAlloc (andDrewN (andAlloc (Below.refl _ _) _) _) _) b2) (by simp) _) (by simp) _

set_option maxHeartbeats 400000 in
theorem reduced_neg (n d : Int) (w : World) (hn : n.natAbs ≤ 4611686018427387904) (hd : d.natAbs ≤ 4611686018427387904) (h0 : 0 < d) :
    Calls Try.prog 83 #[.int .i64 (-n), .int .i64 (-d)] w fun e w' => e = .returned (.tuple #[.agg #[.int .i64 (red1 n d).1, .int .i64 (red1 n d).2.1], .bool (red1 n d).2.2]) ∧ Below w.heap.size w w' := by
  have G := Lib.hid (gcd_pos (n := n) (d := d) (by omega))
  have t1 := Int.natAbs_tdiv_le_natAbs n (Int.gcd n d : Int)
  have t2 := Int.natAbs_tdiv_le_natAbs d (Int.gcd n d : Int)
  have l1 : -4611686018427387904 ≤ n.tdiv (Int.gcd n d : Int) := by omega
  have l2 : n.tdiv (Int.gcd n d : Int) ≤ 4611686018427387904 := by omega
  have l3 : -4611686018427387904 ≤ d.tdiv (Int.gcd n d : Int) := by omega
  have l4 : d.tdiv (Int.gcd n d : Int) ≤ 4611686018427387904 := by omega
  clear t1 t2
  have E1 := Lib.hid (tdiv_l n d)
  have E2 := Lib.hid (tdiv_r n d)
  have hok : Hid (red1 n d = if okB (n / (Int.gcd n d : Int)) (d / (Int.gcd n d : Int)) then (n / (Int.gcd n d : Int), d / (Int.gcd n d : Int), true) else (0, 0, false)) := rfl
  go_enter Try.func83, Try.ntmps83
  go_wp2_with fail
  refine (gcd_c _ _ _ (by omega) (by omega)).mono ?_
  rintro e w1 ⟨rfl, q, rfl⟩
  generalize ((Int.gcd n d : Nat) : Int) = g at *
  have g1 := G.out
  go_wp2_with fail
  go_region
  go_wp2_with fail
  refine (implFracOk_c _ _ _).mono ?_
  rintro e w2 ⟨rfl, b2⟩
  obtain ⟨c2, f2⟩ := bcell b2
  have z2 : w.heap.size + 1 < w2.heap.size := by have := b2.size; simp at this; omega
  have q0 : w2.cell? ⟨w.heap.size, 0, none⟩ = some (.int .i64 0) := cell_later b2 (by go_simp)
  have q1 : w2.cell? ⟨w.heap.size, 1, none⟩ = some (.int .i64 0) := cell_later b2 (by go_simp)
  cases hb : okB (n.tdiv g) (d.tdiv g)
  · have hr : Hid (red1 n d = (0, 0, false)) := by show red1 n d = _; rw [hok.out, ← E1.out, ← E2.out, if_neg (by simp [hb])]
    go_wp2_with fail
    refine bodyPost_ret (v := .tuple #[.agg #[.int .i64 0, .int .i64 0], .bool false]) (by simp [results, Try.results83, go_sem, q0, q1]) rfl ?_
    refine ⟨by rw [hr.out], ?_⟩
    exact andSet (andSet (andThen (andAlloc (andDrewN (andAlloc (Below.refl _ _) _) _) _) b2) (by simp) _) (by simp) _
  · have hr : Hid (red1 n d = (n.tdiv g, d.tdiv g, true)) := by show red1 n d = _; rw [hok.out, ← E1.out, ← E2.out, if_pos hb]
    go_wp2_with fail
    refine bodyPost_ret (v := .tuple #[.agg #[.int .i64 (n.tdiv g), .int .i64 (d.tdiv g)], .bool true]) (by simp [results, Try.results83, go_sem, q0, q1]) rfl ?_
    refine ⟨by rw [hr.out], ?_⟩
    exact andSet (andSet (andThen (andAlloc (andDrewN (andAlloc (Below.refl _ _) _) _) _) b2) (by simp) _) (by simp) _

set_option maxHeartbeats 400000 in
theorem reduced_c (n d : Int) (w : World) (hn : n.natAbs ≤ 4611686018427387904) (hd : d.natAbs ≤ 4611686018427387904) (h0 : d ≠ 0) :
    Calls Try.prog 83 #[.int .i64 n, .int .i64 d] w fun e w' => e = .returned (.tuple #[.agg #[.int .i64 (red n d).1, .int .i64 (red n d).2.1], .bool (red n d).2.2]) ∧ Below w.heap.size w w' := by
  unfold red
  by_cases h : d < 0
  · rw [if_pos h]
    have := reduced_neg (-n) (-d) w (by omega) (by omega) (by omega)
    rwa [Int.neg_neg, Int.neg_neg] at this
  · rw [if_neg h]
    exact reduced_pos n d w hn hd (by omega)

set_option maxHeartbeats 400000 in
theorem l02Make_pos (n d : Int) (w : World) (hn : n.natAbs ≤ 4611686018427387904) (hd : d.natAbs ≤ 4611686018427387904) (h0 : 0 < d) :
    Calls Try.prog 72 #[.int .i64 n, .int .i64 d] w fun e w' => e = .returned (.tuple #[.agg #[.int .i64 (red1 n d).1, .int .i64 (red1 n d).2.1], .bool (red1 n d).2.2]) ∧ Below w.heap.size w w' := by
  have G := Lib.hid (gcd_pos (n := n) (d := d) (by omega))
  have t1 := Int.natAbs_tdiv_le_natAbs n (Int.gcd n d : Int)
  have t2 := Int.natAbs_tdiv_le_natAbs d (Int.gcd n d : Int)
  have l1 : -4611686018427387904 ≤ n.tdiv (Int.gcd n d : Int) := by omega
  have l2 : n.tdiv (Int.gcd n d : Int) ≤ 4611686018427387904 := by omega
  have l3 : -4611686018427387904 ≤ d.tdiv (Int.gcd n d : Int) := by omega
  have l4 : d.tdiv (Int.gcd n d : Int) ≤ 4611686018427387904 := by omega
  clear t1 t2
  have E1 := Lib.hid (tdiv_l n d)
  have E2 := Lib.hid (tdiv_r n d)
  have hok : Hid (red1 n d = if okB (n / (Int.gcd n d : Int)) (d / (Int.gcd n d : Int)) then (n / (Int.gcd n d : Int), d / (Int.gcd n d : Int), true) else (0, 0, false)) := rfl
  go_enter Try.func72, Try.ntmps72
  go_wp2_with fail
  refine (l02Abs_c _ _ (by omega)).mono ?_
  rintro e w1 ⟨rfl, rfl⟩
  go_wp2_with fail
  refine (l02Gcd_c _ _ _ (by omega) (by omega) (by omega) (by omega)).mono ?_
  rintro e w1 ⟨rfl, q, rfl⟩
  rw [gcd_abs]
  generalize ((Int.gcd n d : Nat) : Int) = g at *
  have g1 := G.out
  go_wp2_with fail
  go_region
  go_wp2_with fail
  refine (specFracOk_c _ _ _).mono ?_
  rintro e w2 ⟨rfl, b2⟩
  obtain ⟨c2, f2⟩ := bcell b2
  have z2 : w.heap.size + 1 < w2.heap.size := by have := b2.size; simp at this; omega
  have q0 : w2.cell? ⟨w.heap.size, 0, none⟩ = some (.int .i64 0) := cell_later b2 (by go_simp)
  have q1 : w2.cell? ⟨w.heap.size, 1, none⟩ = some (.int .i64 0) := cell_later b2 (by go_simp)
  cases hb : okB (n.tdiv g) (d.tdiv g)
  · have hr : Hid (red1 n d = (0, 0, false)) := by show red1 n d = _; rw [hok.out, ← E1.out, ← E2.out, if_neg (by simp [hb])]
    go_wp2_with fail
    refine bodyPost_ret (v := .tuple #[.agg #[.int .i64 0, .int .i64 0], .bool false]) (by simp [results, Try.results72, go_sem, q0, q1]) rfl ?_
    refine ⟨by rw [hr.out], ?_⟩
    exact andSet (andSet (andThen (andAlloc (andDrewN (andAlloc (Below.refl _ _) _) _) _) b2) (by simp) _) (by simp) _
  · have hr : Hid (red1 n d = (n.tdiv g, d.tdiv g, true)) := by show red1 n d = _; rw [hok.out, ← E1.out, ← E2.out, if_pos hb]
    go_wp2_with fail
    refine bodyPost_ret (v := .tuple #[.agg #[.int .i64 (n.tdiv g), .int .i64 (d.tdiv g)], .bool true]) (by simp [results, Try.results72, go_sem, q0, q1]) rfl ?_
    refine ⟨by rw [hr.out], ?_⟩
    exact andSet (andSet (andThen (andAlloc (andDrewN (andAlloc (Below.refl _ _) _) _) _) b2) (by simp) _) (by simp) _

set_option maxHeartbeats 400000 in
theorem l02Make_neg (n d : Int) (w : World) (hn : n.natAbs ≤ 4611686018427387904) (hd : d.natAbs ≤ 4611686018427387904) (h0 : 0 < d) :
    Calls Try.prog 72 #[.int .i64 (-n), .int .i64 (-d)] w fun e w' => e = .returned (.tuple #[.agg #[.int .i64 (red1 n d).1, .int .i64 (red1 n d).2.1], .bool (red1 n d).2.2]) ∧ Below w.heap.size w w' := by
  have G := Lib.hid (gcd_pos (n := n) (d := d) (by omega))
  have t1 := Int.natAbs_tdiv_le_natAbs n (Int.gcd n d : Int)
  have t2 := Int.natAbs_tdiv_le_natAbs d (Int.gcd n d : Int)
  have l1 : -4611686018427387904 ≤ n.tdiv (Int.gcd n d : Int) := by omega
  have l2 : n.tdiv (Int.gcd n d : Int) ≤ 4611686018427387904 := by omega
  have l3 : -4611686018427387904 ≤ d.tdiv (Int.gcd n d : Int) := by omega
  have l4 : d.tdiv (Int.gcd n d : Int) ≤ 4611686018427387904 := by omega
  clear t1 t2
  have E1 := Lib.hid (tdiv_l n d)
  have E2 := Lib.hid (tdiv_r n d)
  have hok : Hid (red1 n d = if okB (n / (Int.gcd n d : Int)) (d / (Int.gcd n d : Int)) then (n / (Int.gcd n d : Int), d / (Int.gcd n d : Int), true) else (0, 0, false)) := rfl
  go_enter Try.func72, Try.ntmps72
  go_wp2_with fail
  refine (l02Abs_c _ _ (by omega)).mono ?_
  rintro e w1 ⟨rfl, rfl⟩
  go_wp2_with fail
  refine (l02Gcd_c _ _ _ (by omega) (by omega) (by omega) (by omega)).mono ?_
  rintro e w1 ⟨rfl, q, rfl⟩
  rw [gcd_abs]
  generalize ((Int.gcd n d : Nat) : Int) = g at *
  have g1 := G.out
  go_wp2_with fail
  go_region
  go_wp2_with fail
  refine (specFracOk_c _ _ _).mono ?_
  rintro e w2 ⟨rfl, b2⟩
  obtain ⟨c2, f2⟩ := bcell b2
  have z2 : w.heap.size + 1 < w2.heap.size := by have := b2.size; simp at this; omega
  have q0 : w2.cell? ⟨w.heap.size, 0, none⟩ = some (.int .i64 0) := cell_later b2 (by go_simp)
  have q1 : w2.cell? ⟨w.heap.size, 1, none⟩ = some (.int .i64 0) := cell_later b2 (by go_simp)
  cases hb : okB (n.tdiv g) (d.tdiv g)
  · have hr : Hid (red1 n d = (0, 0, false)) := by show red1 n d = _; rw [hok.out, ← E1.out, ← E2.out, if_neg (by simp [hb])]
    go_wp2_with fail
    refine bodyPost_ret (v := .tuple #[.agg #[.int .i64 0, .int .i64 0], .bool false]) (by simp [results, Try.results72, go_sem, q0, q1]) rfl ?_
    refine ⟨by rw [hr.out], ?_⟩
    exact andSet (andSet (andThen (andAlloc (andDrewN (andAlloc (Below.refl _ _) _) _) _) b2) (by simp) _) (by simp) _
  · have hr : Hid (red1 n d = (n.tdiv g, d.tdiv g, true)) := by show red1 n d = _; rw [hok.out, ← E1.out, ← E2.out, if_pos hb]
    go_wp2_with fail
    refine bodyPost_ret (v := .tuple #[.agg #[.int .i64 (n.tdiv g), .int .i64 (d.tdiv g)], .bool true]) (by simp [results, Try.results72, go_sem, q0, q1]) rfl ?_
    refine ⟨by rw [hr.out], ?_⟩
    exact andSet (andSet (andThen (andAlloc (andDrewN (andAlloc (Below.refl _ _) _) _) _) b2) (by simp) _) (by simp) _

set_option maxHeartbeats 400000 in
theorem l02Make_c (n d : Int) (w : World) (hn : n.natAbs ≤ 4611686018427387904) (hd : d.natAbs ≤ 4611686018427387904) (h0 : d ≠ 0) :
    Calls Try.prog 72 #[.int .i64 n, .int .i64 d] w fun e w' => e = .returned (.tuple #[.agg #[.int .i64 (red n d).1, .int .i64 (red n d).2.1], .bool (red n d).2.2]) ∧ Below w.heap.size w w' := by
  unfold red
  by_cases h : d < 0
  · rw [if_pos h]
    have := l02Make_neg (-n) (-d) w (by omega) (by omega) (by omega)
    rwa [Int.neg_neg, Int.neg_neg] at this
  · rw [if_neg h]
    exact l02Make_pos n d w hn hd (by omega)

end Go.Proofs.Ytlpaicpjadkceaa
