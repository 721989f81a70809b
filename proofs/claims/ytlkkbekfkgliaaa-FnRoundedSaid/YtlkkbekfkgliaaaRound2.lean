/-
  RoundFrac, FloorFrac of both packages compute plain functions, for every mode. Conditions: none.
-/
import Derived.Test.YtlkkbekfkgliaaaRound
import Derived.Laws.BitsAllLaws
import Derived.Laws.BitsLemmas
namespace Go.Proofs.Ytlkkbekfkgliaaa
open Go.RowKit
set_option linter.unusedVariables false

theorem and_one (q : Int) : bits .and .i64 q 1 = q % 2 := by
  show IntKind.i64.wrap ((BitVec.ofInt 64 q &&& BitVec.ofInt 64 1).toNat : Int) = _
  have h : (BitVec.ofInt 64 q &&& BitVec.ofInt 64 1).toNat = (BitVec.ofInt 64 q).toNat % 2 := by
    rw [BitVec.toNat_and]
    exact Nat.and_one_is_mod _
  rw [h, IntKind.wrap_i64, BitVec.toNat_ofInt]
  omega

set_option maxHeartbeats 1000000 in
theorem implRound_c (n d m : Int) (w : World) :
    Calls Try.prog 31 #[.agg #[.int .i64 n, .int .i64 d], .int .i64 m] w fun e w' => e = .returned (.tuple #[.int .i64 (roundF n d m).1, .bool (roundF n d m).2]) ∧ Below w.heap.size w w' := by
  cases h0 : okB n d
  case false =>
    have hr : Hid (roundF n d m = (0, false)) := by show roundF n d m = _; simp [roundF, h0]
    go_enter Try.func31, Try.ntmps31
    go_wp2_with fail
    refine (implFracOk_c _ _ _).mono ?_
    rintro e w1 ⟨rfl, b1⟩
    go_wp2_with fail
    go_ret2
    exact ⟨by rw [hr.out]; rfl, andThen (andAlloc (Below.refl _ _) _) b1⟩
  case true =>
    cases h1 : inB m 1 4
    case false =>
      have hr : Hid (roundF n d m = (0, false)) := by show roundF n d m = _; simp [roundF, h1]
      go_enter Try.func31, Try.ntmps31
      go_wp2_with fail
      refine (implFracOk_c _ _ _).mono ?_
      rintro e w1 ⟨rfl, b1⟩
      go_wp2_with fail
      refine (within_c _ _ _ _).mono ?_
      rintro e w2 ⟨rfl, rfl⟩
      go_wp2_with fail
      go_ret2
      exact ⟨by rw [hr.out]; rfl, andThen (andAlloc (Below.refl _ _) _) b1⟩
    case true =>
      have hr : roundF n d m = (rnd (n / d) (n - n / d * d) d m, true) := by simp [roundF, h0, h1]
      rw [hr]
      have h2 := inB_iff.1 h1
      rcases (show m = 1 ∨ m = 2 ∨ m = 3 ∨ m = 4 by omega) with rfl | rfl | rfl | rfl
      · exact implRound_m1 n d w h0
      · exact implRound_m2 n d w h0
      · exact implRound_m3 n d w h0
      · exact implRound_m4 n d w h0

set_option maxHeartbeats 400000 in
theorem implFloor_c (n d : Int) (w : World) :
    Calls Try.prog 19 #[.agg #[.int .i64 n, .int .i64 d]] w fun e w' => e = .returned (.int .i64 (floorF n d)) ∧ Below w.heap.size w w' := by
  have hr : Hid ((roundF n d 1).1 = floorF n d) := by
    show _ = _
    have i0 : inB 1 1 4 = true := by decide
    unfold roundF floorF
    cases okB n d <;> simp [i0, rnd]
  go_enter Try.func19, Try.ntmps19
  go_wp2_with fail
  refine (implRound_c _ _ _ _).mono ?_
  rintro e w1 ⟨rfl, b1⟩
  go_wp2_with fail
  go_ret
  exact ⟨ret_int hr.out, andThen (andAlloc (Below.refl _ _) _) b1⟩

set_option maxHeartbeats 1000000 in
theorem specFloor_c (n d : Int) (w : World) :
    Calls Try.prog 17 #[.agg #[.int .i64 n, .int .i64 d]] w fun e w' => e = .returned (.int .i64 (floorF n d)) ∧ Below w.heap.size w w' := by
  cases h0 : okB n d
  case false =>
    have hr : Hid (floorF n d = 0) := by show floorF n d = _; simp [floorF, h0]
    go_enter Try.func17, Try.ntmps17
    go_wp2_with fail
    refine (specFracOk_c _ _ _).mono ?_
    rintro e w1 ⟨rfl, b1⟩
    go_wp2_with fail
    go_ret
    exact ⟨ret_int hr.out.symm, andThen (andAlloc (Below.refl _ _) _) b1⟩
  case true =>
    have hr : Hid (floorF n d = n / d) := by show floorF n d = _; simp [floorF, h0]
    obtain ⟨k1, k2, k3, k4⟩ := okB_bds h0
    rcases Int.lt_or_le n 0 with h | h
    · obtain ⟨t1, t2⟩ := tdiv_bd (d := d) k3 k4
      by_cases hz : n.tmod d = 0
      · have e0 : (n.tmod d != 0) = false := by simp [hz]
        have HZ := Lib.hid (fd_pos k1 (show 0 ≤ n.tmod d by omega))
        clear hz
        go_enter Try.func17, Try.ntmps17
        go_wp2_with fail
        refine (specFracOk_c _ _ _).mono ?_
        rintro e w1 ⟨rfl, b1⟩
        obtain ⟨a10, a11, a12, a13⟩ : Box2 w1 w.heap.size (.int .i64 n) (.int .i64 d) := Box2.later b1 ⟨by go_simp, by go_simp, by go_simp, by go_simp⟩
        go_wp2_with fail
        go_ret
        exact ⟨ret_int (by rw [hr.out]; exact HZ.out), andThen (andAlloc (Below.refl _ _) _) b1⟩
      · have e0 : (n.tmod d != 0) = true := by simp [hz]
        have HZ := Lib.hid (fd_neg k1 (show n.tmod d < 0 by
          have := Int.tmod_nonneg d (show 0 ≤ -n by omega)
          rw [Int.neg_tmod] at this
          omega))
        clear hz
        go_enter Try.func17, Try.ntmps17
        go_wp2_with fail
        refine (specFracOk_c _ _ _).mono ?_
        rintro e w1 ⟨rfl, b1⟩
        obtain ⟨a10, a11, a12, a13⟩ : Box2 w1 w.heap.size (.int .i64 n) (.int .i64 d) := Box2.later b1 ⟨by go_simp, by go_simp, by go_simp, by go_simp⟩
        go_wp2_with fail
        go_ret
        exact ⟨ret_int (by rw [hr.out]; exact HZ.out), andThen (andAlloc (Below.refl _ _) _) b1⟩
    · have e1 : decide (n < 0) = false := decide_eq_false (by omega)
      go_enter Try.func17, Try.ntmps17
      go_wp2_with fail
      refine (specFracOk_c _ _ _).mono ?_
      rintro e w1 ⟨rfl, b1⟩
      obtain ⟨a10, a11, a12, a13⟩ : Box2 w1 w.heap.size (.int .i64 n) (.int .i64 d) := Box2.later b1 ⟨by go_simp, by go_simp, by go_simp, by go_simp⟩
      go_wp2_with fail
      go_ret
      exact ⟨ret_int (by rw [hr.out]), andThen (andAlloc (Below.refl _ _) _) b1⟩

end Go.Proofs.Ytlkkbekfkgliaaa
