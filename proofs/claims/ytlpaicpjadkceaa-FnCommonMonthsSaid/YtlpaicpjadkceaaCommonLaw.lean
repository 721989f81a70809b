/-
  The walk of the law FnCommonMonths. Conditions: none.
-/
import Derived.Test.YtlpaicpjadkceaaMonthsIn
namespace Go.Proofs.Ytlpaicpjadkceaa
open Go.RowKit
set_option linter.unusedVariables false
set_option maxRecDepth 4000

theorem common_step {a b c d : Int} (m : Int) (k : Int) (h : k = max 0 (min m (min b d) - max a c)) :
    (if a ≤ m ∧ m < b ∧ c ≤ m ∧ m < d then k + 1 else k) = max 0 (min (m + 1) (min b d) - max a c) := by
  split <;> omega

set_option maxHeartbeats 4000000 in
theorem walk_FnCommonMonths (w : World) (A : Option Addr) (n cap : Nat) (z : List Int) (hr : IsRow .u8 w A n cap z) :
    Calls Try.prog 13 #[.slice A n cap] w fun e w' => e = .returned (.bool true) ∧ Below w.heap.size w w' := by
  have hb := bytes0_of_row hr
  clear hr
  cases hbig : decide (1048576 < n)
  case true =>
    go_enter Try.func13, Try.ntmps13
    go_wp2_with (go_at_call 31; refine (big_c _ _ _ _).mono ?_; rintro e w' ⟨rfl, rfl⟩)
    go_ret
    exact ⟨rfl, Below.refl _ _⟩
  case false =>
    have hn : n ≤ 2000000 := by have := of_decide_eq_false hbig; omega
    have HB := Lib.hid hb
    clear hb
    go_enter Try.func13, Try.ntmps13
    go_wp2_with fail
    refine (big_c _ _ _ _).mono ?_
    rintro e w' ⟨rfl, rfl⟩
    go_wp2_with fail
    refine (drawPlaces_c _ _ _ _ HB.out hn).mono ?_
    rintro e w1 ⟨v, zs, rfl, hl, hp, hown, hbel⟩
    obtain ⟨g, cp, rfl, hg1, hg2, hcp, hc⟩ := hown.form (by omega)
    have c0 := hc 0 (by omega)
    have c1 := hc 1 (by omega)
    have c2 := hc 2 (by omega)
    have c3 := hc 3 (by omega)
    have q0 := hp zs[0] (List.getElem_mem _)
    have q1 := hp zs[1] (List.getElem_mem _)
    have q2 := hp zs[2] (List.getElem_mem _)
    have q3 := hp zs[3] (List.getElem_mem _)
    generalize zs[0] = p0 at *
    generalize zs[1] = p1 at *
    generalize zs[2] = p2 at *
    generalize zs[3] = p3 at *
    obtain ⟨q00, q01⟩ := q0
    obtain ⟨q10, q11⟩ := q1
    obtain ⟨q20, q21⟩ := q2
    obtain ⟨q30, q31⟩ := q3
    rw [hl] at hcp ⊢
    clear hc hown hp hl
    have a0 := Int.emod_nonneg p0 (show (100 : Int) ≠ 0 by decide)
    have a1 := Int.emod_lt_of_pos p0 (show (0 : Int) < 100 by decide)
    have b0 := Int.emod_nonneg p1 (show (100 : Int) ≠ 0 by decide)
    have b1 := Int.emod_lt_of_pos p1 (show (0 : Int) < 100 by decide)
    have e0 := Int.emod_nonneg p2 (show (100 : Int) ≠ 0 by decide)
    have e1 := Int.emod_lt_of_pos p2 (show (0 : Int) < 100 by decide)
    have d0 := Int.emod_nonneg p3 (show (100 : Int) ≠ 0 by decide)
    have d1 := Int.emod_lt_of_pos p3 (show (0 : Int) < 100 by decide)
    go_wp2_with fail
    generalize p0 % 100 = a at *
    generalize p1 % 100 = b at *
    generalize p2 % 100 = c at *
    generalize p3 % 100 = d at *
    clear q00 q01 q10 q11 q20 q21 q30 q31 c0 c1 c2 c3
    go_loopw [8, 9] (fun k m wr => ∃ (x y : Int), 0 ≤ y ∧ y ≤ 100 ∧ k = .int .i64 x ∧ m = .int .i64 y ∧ x = max 0 (min y (min b d) - max a c) ∧ Below w.heap.size w wr) (fun _ m _ => (100 - intOf m).toNat)
    case atStart => exact ⟨0, 0, by omega, by omega, rfl, rfl, by omega, hbel⟩
    case round =>
      obtain ⟨x, y, hy0, hy1, rfl, rfl, hx, hbl⟩ := hrel
      by_cases hy : y < 100
      · have hst := common_step y x hx
        have hx1 : x ≤ 100 := by omega
        have hx0 : 0 ≤ x := by omega
        have HST := Lib.hid hst
        clear hst hx
        cases f1 : decide (a ≤ y) <;> cases f2 : decide (y < b) <;> cases f3 : decide (c ≤ y) <;> cases f4 : decide (y < d)
        all_goals
          have HX := HST.out
          first
          | rw [if_neg (by simp only [decide_eq_false_iff_not] at *; omega)] at HX
          | rw [if_pos (by simp only [decide_eq_true_eq] at *; omega)] at HX
          have HH := Lib.hid HX
          clear HX
          go_wp2_with fail
          go_roundw
          case rel => exact ⟨_, y + 1, by omega, by omega, rfl, rfl, HH.out, hbl⟩
          case measure => simp [intOf]; omega
      · obtain rfl : y = 100 := by omega
        have hx' : x = common a b c d := by unfold common; omega
        have hall : monthsIn a b c d = x := by
          rw [hx']; unfold monthsIn
          rw [inB_true (by omega) (by omega), inB_true (by omega) (by omega), inB_true (by omega) (by omega), inB_true (by omega) (by omega)]
          rfl
        have HA := Lib.hid hall
        clear hall hx' hx
        go_wp2_with fail
        refine (implMonthsIn_c _ _ _ _ _).mono ?_
        rintro e w2 ⟨rfl, b2⟩
        rw [HA.out]
        go_wp2_with fail
        go_ret
        exact ⟨by simp, hbl.trans (b2.mono hbl.size)⟩

end Go.Proofs.Ytlpaicpjadkceaa
