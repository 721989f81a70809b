/-
  The walk of the law FnAges. Conditions: none.
-/
import Derived.Test.YtkidjldlkmdocaaPlaces
import Derived.Test.YtkidjldlkmdocaaAge
namespace Go.Proofs.Ytkidjldlkmdocaa
open Go.RowKit
set_option linter.unusedVariables false

theorem age1 {b d : Int} (h0 : 0 ≤ b) (h1 : b ≤ 999) (h2 : 0 ≤ d) (h3 : d ≤ 999) : ageAt b (b + d) 1 = d / 12 := by
  unfold ageAt
  rw [inB_true (by omega) (by omega), inB_true (by omega) (by omega), decide_eq_true (show b ≤ b + d by omega)]
  simp; omega
theorem age2 {b d : Int} (h0 : 0 ≤ b) (h1 : b ≤ 999) (h2 : 0 ≤ d) (h3 : d ≤ 999) : ageAt b (b + d) 2 = (d + 6) / 12 := by
  unfold ageAt
  rw [inB_true (by omega) (by omega), inB_true (by omega) (by omega), decide_eq_true (show b ≤ b + d by omega)]
  simp; omega
theorem age3 {b d : Int} (h0 : 0 ≤ b) (h1 : b ≤ 999) (h2 : 0 ≤ d) (h3 : d ≤ 999) : ageAt b (b + d) 3 = d / 12 + 1 := by
  unfold ageAt
  rw [inB_true (by omega) (by omega), inB_true (by omega) (by omega), decide_eq_true (show b ≤ b + d by omega)]
  simp; omega

set_option maxHeartbeats 2000000 in
theorem walk_FnAges (w : World) (A : Option Addr) (n cap : Nat) (z : List Int) (hr : IsRow .u8 w A n cap z) :
    Calls Try.prog 14 #[.slice A n cap] w fun e w' => e = .returned (.bool true) ∧ Below w.heap.size w w' := by
  have hb := bytes0_of_row hr
  clear hr
  cases hbig : decide (1048576 < n)
  case true =>
    go_enter Try.func14, Try.ntmps14
    go_wp2_with (go_at_call 36; refine (big_c _ _ _ _).mono ?_; rintro e w' ⟨rfl, rfl⟩)
    go_ret
    exact ⟨rfl, Below.refl _ _⟩
  case false =>
    have hn : n ≤ 2000000 := by have := of_decide_eq_false hbig; omega
    have HB := Lib.hid hb
    clear hb
    go_enter Try.func14, Try.ntmps14
    go_wp2_with fail
    refine (big_c _ _ _ _).mono ?_
    rintro e w' ⟨rfl, rfl⟩
    go_wp2_with fail
    refine (drawPlaces_c _ _ _ _ HB.out hn).mono ?_
    rintro e w1 ⟨v, zs, rfl, hl, hp, hown, hbel⟩
    obtain ⟨g, cp, rfl, hg1, hg2, hcp, hc⟩ := hown.form (by omega)
    have c0 := hc 0 (by omega)
    have c1 := hc 1 (by omega)
    have q0 := hp zs[0] (List.getElem_mem _)
    have q1 := hp zs[1] (List.getElem_mem _)
    generalize zs[0] = p0 at *
    generalize zs[1] = p1 at *
    obtain ⟨q00, q01⟩ := q0
    obtain ⟨q10, q11⟩ := q1
    rw [hl] at hcp ⊢
    clear hc hown hp hl
    have a0 := Int.emod_nonneg p0 (show (1000 : Int) ≠ 0 by decide)
    have a1 := Int.emod_lt_of_pos p0 (show (0 : Int) < 1000 by decide)
    have a2 := Int.emod_nonneg p1 (show (1000 : Int) ≠ 0 by decide)
    have a3 := Int.emod_lt_of_pos p1 (show (0 : Int) < 1000 by decide)
    have G1 := Lib.hid (age1 (b := p0 % 1000) (d := p1 % 1000) (by omega) (by omega) (by omega) (by omega))
    have G2 := Lib.hid (age2 (b := p0 % 1000) (d := p1 % 1000) (by omega) (by omega) (by omega) (by omega))
    have G3 := Lib.hid (age3 (b := p0 % 1000) (d := p1 % 1000) (by omega) (by omega) (by omega) (by omega))
    go_wp2_with fail
    refine (implAgeAt_c _ _ _ _).mono ?_
    rintro e w2 ⟨rfl, rfl⟩
    rw [G1.out]
    go_wp2_with fail
    refine (implAgeAt_c _ _ _ _).mono ?_
    rintro e w2 ⟨rfl, rfl⟩
    rw [G2.out]
    go_wp2_with fail
    refine (implAgeAt_c _ _ _ _).mono ?_
    rintro e w2 ⟨rfl, rfl⟩
    rw [G3.out]
    generalize p0 % 1000 = b at *
    generalize p1 % 1000 = d at *
    have e0 : b + d - b = d := by omega
    by_cases h6 : 6 ≤ d % 12
    · have e1 : (d + 6) / 12 = d / 12 + 1 := by omega
      go_wp2_with fail
      go_ret
      refine ⟨ret_bool (by first | rfl | (simp; omega)), hbel⟩
    · have e1 : (d + 6) / 12 = d / 12 := by omega
      have h7 : d % 12 < 6 := by omega
      have h8 : decide (6 ≤ d % 12) = false := decide_eq_false h6
      have h9 : (d / 12 == d / 12 + 1) = false := beq_eq_false_iff_ne.2 (by omega)
      clear h6
      go_wp2_with fail
      go_ret
      refine ⟨ret_bool (by first | rfl | (simp; omega)), hbel⟩

end Go.Proofs.Ytkidjldlkmdocaa
