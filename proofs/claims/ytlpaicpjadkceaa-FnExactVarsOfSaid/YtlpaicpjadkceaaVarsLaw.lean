/-
  The walk of the law FnExactVarsOf. Conditions: the nodes can be read.
-/
import Derived.Test.YtlpaicpjadkceaaBools
namespace Go.Proofs.Ytlpaicpjadkceaa
open Go.RowKit
set_option linter.unusedVariables false
set_option maxRecDepth 4000

theorem varsEnd_br {n : Nat} {F : Nat → Nat → Int} {w w' : World} {e : Ending} (h : VarsEnd n F w e w') :
    ∃ A, e = .returned (.slice A (if formulaB n F = true then 8 else 0) (if formulaB n F = true then 8 else 0)) ∧ BR w' w.heap.size A (if formulaB n F = true then 8 else 0) (varsO n F) ∧ Below w.heap.size w w' := by
  obtain ⟨hb, ⟨h0, A, rfl⟩ | ⟨h0, g, hg, rfl, hr⟩⟩ := h
  · rw [if_neg (by simp [h0])]
    exact ⟨A, rfl, BR.nil, hb⟩
  · rw [if_pos h0]
    exact ⟨_, rfl, fun _ => ⟨g, rfl, hg, hr⟩, hb⟩
theorem vars_le {n : Nat} {F : Nat → Nat → Int} : (if formulaB n F = true then 8 else 0) ≤ 8 := by split <;> omega

set_option maxHeartbeats 4000000 in
theorem walk_FnExactVarsOf (W : World) (a0 : Option Addr) (len0 cap0 : Nat) (F : Nat → Nat → Int) (h1' : Tab 6 W W.heap.size a0 len0 F ∧ len0 ≤ 9223372036854775807) :
    Calls Try.prog 12 #[.slice a0 len0 cap0] W fun e w' => e = .returned (.bool true) ∧ Below W.heap.size W w' := by
  obtain ⟨h1, hlen⟩ := h1'
  have H1 := Lib.hid h1
  clear h1
  by_cases hn : len0 ≤ 1048576
  · have hs := szOf_yes hn
    have k0 : decide ((1048576 : Int) - len0 < 0) = false := decide_eq_false (by omega)
    have HE := fun (w : World) (e : Ending) (w' : World) => @varsEnd_br len0 F w w' e
    have hN := @vars_le len0 F
    generalize (if formulaB len0 F = true then 8 else 0) = N at HE hN
    have HEND := Lib.hid HE
    clear HE
    go_enter Try.func12, Try.ntmps12
    go_wp2_with fail
    refine (szNodeS_c _ _ _ _ hlen).mono ?_
    rintro e w' ⟨rfl, rfl⟩
    rw [hs]
    go_wp2_with fail
    refine (toNodeS_c W.heap.size _ _ _ F _ H1.out (Nat.le_refl _) hn).mono ?_
    rintro e w1 ⟨rfl, o1, b1⟩
    have t1 := o1.rows
    go_wp2_with fail
    refine (specVarsOf_c _ _ _ _ F _ t1 (Nat.le_refl _) (by omega)).mono ?_
    intro e w2 hv
    obtain ⟨As, rfl, r2, b2⟩ := HEND.out _ _ _ hv
    have R2 := r2.brb
    have l2 := andThen b1 b2
    have hl2 : W.heap.size ≤ w2.heap.size := l2.size
    clear hv o1 t1 r2
    go_wp2_with fail
    refine (toNodeS_c W.heap.size _ _ _ F _ (H1.out.keep l2) l2.size hn).mono ?_
    rintro e w3 ⟨rfl, o3, b3⟩
    have l3 := andThen l2 b3
    have R3 := R2.below b3
    have t3 := o3.rows
    have hx : w2.heap.size < w3.heap.size := o3.lt
    go_wp2_with fail
    refine (implVarsOf_c _ _ _ _ F _ t3 (Nat.le_refl _) (by omega)).mono ?_
    intro e w4 hv
    obtain ⟨Ag, rfl, G4, b4⟩ := HEND.out _ _ _ hv
    have l4 := andThen l3 b4
    have R4 := R3.below (b4.mono b3.size)
    have o4 := o3.later b4
    clear hv t3 R2 R3 b1 b2 l2 l3 o3
    go_wp2_with fail
    refine (eqBoolS_c _ _ _ _ _ _ _ _ _ G4 R4.br (by omega)).mono ?_
    rintro e w5 ⟨rfl, d5⟩
    have b5 := d5.below w4.heap.size
    have l5 := andThen l4 b5
    have G5 := G4.later b5
    have R5 := R4.below (d5.below _)
    have o5 := o4.later b5
    have s5 : w3.heap.size ≤ w5.heap.size := Nat.le_trans b4.size b5.size
    clear d5 b4 b5 l4 G4 R4 o4
    go_wp2_with fail
    refine (toNodeS_c W.heap.size _ _ _ F _ (H1.out.keep l5) l5.size hn).mono ?_
    rintro e w6 ⟨rfl, o6, b6⟩
    have l6 := andThen l5 b6
    have G6 := G5.later b6
    have R6 := R5.below (b6.mono (by omega))
    have x6 := o5.later b6
    have s6 : w3.heap.size ≤ w6.heap.size := Nat.le_trans s5 b6.size
    have t6 := o6.rows
    have u6 := x6.rows
    clear b6 l5 G5 R5 o5 s5
    go_wp2_with fail
    refine (eqNodeS_c _ _ _ _ _ _ _ F _ u6 t6 (Nat.le_refl _) (Nat.le_refl _) hn).mono ?_
    rintro e w7 ⟨rfl, b7⟩
    have l7 := andThen l6 b7
    have G7 := G6.later b7
    have R7 := R6.below (b7.mono (by omega))
    obtain ⟨fx, x7, _⟩ := x6.later b7
    have s7 : w3.heap.size ≤ w7.heap.size := Nat.le_trans s6 b7.size
    clear b7 l6 G6 R6 x6 o6 t6 u6 s6
    go_wp2_with fail
    refine (markNodeS_c _ _ _ fx _ x7 (by omega)).mono ?_
    rintro e w8 ⟨rfl, g8⟩
    have l8 := below_only l7 g8 hl2
    have G8 := G7.only g8 hx
    have R8 := R7.only g8 (Nat.le_refl _)
    have s8 : w3.heap.size ≤ w8.heap.size := Nat.le_trans s7 g8.size
    have k8 : decide (1 + 6 * (len0 : Int) < 0) = false := decide_eq_false (by omega)
    clear g8 l7 G7 R7 x7 s7
    go_wp2_with fail
    refine (eqBoolS_c _ _ _ _ _ _ _ _ _ G8 R8.br (by omega)).mono ?_
    rintro e w9 ⟨rfl, d9⟩
    have b9 := d9.below w8.heap.size
    have l9 := andThen l8 b9
    have G9 := G8.later b9
    have R9 := R8.below (d9.below _)
    have s9 : w3.heap.size ≤ w9.heap.size := Nat.le_trans s8 b9.size
    clear d9 b9 l8 G8 R8 s8
    go_wp2_with fail
    refine (markBoolS_c _ _ _ _ _ _ G9 (by omega) s9).mono ?_
    rintro e w10 ⟨rfl, G10, b10⟩
    have l10 := l9.trans (b10.mono (by omega))
    have R10 := R9.below (b10.mono (by omega))
    have s10 : w3.heap.size ≤ w10.heap.size := Nat.le_trans s9 b10.size
    have k10 : decide (1 + (N : Int) < 0) = false := decide_eq_false (by omega)
    clear b10 l9 G9 R9 s9
    go_wp2_with fail
    refine (heldBoolS_c _ _ _ _ _ G10 (by omega)).mono ?_
    rintro e w' ⟨rfl, rfl⟩
    go_wp2_with fail
    refine (toNodeS_c W.heap.size _ _ _ F _ (H1.out.keep l10) l10.size hn).mono ?_
    rintro e w11 ⟨rfl, o11, b11⟩
    have l11 := andThen l10 b11
    have G11 := G10.later b11
    have R11 := R10.below (b11.mono (by omega))
    have t11 := o11.rows
    have s11 : w3.heap.size ≤ w11.heap.size := Nat.le_trans s10 b11.size
    clear b11 l10 G10 R10 o11 s10
    go_wp2_with fail
    refine (implVarsOf_c _ _ _ _ F _ t11 (Nat.le_refl _) (by omega)).mono ?_
    intro e w12 hv
    obtain ⟨Ah, rfl, h12, b12⟩ := HEND.out _ _ _ hv
    have l12 := andThen l11 b12
    have G12 := G11.later b12
    have R12 := R11.below (b12.mono (by omega))
    clear hv b12 l11 G11 R11 t11
    go_wp2_with fail
    refine (eqBoolS_c _ _ _ _ _ _ _ _ _ h12 R12.br (by omega)).mono ?_
    rintro e w13 ⟨rfl, d13⟩
    have b13 := d13.below w12.heap.size
    have l13 := andThen l12 b13
    have G13 := G12.later b13
    clear d13 b13 l12 G12 R12 h12
    go_wp2_with fail
    refine (heldBoolS_c _ _ _ _ _ G13 (by omega)).mono ?_
    rintro e w' ⟨rfl, rfl⟩
    go_wp2_with fail
    go_ret
    exact ⟨rfl, l13⟩
  · have hs := szOf_no hn
    go_enter Try.func12, Try.ntmps12
    go_wp2_with fail
    refine (szNodeS_c _ _ _ _ hlen).mono ?_
    rintro e w' ⟨rfl, rfl⟩
    rw [hs]
    go_wp2_with fail
    go_ret
    exact ⟨rfl, Below.refl _ _⟩

end Go.Proofs.Ytlpaicpjadkceaa
