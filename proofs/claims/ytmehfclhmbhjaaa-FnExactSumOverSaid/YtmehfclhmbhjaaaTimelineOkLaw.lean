/-
  The walk of the law FnExactTimelineOk; szSegmentS. Conditions: none.
-/
import Derived.Test.YtmehfclhmbhjaaaTimelineOk
namespace Go.Proofs.Ytmehfclhmbhjaaa
open Go.RowKit
set_option linter.unusedVariables false
set_option maxRecDepth 4000

def szOf (n : Nat) (l : Int) : Int := if l - n < 0 then -1 else l - n
theorem szOf_no {n : Nat} (h : ¬ n ≤ 1048576) : szOf n 1048576 = -1 := if_pos (by omega)
theorem szOf_yes {n : Nat} (h : n ≤ 1048576) : szOf n 1048576 = 1048576 - n := if_neg (by omega)
set_option maxHeartbeats 400000 in
theorem szSegmentS_c (A : Option Addr) (n cap : Nat) (w : World) (hn : n ≤ 9223372036854775807) :
    Calls Try.prog 15 #[.slice A n cap, .int .i64 1048576] w fun e w' => e = .returned (.int .i64 (szOf n 1048576)) ∧ w = w' := by
  cases h : decide ((1048576 : Int) - n < 0)
  · have HS : Hid (szOf n 1048576 = 1048576 - n) := if_neg (of_decide_eq_false h)
    go_enter Try.func15, Try.ntmps15
    go_wp2
    go_ret
    exact ⟨ret_int HS.out.symm, rfl⟩
  · have HS : Hid (szOf n 1048576 = -1) := if_pos (of_decide_eq_true h)
    go_enter Try.func15, Try.ntmps15
    go_wp2
    go_ret
    exact ⟨ret_int HS.out.symm, rfl⟩

set_option maxHeartbeats 2000000 in
theorem walk_FnExactTimelineOk (W : World) (a0 : Option Addr) (len0 cap0 : Nat) (F : Nat → Nat → Int) (h1' : Tab 3 W W.heap.size a0 len0 F ∧ len0 ≤ 9223372036854775807) :
    Calls Try.prog 4 #[.slice a0 len0 cap0] W fun e w' => e = .returned (.bool true) ∧ Below W.heap.size W w' := by
  obtain ⟨h1, hlen⟩ := h1'
  have H1 := Lib.hid h1
  clear h1
  by_cases hn : len0 ≤ 1048576
  · have hs := szOf_yes hn
    have k0 : decide ((1048576 : Int) - len0 < 0) = false := decide_eq_false (by omega)
    go_enter Try.func4, Try.ntmps4
    go_wp2_with fail
    refine (szSegmentS_c _ _ _ _ hlen).mono ?_
    rintro e w' ⟨rfl, rfl⟩
    rw [hs]
    go_wp2_with fail
    refine (toSegmentS_c W.heap.size _ _ _ F _ H1.out (Nat.le_refl _) hn).mono ?_
    rintro e w1 ⟨rfl, o1, b1⟩
    have t1 := o1.rows
    go_wp2_with fail
    refine (specTimelineOk_c _ _ _ _ F _ t1 (Nat.le_refl _) hn).mono ?_
    rintro e w2 ⟨rfl, b2⟩
    have l2 := andThen b1 b2
    go_wp2_with fail
    refine (toSegmentS_c W.heap.size _ _ _ F _ (H1.out.keep l2) l2.size hn).mono ?_
    rintro e w3 ⟨rfl, o3, b3⟩
    have l3 := andThen l2 b3
    have t3 := o3.rows
    go_wp2_with fail
    refine (implTimelineOk_c _ _ _ _ F _ t3 (Nat.le_refl _) hn).mono ?_
    rintro e w4 ⟨rfl, b4⟩
    have l4 := andThen l3 b4
    have t4 := t3.keep b4
    go_wp2_with fail
    refine (toSegmentS_c W.heap.size _ _ _ F _ (H1.out.keep l4) l4.size hn).mono ?_
    rintro e w5 ⟨rfl, o5, b5⟩
    have l5 := andThen l4 b5
    have t5 := o5.rows
    have t4' := t4.keep (b5.mono b4.size)
    have hz : w3.heap.size ≤ w5.heap.size := Nat.le_trans b4.size b5.size
    go_wp2_with fail
    refine (eqSegmentS_c _ _ _ _ _ _ _ F _ t4' t5 hz (Nat.le_refl _) hn).mono ?_
    rintro e w6 ⟨rfl, b6⟩
    go_wp2_with fail
    go_ret
    exact ⟨rfl, andThen l5 b6⟩
  · have hs := szOf_no hn
    go_enter Try.func4, Try.ntmps4
    go_wp2_with fail
    refine (szSegmentS_c _ _ _ _ hlen).mono ?_
    rintro e w' ⟨rfl, rfl⟩
    rw [hs]
    go_wp2_with fail
    go_ret
    exact ⟨rfl, Below.refl _ _⟩

end Go.Proofs.Ytmehfclhmbhjaaa
