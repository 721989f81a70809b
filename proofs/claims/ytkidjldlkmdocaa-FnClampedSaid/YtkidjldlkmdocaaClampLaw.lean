/-
  DrawClamp returns three numbers; the walk of the law FnClamped. Conditions: none.
-/
import Derived.Test.YtkidjldlkmdocaaPick
import Derived.Test.YtkidjldlkmdocaaA1
namespace Go.Proofs.Ytkidjldlkmdocaa
open Go.RowKit
set_option linter.unusedVariables false

def ThreeEnd (w : World) (e : Ending) (w' : World) : Prop := ∃ a b c : Int, e = .returned (.tuple #[.int .i64 a, .int .i64 b, .int .i64 c]) ∧ Below w.heap.size w w'

set_option maxHeartbeats 1000000 in
theorem drawClamp_c (A : Option Addr) (n cap : Nat) (w : World) (hb : Bytes w w.heap.size A n) (hn : n ≤ 2000000) :
    Calls Try.prog 38 #[.slice A n cap] w (ThreeEnd w) := by
  have HB := Lib.hid hb
  clear hb
  go_enter Try.func38, Try.ntmps38
  go_wp2_with fail
  refine (l01New_c w.heap.size A n cap _ HB.out hn (Nat.le_refl _)).mono ?_
  rintro e w1 ⟨B, rfl, hB, hcur, hbel⟩
  go_wp2_with fail
  refine (l01Once_c w.heap.size B 4 _ hcur (by omega)).mono ?_
  rintro e w2 ⟨b, rfl, hc2, hg2⟩
  have hl := hcur.le
  cases b
  · go_wp2_with fail
    refine (l01Below_c w.heap.size B 40 _ hc2 (by omega)).mono ?_
    rintro e w3 ⟨x, ⟨hx0, hx1⟩, rfl, hc3, hg3⟩
    go_wp2_with fail
    refine (l01Below_c w.heap.size B 80 _ hc3 (by omega)).mono ?_
    rintro e w4 ⟨y, ⟨hy0, hy1⟩, rfl, hc4, hg4⟩
    go_wp2_with fail
    refine (l01Below_c w.heap.size B 30 _ hc4 (by omega)).mono ?_
    rintro e w5 ⟨z, ⟨hz0, hz1⟩, rfl, hc5, hg5⟩
    go_wp2_with fail
    go_ret3
    exact ⟨_, _, _, rfl, below_only hbel (only_trans (only_trans (only_trans hg2 hg3) hg4) hg5) hl⟩
  · go_wp2_with fail
    refine (l01Number_c w.heap.size B _ hc2).mono ?_
    rintro e w3 ⟨x, hx, rfl, hc3, hg3⟩
    have HX := Lib.hid hx
    clear hx
    go_wp2_with fail
    refine (l01Number_c w.heap.size B _ hc3).mono ?_
    rintro e w4 ⟨y, hy, rfl, hc4, hg4⟩
    clear hy
    go_wp2_with fail
    refine (l01Number_c w.heap.size B _ hc4).mono ?_
    rintro e w5 ⟨z, hz, rfl, hc5, hg5⟩
    clear hz
    go_wp2_with fail
    go_ret3
    exact ⟨_, _, _, rfl, below_only hbel (only_trans (only_trans (only_trans hg2 hg3) hg4) hg5) hl⟩

theorem clampI_in {n a b : Int} (h : a ≤ b) : a ≤ clampI n a b ∧ clampI n a b ≤ b := by unfold clampI; split <;> (try split) <;> omega
theorem clampI_again {n a b : Int} (h : a ≤ b) : clampI (clampI n a b) a b = clampI n a b := by
  have := clampI_in (n := n) h
  generalize clampI n a b = x at *
  unfold clampI; split <;> (try split) <;> omega
theorem clampI_low {n a b : Int} (h : b < a) : clampI n a b = a := by unfold clampI; rw [if_pos (Or.inl h)]
theorem clampI_same {n a b : Int} (h1 : a ≤ n) (h2 : n ≤ b) : clampI n a b = n := by unfold clampI; split <;> (try split) <;> omega

set_option maxHeartbeats 2000000 in
theorem walk_FnClamped (w : World) (A : Option Addr) (n cap : Nat) (z : List Int) (hr : IsRow .u8 w A n cap z) :
    Calls Try.prog 13 #[.slice A n cap] w fun e w' => e = .returned (.bool true) ∧ Below w.heap.size w w' := by
  have hb := bytes0_of_row hr
  clear hr
  cases hbig : decide (1048576 < n)
  case true =>
    go_enter Try.func13, Try.ntmps13
    go_wp2_with (go_at_call 36; refine (big_c _ _ _ _).mono ?_; rintro e w' ⟨rfl, rfl⟩)
    go_ret
    exact ⟨rfl, Below.refl _ _⟩
  case false =>
    have hn : n ≤ 2000000 := by have := of_decide_eq_false hbig; omega
    have HB := Lib.hid hb
    clear hb
    have h735 : Hid (clampI 7 3 5 = 5) := by show clampI 7 3 5 = 5; decide
    go_enter Try.func13, Try.ntmps13
    go_wp2_with fail
    refine (big_c _ _ _ _).mono ?_
    rintro e w' ⟨rfl, rfl⟩
    go_wp2_with fail
    refine (drawClamp_c _ _ _ _ HB.out hn).mono ?_
    rintro e w1 ⟨x, a, b, rfl, hbel⟩
    go_wp2_with fail
    refine (implClamp_c _ _ _ _).mono ?_
    rintro e w2 ⟨rfl, rfl⟩
    rcases Int.lt_or_le b a with h | h
    · rw [clampI_low h]
      go_wp2_with fail
      refine (implClamp_c _ _ _ _).mono ?_
      rintro e w2 ⟨rfl, rfl⟩
      rw [h735.out]
      go_wp2_with fail
      go_ret
      exact ⟨rfl, hbel⟩
    · have h1 := clampI_in (n := x) h
      have h2 := Lib.hid (clampI_again (n := x) h)
      rcases (show x < a ∨ b < x ∨ (a ≤ x ∧ x ≤ b) by omega) with u | u | u
      · generalize clampI x a b = y at *
        obtain ⟨h3, h4⟩ := h1
        go_wp2_with (go_at_call 18; refine (implClamp_c _ _ _ _).mono ?_; rintro e w2 ⟨rfl, rfl⟩; first | rw [h735.out] | rw [h2.out])
        go_ret
        exact ⟨rfl, hbel⟩
      · generalize clampI x a b = y at *
        obtain ⟨h3, h4⟩ := h1
        have d1 : decide (x < a) = false := decide_eq_false (by omega)
        go_wp2_with (go_at_call 18; refine (implClamp_c _ _ _ _).mono ?_; rintro e w2 ⟨rfl, rfl⟩; first | rw [h735.out] | rw [h2.out])
        go_ret
        exact ⟨rfl, hbel⟩
      · obtain ⟨u1, u2⟩ := u
        have e := clampI_same u1 u2
        rw [e] at h2 ⊢
        have d1 : decide (x < a) = false := decide_eq_false (by omega)
        have d2 : decide (b < x) = false := decide_eq_false (by omega)
        clear h1 e
        go_wp2_with (go_at_call 18; refine (implClamp_c _ _ _ _).mono ?_; rintro e w2 ⟨rfl, rfl⟩; first | rw [h735.out] | rw [h2.out])
        go_ret
        exact ⟨rfl, hbel⟩

end Go.Proofs.Ytkidjldlkmdocaa
