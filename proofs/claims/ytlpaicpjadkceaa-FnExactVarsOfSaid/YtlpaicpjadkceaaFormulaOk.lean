/-
  FormulaOk of both packages computes one plain condition; the walk of the law FnExactFormulaOk. Conditions: the nodes can be read.
-/
import Derived.Test.YtlpaicpjadkceaaNodeIn
namespace Go.Proofs.Ytlpaicpjadkceaa
open Go.RowKit
set_option linter.unusedVariables false
set_option maxRecDepth 4000

def ndB (F : Nat → Nat → Int) (i : Nat) : Bool := nodeB (F i 0) (F i 1) (F i 2) (F i 3) (F i 4) (F i 5) (i : Int)
def formulaB (n : Nat) (F : Nat → Nat → Int) : Bool := (List.range n).all (ndB F) && inB (n : Int) 1 30
theorem formulaB_no {n i : Nat} {F : Nat → Nat → Int} (hi : i < n) (h : ndB F i = false) : formulaB n F = false := by
  have : (List.range n).all (ndB F) = false := by
    rw [List.all_eq_false]
    exact ⟨i, by simpa using hi, by simp [h]⟩
  unfold formulaB
  rw [this]
  rfl
theorem formulaB_yes {n : Nat} {F : Nat → Nat → Int} (h : ∀ i, i < n → ndB F i = true) : formulaB n F = inB (n : Int) 1 30 := by
  have : (List.range n).all (ndB F) = true := by
    rw [List.all_eq_true]
    intro i hi
    exact h i (by simpa using hi)
  unfold formulaB
  rw [this]
  rfl
theorem formulaB_at {n i : Nat} {F : Nat → Nat → Int} (h : formulaB n F = true) (hi : i < n) : ndB F i = true := by
  unfold formulaB at h
  rw [Bool.and_eq_true, List.all_eq_true] at h
  exact h.1 i (by simpa using hi)
theorem formulaB_len {n : Nat} {F : Nat → Nat → Int} (h : formulaB n F = true) : 1 ≤ n ∧ n ≤ 30 := by
  unfold formulaB at h
  rw [Bool.and_eq_true] at h
  have := inB_iff.1 h.2
  omega

set_option maxHeartbeats 2000000 in
theorem implFormulaOk_c (L : Nat) (A : Option Addr) (n cap : Nat) (F : Nat → Nat → Int) (w : World) (h1 : Tab 6 w L A n F) (hL : L ≤ w.heap.size) (hn : n ≤ 1048577) :
    Calls Try.prog 45 #[.slice A n cap] w fun e w' => e = .returned (.bool (formulaB n F)) ∧ Below w.heap.size w w' := by
  have H1 := Lib.hid h1
  clear h1
  go_enter Try.func45, Try.ntmps45
  go_wp2_with fail
  go_loopw [7] (fun i wr => ∃ m : Nat, m ≤ n ∧ i = .int .i64 m ∧ (∀ i, i < m → ndB F i = true) ∧ Below w.heap.size w wr) (fun i _ => n - (intOf i).toNat)
  case atStart => exact ⟨0, Nat.zero_le _, rfl, (fun i hi => by omega), Below.refl _ _⟩
  case round =>
    obtain ⟨m, hm, rfl, hall, hbl⟩ := hrel
    have HALL := Lib.hid hall
    clear hall
    by_cases hlt : m < n
    · obtain ⟨b, off, rfl, hb, ⟨c0, c1, c2, c3, c4, c5⟩, _⟩ := (H1.out.keep (hbl.mono hL)).at6 hlt
      have HC := Lib.hid (fun w' => implNodeOk_c (F m 0) (F m 1) (F m 2) (F m 3) (F m 4) (F m 5) (m : Int) w' (by omega) (by omega))
      have hbl1 := andAlloc hbl (.cells #[.int .i64 (F m 0), .int .i64 (F m 1), .int .i64 (F m 2), .int .i64 (F m 3), .int .i64 (F m 4), .int .i64 (F m 5)] 70)
      have k0 : (0 : Int) ≤ (m : Int) := by omega
      have k1 : (m : Int) < (n : Int) := by omega
      cases hv : ndB F m
      case false =>
        have HN := Lib.hid (formulaB_no hlt hv)
        have hv' : nodeB (F m 0) (F m 1) (F m 2) (F m 3) (F m 4) (F m 5) (m : Int) = false := hv
        rw [hv'] at HC
        clear hv hv'
        generalize F m 0 = x0 at *
        generalize F m 1 = x1 at *
        generalize F m 2 = x2 at *
        generalize F m 3 = x3 at *
        generalize F m 4 = x4 at *
        generalize F m 5 = x5 at *
        go_wp2_with (go_at_call 41; refine (HC.out _).mono ?_; rintro e w1 ⟨rfl, b1⟩)
        go_ret
        exact ⟨ret_bool HN.out.symm, andThen hbl1 b1⟩
      case true =>
        have HALL2 : Hid (∀ i, i < m + 1 → ndB F i = true) := fun i hi => by
          rcases Nat.lt_or_ge i m with h | h
          · exact HALL.out i h
          · obtain rfl : i = m := by omega
            exact hv
        have hv' : nodeB (F m 0) (F m 1) (F m 2) (F m 3) (F m 4) (F m 5) (m : Int) = true := hv
        rw [hv'] at HC
        clear hv hv' HALL
        generalize F m 0 = x0 at *
        generalize F m 1 = x1 at *
        generalize F m 2 = x2 at *
        generalize F m 3 = x3 at *
        generalize F m 4 = x4 at *
        generalize F m 5 = x5 at *
        go_wp2_with (go_at_call 41; refine (HC.out _).mono ?_; rintro e w1 ⟨rfl, b1⟩)
        go_roundw
        case rel => exact ⟨m + 1, by omega, by go_num, HALL2.out, andThen hbl1 b1⟩
        case measure => simp [intOf]; omega
    · obtain rfl : m = n := by omega
      go_wp2_with (go_at_call 60; refine (within_c _ _ _ _).mono ?_; rintro e w' ⟨rfl, rfl⟩)
      go_ret
      exact ⟨ret_bool (formulaB_yes HALL.out).symm, hbl⟩

set_option maxHeartbeats 2000000 in
theorem specFormulaOk_c (L : Nat) (A : Option Addr) (n cap : Nat) (F : Nat → Nat → Int) (w : World) (h1 : Tab 6 w L A n F) (hL : L ≤ w.heap.size) (hn : n ≤ 1048577) :
    Calls Try.prog 43 #[.slice A n cap] w fun e w' => e = .returned (.bool (formulaB n F)) ∧ Below w.heap.size w w' := by
  have H1 := Lib.hid h1
  clear h1
  go_enter Try.func43, Try.ntmps43
  go_wp2_with fail
  go_loopw [3] (fun i wr => ∃ m : Nat, m ≤ n ∧ i = .int .i64 m ∧ (∀ i, i < m → ndB F i = true) ∧ Below w.heap.size w wr) (fun i _ => n - (intOf i).toNat)
  case atStart => exact ⟨0, Nat.zero_le _, rfl, (fun i hi => by omega), Below.refl _ _⟩
  case round =>
    obtain ⟨m, hm, rfl, hall, hbl⟩ := hrel
    have HALL := Lib.hid hall
    clear hall
    by_cases hlt : m < n
    · obtain ⟨b, off, rfl, hb, ⟨c0, c1, c2, c3, c4, c5⟩, _⟩ := (H1.out.keep (hbl.mono hL)).at6 hlt
      have HC := Lib.hid (fun w' => specNodeOk_c (F m 0) (F m 1) (F m 2) (F m 3) (F m 4) (F m 5) (m : Int) w')
      have k0 : (0 : Int) ≤ (m : Int) := by omega
      have k1 : (m : Int) < (n : Int) := by omega
      cases hv : ndB F m
      case false =>
        have HN := Lib.hid (formulaB_no hlt hv)
        have hv' : nodeB (F m 0) (F m 1) (F m 2) (F m 3) (F m 4) (F m 5) (m : Int) = false := hv
        rw [hv'] at HC
        clear hv hv'
        generalize F m 0 = x0 at *
        generalize F m 1 = x1 at *
        generalize F m 2 = x2 at *
        generalize F m 3 = x3 at *
        generalize F m 4 = x4 at *
        generalize F m 5 = x5 at *
        go_wp2_with (go_at_call 39; refine (HC.out _).mono ?_; rintro e w1 ⟨rfl, b1⟩)
        go_ret
        exact ⟨ret_bool HN.out.symm, andThen hbl b1⟩
      case true =>
        have HALL2 : Hid (∀ i, i < m + 1 → ndB F i = true) := fun i hi => by
          rcases Nat.lt_or_ge i m with h | h
          · exact HALL.out i h
          · obtain rfl : i = m := by omega
            exact hv
        have hv' : nodeB (F m 0) (F m 1) (F m 2) (F m 3) (F m 4) (F m 5) (m : Int) = true := hv
        rw [hv'] at HC
        clear hv hv' HALL
        generalize F m 0 = x0 at *
        generalize F m 1 = x1 at *
        generalize F m 2 = x2 at *
        generalize F m 3 = x3 at *
        generalize F m 4 = x4 at *
        generalize F m 5 = x5 at *
        go_wp2_with (go_at_call 39; refine (HC.out _).mono ?_; rintro e w1 ⟨rfl, b1⟩)
        go_roundw
        case rel => exact ⟨m + 1, by omega, by go_num, HALL2.out, andThen hbl b1⟩
        case measure => simp [intOf]; omega
    · obtain rfl : m = n := by omega
      go_wp2_with (go_at_call 58; refine (l01In_c _ _ _ _).mono ?_; rintro e w' ⟨rfl, rfl⟩)
      go_ret
      exact ⟨ret_bool (formulaB_yes HALL.out).symm, hbl⟩

def szOf (n : Nat) (l : Int) : Int := if l - n < 0 then -1 else l - n
theorem szOf_no {n : Nat} (h : ¬ n ≤ 1048576) : szOf n 1048576 = -1 := if_pos (by omega)
theorem szOf_yes {n : Nat} (h : n ≤ 1048576) : szOf n 1048576 = 1048576 - n := if_neg (by omega)
set_option maxHeartbeats 400000 in
theorem szNodeS_c (A : Option Addr) (n cap : Nat) (w : World) (hn : n ≤ 9223372036854775807) :
    Calls Try.prog 42 #[.slice A n cap, .int .i64 1048576] w fun e w' => e = .returned (.int .i64 (szOf n 1048576)) ∧ w = w' := by
  cases h : decide ((1048576 : Int) - n < 0)
  · have HS : Hid (szOf n 1048576 = 1048576 - n) := if_neg (of_decide_eq_false h)
    go_enter Try.func42, Try.ntmps42
    go_wp2
    go_ret
    exact ⟨ret_int HS.out.symm, rfl⟩
  · have HS : Hid (szOf n 1048576 = -1) := if_pos (of_decide_eq_true h)
    go_enter Try.func42, Try.ntmps42
    go_wp2
    go_ret
    exact ⟨ret_int HS.out.symm, rfl⟩

set_option maxHeartbeats 2000000 in
theorem walk_FnExactFormulaOk (W : World) (a0 : Option Addr) (len0 cap0 : Nat) (F : Nat → Nat → Int) (h1' : Tab 6 W W.heap.size a0 len0 F ∧ len0 ≤ 9223372036854775807) :
    Calls Try.prog 11 #[.slice a0 len0 cap0] W fun e w' => e = .returned (.bool true) ∧ Below W.heap.size W w' := by
  obtain ⟨h1, hlen⟩ := h1'
  have H1 := Lib.hid h1
  clear h1
  by_cases hn : len0 ≤ 1048576
  · have hs := szOf_yes hn
    have k0 : decide ((1048576 : Int) - len0 < 0) = false := decide_eq_false (by omega)
    go_enter Try.func11, Try.ntmps11
    go_wp2_with fail
    refine (szNodeS_c _ _ _ _ hlen).mono ?_
    rintro e w' ⟨rfl, rfl⟩
    rw [hs]
    go_wp2_with fail
    refine (toNodeS_c W.heap.size _ _ _ F _ H1.out (Nat.le_refl _) hn).mono ?_
    rintro e w1 ⟨rfl, o1, b1⟩
    have t1 := o1.rows
    go_wp2_with fail
    refine (specFormulaOk_c _ _ _ _ F _ t1 (Nat.le_refl _) (by omega)).mono ?_
    rintro e w2 ⟨rfl, b2⟩
    have l2 := andThen b1 b2
    go_wp2_with fail
    refine (toNodeS_c W.heap.size _ _ _ F _ (H1.out.keep l2) l2.size hn).mono ?_
    rintro e w3 ⟨rfl, o3, b3⟩
    have l3 := andThen l2 b3
    have t3 := o3.rows
    go_wp2_with fail
    refine (implFormulaOk_c _ _ _ _ F _ t3 (Nat.le_refl _) (by omega)).mono ?_
    rintro e w4 ⟨rfl, b4⟩
    have l4 := andThen l3 b4
    have t4 := t3.keep b4
    go_wp2_with fail
    refine (toNodeS_c W.heap.size _ _ _ F _ (H1.out.keep l4) l4.size hn).mono ?_
    rintro e w5 ⟨rfl, o5, b5⟩
    have l5 := andThen l4 b5
    have t5 := o5.rows
    have t4' := t4.keep (b5.mono b4.size)
    have hz : w3.heap.size ≤ w5.heap.size := Nat.le_trans b4.size b5.size
    go_wp2_with fail
    refine (eqNodeS_c _ _ _ _ _ _ _ F _ t4' t5 hz (Nat.le_refl _) hn).mono ?_
    rintro e w6 ⟨rfl, b6⟩
    go_wp2_with fail
    go_ret
    exact ⟨rfl, andThen l5 b6⟩
  · have hs := szOf_no hn
    go_enter Try.func11, Try.ntmps11
    go_wp2_with fail
    refine (szNodeS_c _ _ _ _ hlen).mono ?_
    rintro e w' ⟨rfl, rfl⟩
    rw [hs]
    go_wp2_with fail
    go_ret
    exact ⟨rfl, Below.refl _ _⟩

end Go.Proofs.Ytlpaicpjadkceaa
