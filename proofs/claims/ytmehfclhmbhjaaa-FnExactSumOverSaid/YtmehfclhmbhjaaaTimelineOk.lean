/-
  TimelineOk of both packages computes one plain function. Conditions: the list can be read.
-/
import Derived.Test.YtmehfclhmbhjaaaSegIn
import Derived.Test.YtmehfclhmbhjaaaFact
namespace Go.Proofs.Ytmehfclhmbhjaaa
open Go.RowKit
set_option linter.unusedVariables false
set_option maxRecDepth 4000

def tlB (F : Nat → Nat → Int) (i : Nat) : Bool :=
  isSpanB (F i 0) (F i 1) && !(decide (0 < i) && (decide (F i 0 < F (i - 1) 1) || (F i 0 == F (i - 1) 1 && F i 2 == F (i - 1) 2)))
def timelineB (n : Nat) (F : Nat → Nat → Int) : Bool := (List.range n).all (tlB F) && decide (n ≤ 401)

theorem timelineB_no {n i : Nat} {F : Nat → Nat → Int} (hi : i < n) (h : tlB F i = false) : timelineB n F = false := by
  have : (List.range n).all (tlB F) = false := by
    rw [List.all_eq_false]
    exact ⟨i, by simpa using hi, by simp [h]⟩
  unfold timelineB
  rw [this]
  rfl
theorem timelineB_yes {n : Nat} {F : Nat → Nat → Int} (h : ∀ i, i < n → tlB F i = true) : timelineB n F = decide (n ≤ 401) := by
  have : (List.range n).all (tlB F) = true := by
    rw [List.all_eq_true]
    intro i hi
    exact h i (by simpa using hi)
  unfold timelineB
  rw [this]
  rfl

set_option maxHeartbeats 4000000 in
theorem implTimelineOk_c (L : Nat) (A : Option Addr) (n cap : Nat) (F : Nat → Nat → Int) (w : World) (h1 : Tab 3 w L A n F) (hL : L ≤ w.heap.size) (hn : n ≤ 1048576) :
    Calls Try.prog 21 #[.slice A n cap] w fun e w' => e = .returned (.bool (timelineB n F)) ∧ Below w.heap.size w w' := by
  have H1 := Lib.hid h1
  clear h1
  go_enter Try.func21, Try.ntmps21
  go_wp2_with fail
  go_loopw [7] (fun i wr => ∃ m : Nat, m ≤ n ∧ i = .int .i64 m ∧ (∀ i, i < m → tlB F i = true) ∧ Below w.heap.size w wr) (fun i _ => n - (intOf i).toNat)
  case atStart => exact ⟨0, Nat.zero_le _, rfl, (fun i hi => by omega), Below.refl _ _⟩
  case round =>
    obtain ⟨m, hm, rfl, hall, hbl⟩ := hrel
    have HALL := Lib.hid hall
    clear hall
    by_cases hlt : m < n
    · have hT := H1.out.keep (hbl.mono hL)
      have hbl1 := andAlloc hbl (.cells #[.int .i64 (F m 0), .int .i64 (F m 1), .int .i64 (F m 2)] 68)
      have hT1 := H1.out.keep (hbl1.mono hL)
      have k0 : (0 : Int) ≤ (m : Int) := by omega
      have k1 : (m : Int) < (n : Int) := by omega
      cases htl : tlB F m
      case false =>
        have HT := Lib.hid (timelineB_no hlt htl)
        unfold tlB at htl
        obtain ⟨b, off, rfl, hb, ⟨c0, c1, c2⟩, _⟩ := hT.at3 hlt
        cases hsp : isSpanB (F m 0) (F m 1)
        case false =>
          clear htl
          generalize F m 0 = x at *
          generalize F m 1 = y at *
          generalize F m 2 = z at *
          go_wp2_with fail
          go_quiet ((go_at_call 54; exact q_same (isSpan_c _ _ _)))
          go_wp2_with fail
          go_ret
          exact ⟨ret_bool HT.out.symm, andDrewN hbl1 _⟩
        case true =>
          obtain ⟨p, rfl⟩ : ∃ p, m = p + 1 := by
            rcases m with _ | p
            · rw [hsp] at htl; simp at htl
            · exact ⟨p, rfl⟩
          obtain ⟨b', off', e', _, ⟨c0', c1', c2'⟩, _⟩ := hT.at3 (show p < n by omega)
          obtain ⟨b2, off2, e2, _, ⟨u0, u1, u2⟩, _⟩ := hT1.at3 (show p < n by omega)
          simp only [Option.some.injEq, Addr.mk.injEq, and_true] at e' e2
          obtain ⟨rfl, rfl⟩ := e'
          obtain ⟨rfl, rfl⟩ := e2
          clear hT hT1
          rw [hsp] at htl
          simp only [Nat.add_sub_cancel] at htl
          have g0 : decide ((0 : Int) < (p : Int) + 1) = true := decide_eq_true (by omega)
          have g1 : (p : Int) + 1 - 1 = p := by omega
          have g2 : (p : Int) < n := by omega
          have g3 : (0 : Int) ≤ p := by omega
          have g4 : ((p : Int) + 1).toNat = p + 1 := by omega
          have g5 : (0 : Int) ≤ (p : Int) + 1 := by omega
          have g6 : (p : Int) + 1 < n := by omega
          generalize F (p + 1) 0 = x at *
          generalize F (p + 1) 1 = y at *
          generalize F (p + 1) 2 = z at *
          generalize F p 1 = y' at *
          generalize F p 2 = z' at *
          cases f1 : decide (x < y')
          case true =>
            clear htl
            go_wp2_with fail
            go_quiet ((go_at_call 54; exact q_same (isSpan_c _ _ _)))
            go_wp2_with fail
            go_ret
            exact ⟨ret_bool HT.out.symm, andDrewN hbl1 _⟩
          case false =>
            have f2 : (x == y') = true := by simp [f1] at htl; simp [htl.1]
            have f3 : (z == z') = true := by simp [f1] at htl; simp [htl.2]
            clear htl
            go_wp2_with fail
            go_quiet ((go_at_call 54; exact q_same (isSpan_c _ _ _)))
            go_wp2_with fail
            go_ret
            exact ⟨ret_bool HT.out.symm, andDrewN hbl1 _⟩
      case true =>
        have HALL2 : Hid (∀ i, i < m + 1 → tlB F i = true) := by
          intro i hi
          rcases Nat.lt_or_ge i m with h | h
          · exact HALL.out i h
          · obtain rfl : i = m := by omega
            exact htl
        unfold tlB at htl
        obtain ⟨b, off, rfl, hb, ⟨c0, c1, c2⟩, _⟩ := hT.at3 hlt
        have hsp : isSpanB (F m 0) (F m 1) = true := by
          cases h : isSpanB (F m 0) (F m 1)
          · rw [h] at htl; simp at htl
          · rfl
        rcases m with _ | p
        · clear htl
          simp only [Nat.zero_mul, Nat.add_zero] at c0 c1 c2
          have n0 : 0 < n := hlt
          generalize F 0 0 = x at *
          generalize F 0 1 = y at *
          generalize F 0 2 = z at *
          go_wp2_with fail
          go_quiet ((go_at_call 54; exact q_same (isSpan_c _ _ _)))
          go_wp2_with fail
          go_roundw
          case rel => exact ⟨1, by omega, by go_num, HALL2.out, andDrewN hbl1 _⟩
          case measure => simp [intOf]; omega
        · obtain ⟨b', off', e', _, ⟨c0', c1', c2'⟩, _⟩ := hT.at3 (show p < n by omega)
          obtain ⟨b2, off2, e2, _, ⟨u0, u1, u2⟩, _⟩ := hT1.at3 (show p < n by omega)
          simp only [Option.some.injEq, Addr.mk.injEq, and_true] at e' e2
          obtain ⟨rfl, rfl⟩ := e'
          obtain ⟨rfl, rfl⟩ := e2
          clear hT hT1
          rw [hsp] at htl
          simp only [Nat.add_sub_cancel] at htl
          have g0 : decide ((0 : Int) < (p : Int) + 1) = true := decide_eq_true (by omega)
          have g1 : (p : Int) + 1 - 1 = p := by omega
          have g2 : (p : Int) < n := by omega
          have g3 : (0 : Int) ≤ p := by omega
          have g4 : ((p : Int) + 1).toNat = p + 1 := by omega
          have g5 : (0 : Int) ≤ (p : Int) + 1 := by omega
          have g6 : (p : Int) + 1 < n := by omega
          generalize F (p + 1) 0 = x at *
          generalize F (p + 1) 1 = y at *
          generalize F (p + 1) 2 = z at *
          generalize F p 1 = y' at *
          generalize F p 2 = z' at *
          have f1 : decide (x < y') = false := by
            cases h : decide (x < y')
            · rfl
            · rw [h] at htl; simp at htl
          cases f2 : (x == y')
          case false =>
            clear htl
            go_wp2_with fail
            go_quiet ((go_at_call 54; exact q_same (isSpan_c _ _ _)))
            go_wp2_with fail
            go_roundw
            case rel => exact ⟨p + 1 + 1, by omega, by go_num, HALL2.out, andDrewN hbl1 _⟩
            case measure => simp [intOf]; omega
          case true =>
            have f3 : (z == z') = false := by
              cases h : (z == z')
              · rfl
              · rw [h, f1, f2] at htl; simp at htl
            clear htl
            go_wp2_with fail
            go_quiet ((go_at_call 54; exact q_same (isSpan_c _ _ _)))
            go_wp2_with fail
            go_roundw
            case rel => exact ⟨p + 1 + 1, by omega, by go_num, HALL2.out, andDrewN hbl1 _⟩
            case measure => simp [intOf]; omega
    · obtain rfl : m = n := by omega
      have HT := Lib.hid (timelineB_yes HALL.out)
      go_wp2_with fail
      go_ret
      exact ⟨ret_bool (by rw [HT.out]; simp; omega), hbl⟩

set_option maxHeartbeats 4000000 in
theorem specTimelineOk_c (L : Nat) (A : Option Addr) (n cap : Nat) (F : Nat → Nat → Int) (w : World) (h1 : Tab 3 w L A n F) (hL : L ≤ w.heap.size) (hn : n ≤ 1048576) :
    Calls Try.prog 20 #[.slice A n cap] w fun e w' => e = .returned (.bool (timelineB n F)) ∧ Below w.heap.size w w' := by
  have H1 := Lib.hid h1
  clear h1
  go_enter Try.func20, Try.ntmps20
  go_wp2_with fail
  go_loopw [3] (fun i wr => ∃ m : Nat, m ≤ n ∧ i = .int .i64 m ∧ (∀ i, i < m → tlB F i = true) ∧ Below w.heap.size w wr) (fun i _ => n - (intOf i).toNat)
  case atStart => exact ⟨0, Nat.zero_le _, rfl, (fun i hi => by omega), Below.refl _ _⟩
  case round =>
    obtain ⟨m, hm, rfl, hall, hbl⟩ := hrel
    have HALL := Lib.hid hall
    clear hall
    by_cases hlt : m < n
    · have hT := H1.out.keep (hbl.mono hL)
      have hbl1 := andAlloc hbl (.cells #[.int .i64 (F m 0), .int .i64 (F m 1), .int .i64 (F m 2)] 68)
      have hT1 := H1.out.keep (hbl1.mono hL)
      have k0 : (0 : Int) ≤ (m : Int) := by omega
      have k1 : (m : Int) < (n : Int) := by omega
      cases htl : tlB F m
      case false =>
        have HT := Lib.hid (timelineB_no hlt htl)
        unfold tlB at htl
        obtain ⟨b, off, rfl, hb, ⟨c0, c1, c2⟩, _⟩ := hT.at3 hlt
        cases hsp : isSpanB (F m 0) (F m 1)
        case false =>
          clear htl
          generalize F m 0 = x at *
          generalize F m 1 = y at *
          generalize F m 2 = z at *
          simp only [isSpanB, decide_eq_false_iff_not] at hsp
          cases b1 : decide (x < 0) <;> cases b2 : decide (y ≤ x) <;> cases b3 : decide (3600 < y)
          case false.false.false => simp at b1 b2 b3; omega
          all_goals
            go_wp2_with fail
            go_ret
            exact ⟨ret_bool HT.out.symm, hbl1⟩
        case true =>
          obtain ⟨p, rfl⟩ : ∃ p, m = p + 1 := by
            rcases m with _ | p
            · rw [hsp] at htl; simp at htl
            · exact ⟨p, rfl⟩
          obtain ⟨b', off', e', _, ⟨c0', c1', c2'⟩, _⟩ := hT.at3 (show p < n by omega)
          obtain ⟨b2, off2, e2, _, ⟨u0, u1, u2⟩, _⟩ := hT1.at3 (show p < n by omega)
          simp only [Option.some.injEq, Addr.mk.injEq, and_true] at e' e2
          obtain ⟨rfl, rfl⟩ := e'
          obtain ⟨rfl, rfl⟩ := e2
          clear hT hT1
          rw [hsp] at htl
          simp only [Nat.add_sub_cancel] at htl
          have g0 : decide ((0 : Int) < (p : Int) + 1) = true := decide_eq_true (by omega)
          have g1 : (p : Int) + 1 - 1 = p := by omega
          have g2 : (p : Int) < n := by omega
          have g3 : (0 : Int) ≤ p := by omega
          have g4 : ((p : Int) + 1).toNat = p + 1 := by omega
          have g5 : (0 : Int) ≤ (p : Int) + 1 := by omega
          have g6 : (p : Int) + 1 < n := by omega
          generalize F (p + 1) 0 = x at *
          generalize F (p + 1) 1 = y at *
          generalize F (p + 1) 2 = z at *
          generalize F p 1 = y' at *
          generalize F p 2 = z' at *
          simp only [isSpanB, decide_eq_true_eq] at hsp
          have b1 : decide (x < 0) = false := decide_eq_false (by omega)
          have b2 : decide (y ≤ x) = false := decide_eq_false (by omega)
          have b3 : decide (3600 < y) = false := decide_eq_false (by omega)
          cases f1 : decide (x < y')
          case true =>
            clear htl
            go_wp2_with fail
            go_quiet (fail)
            go_wp2_with fail
            go_ret
            exact ⟨ret_bool HT.out.symm, andDrewN hbl1 _⟩
          case false =>
            have f2 : (y' == x) = true := by simp [f1] at htl; simp [htl.1]
            have f3 : (z' == z) = true := by simp [f1] at htl; simp [htl.2]
            clear htl
            go_wp2_with fail
            go_quiet (fail)
            go_wp2_with fail
            go_ret
            exact ⟨ret_bool HT.out.symm, andDrewN hbl1 _⟩
      case true =>
        have HALL2 : Hid (∀ i, i < m + 1 → tlB F i = true) := by
          intro i hi
          rcases Nat.lt_or_ge i m with h | h
          · exact HALL.out i h
          · obtain rfl : i = m := by omega
            exact htl
        unfold tlB at htl
        obtain ⟨b, off, rfl, hb, ⟨c0, c1, c2⟩, _⟩ := hT.at3 hlt
        have hsp : isSpanB (F m 0) (F m 1) = true := by
          cases h : isSpanB (F m 0) (F m 1)
          · rw [h] at htl; simp at htl
          · rfl
        rcases m with _ | p
        · clear htl
          simp only [Nat.zero_mul, Nat.add_zero] at c0 c1 c2
          have n0 : 0 < n := hlt
          generalize F 0 0 = x at *
          generalize F 0 1 = y at *
          generalize F 0 2 = z at *
          simp only [isSpanB, decide_eq_true_eq] at hsp
          have b1 : decide (x < 0) = false := decide_eq_false (by omega)
          have b2 : decide (y ≤ x) = false := decide_eq_false (by omega)
          have b3 : decide (3600 < y) = false := decide_eq_false (by omega)
          go_wp2_with fail
          go_quiet (fail)
          go_wp2_with fail
          go_roundw
          case rel => exact ⟨1, by omega, by go_num, HALL2.out, andDrewN hbl1 _⟩
          case measure => simp [intOf]; omega
        · obtain ⟨b', off', e', _, ⟨c0', c1', c2'⟩, _⟩ := hT.at3 (show p < n by omega)
          obtain ⟨b2, off2, e2, _, ⟨u0, u1, u2⟩, _⟩ := hT1.at3 (show p < n by omega)
          simp only [Option.some.injEq, Addr.mk.injEq, and_true] at e' e2
          obtain ⟨rfl, rfl⟩ := e'
          obtain ⟨rfl, rfl⟩ := e2
          clear hT hT1
          rw [hsp] at htl
          simp only [Nat.add_sub_cancel] at htl
          have g0 : decide ((0 : Int) < (p : Int) + 1) = true := decide_eq_true (by omega)
          have g1 : (p : Int) + 1 - 1 = p := by omega
          have g2 : (p : Int) < n := by omega
          have g3 : (0 : Int) ≤ p := by omega
          have g4 : ((p : Int) + 1).toNat = p + 1 := by omega
          have g5 : (0 : Int) ≤ (p : Int) + 1 := by omega
          have g6 : (p : Int) + 1 < n := by omega
          generalize F (p + 1) 0 = x at *
          generalize F (p + 1) 1 = y at *
          generalize F (p + 1) 2 = z at *
          generalize F p 1 = y' at *
          generalize F p 2 = z' at *
          simp only [isSpanB, decide_eq_true_eq] at hsp
          have b1 : decide (x < 0) = false := decide_eq_false (by omega)
          have b2 : decide (y ≤ x) = false := decide_eq_false (by omega)
          have b3 : decide (3600 < y) = false := decide_eq_false (by omega)
          have f1 : decide (x < y') = false := by
            cases h : decide (x < y')
            · rfl
            · rw [h] at htl; simp at htl
          cases f2 : (y' == x)
          case false =>
            clear htl
            go_wp2_with fail
            go_quiet (fail)
            go_wp2_with fail
            go_roundw
            case rel => exact ⟨p + 1 + 1, by omega, by go_num, HALL2.out, andDrewN hbl1 _⟩
            case measure => simp [intOf]; omega
          case true =>
            have f3 : (z' == z) = false := by
              cases h : (z' == z)
              · rfl
              · have h1 : y' = x := by simpa using f2
                have h2 : z' = z := by simpa using h
                subst h1 h2
                simp at htl
            clear htl
            go_wp2_with fail
            go_quiet (fail)
            go_wp2_with fail
            go_roundw
            case rel => exact ⟨p + 1 + 1, by omega, by go_num, HALL2.out, andDrewN hbl1 _⟩
            case measure => simp [intOf]; omega
    · obtain rfl : m = n := by omega
      have HT := Lib.hid (timelineB_yes HALL.out)
      go_wp2_with fail
      go_ret
      exact ⟨ret_bool (by rw [HT.out]; simp; omega), hbl⟩

end Go.Proofs.Ytmehfclhmbhjaaa
