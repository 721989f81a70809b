/-
  MonthsIn of both packages computes one plain function; the walk of the law FnExactMonthsIn. Conditions: none.
-/
import Derived.Test.YtmehfclhmbhjaaaAllWithin
namespace Go.Proofs.Ytmehfclhmbhjaaa
open Go.RowKit
set_option linter.unusedVariables false
set_option maxRecDepth 4000

def common (f t l h : Int) : Int := max 0 (min t h - max f l)
def monthsIn (f t l h : Int) : Int := if inB f 0 3600 && inB t 0 3600 && inB l 0 3600 && inB h 0 3600 then common f t l h else 0

set_option maxHeartbeats 1000000 in
theorem implMonthsIn_c (f t l h : Int) (w : World) :
    Calls Try.prog 66 #[.int .i64 f, .int .i64 t, .int .i64 l, .int .i64 h] w fun e w' => e = .returned (.int .i64 (monthsIn f t l h)) ∧ Below w.heap.size w w' := by
  have hall : ([f, t, l, h].all fun z => inB z 0 3600) = (inB f 0 3600 && inB t 0 3600 && inB l 0 3600 && inB h 0 3600) := by simp [Bool.and_assoc]
  have hown : OwnInts (w.alloc (.cells #[.int .i64 f, .int .i64 t, .int .i64 l, .int .i64 h] 3)) w.heap.size (.slice (some ⟨w.heap.size, 0, none⟩) 4 4) [f, t, l, h] :=
    World.ownsRow_lit w #[.int .i64 f, .int .i64 t, .int .i64 l, .int .i64 h] 4 (Nat.le_refl _) (by decide) rfl
  have hrd := hown.reads
  cases hb : ([f, t, l, h].all fun z => inB z 0 3600)
  · have HR : Hid (monthsIn f t l h = 0) := by show _ = _; unfold monthsIn; rw [← hall, hb]; rfl
    have HA := Lib.hid (allWithin_c 0 3600 _ _ _ _ hrd (Nat.le_refl _) (by simp))
    rw [hb] at HA
    clear hall hown hrd hb
    go_enter Try.func66, Try.ntmps66
    go_wp2_with fail
    refine HA.out.mono ?_
    rintro e w1 ⟨rfl, b1⟩
    go_wp2_with fail
    go_ret
    exact ⟨ret_int HR.out.symm, andThen (andAlloc (Below.refl _ _) _) b1⟩
  · have HR : Hid (monthsIn f t l h = common f t l h) := by show _ = _; unfold monthsIn; rw [← hall, hb]; rfl
    rw [hall] at hb
    simp only [Bool.and_eq_true] at hb
    obtain ⟨⟨⟨h1, h2⟩, h3⟩, h4⟩ := hb
    have HA := Lib.hid (allWithin_c 0 3600 _ _ _ _ hrd (Nat.le_refl _) (by simp))
    rw [hall, h1, h2, h3, h4] at HA
    obtain ⟨f0, f1⟩ := inB_iff.1 h1
    obtain ⟨t0, t1⟩ := inB_iff.1 h2
    obtain ⟨l0, l1⟩ := inB_iff.1 h3
    obtain ⟨g0, g1⟩ := inB_iff.1 h4
    clear hall hown hrd h1 h2 h3 h4
    go_enter Try.func66, Try.ntmps66
    go_wp2_with fail
    refine HA.out.mono ?_
    rintro e w1 ⟨rfl, b1⟩
    go_wp2_with fail
    all_goals
      go_ret
      exact ⟨ret_int (by rw [HR.out]; unfold common; omega), andThen (andAlloc (Below.refl _ _) _) b1⟩

set_option maxHeartbeats 400000 in
theorem l04End_c (m : Int) (w : World) :
    Calls Try.prog 61 #[.int .i64 m] w fun e w' => e = .returned (.bool (inB m 0 3600)) ∧ w = w' := by
  go_enter Try.func61, Try.ntmps61
  go_wp2_with (go_at_call 62; refine (l01In_c _ _ _ _).mono ?_; rintro e w' ⟨rfl, rfl⟩)
  go_ret
  exact ⟨rfl, rfl⟩

set_option maxHeartbeats 1000000 in
theorem specMonthsIn_c (f t l h : Int) (w : World) :
    Calls Try.prog 63 #[.int .i64 f, .int .i64 t, .int .i64 l, .int .i64 h] w fun e w' => e = .returned (.int .i64 (monthsIn f t l h)) ∧ w = w' := by
  cases h1 : inB f 0 3600
  case false =>
    have HR : Hid (monthsIn f t l h = 0) := by show _ = _; unfold monthsIn; rw [h1]; rfl
    go_enter Try.func63, Try.ntmps63
    go_wp2_with (go_at_call 61; refine (l04End_c _ _).mono ?_; rintro e w' ⟨rfl, rfl⟩)
    go_ret
    exact ⟨ret_int HR.out.symm, rfl⟩
  case true =>
    cases h2 : inB t 0 3600
    case false =>
      have HR : Hid (monthsIn f t l h = 0) := by show _ = _; unfold monthsIn; rw [h1, h2]; rfl
      go_enter Try.func63, Try.ntmps63
      go_wp2_with (go_at_call 61; refine (l04End_c _ _).mono ?_; rintro e w' ⟨rfl, rfl⟩)
      go_ret
      exact ⟨ret_int HR.out.symm, rfl⟩
    case true =>
      cases h3 : inB l 0 3600
      case false =>
        have HR : Hid (monthsIn f t l h = 0) := by show _ = _; unfold monthsIn; rw [h1, h2, h3]; rfl
        go_enter Try.func63, Try.ntmps63
        go_wp2_with (go_at_call 61; refine (l04End_c _ _).mono ?_; rintro e w' ⟨rfl, rfl⟩)
        go_ret
        exact ⟨ret_int HR.out.symm, rfl⟩
      case true =>
        cases h4 : inB h 0 3600
        case false =>
          have HR : Hid (monthsIn f t l h = 0) := by show _ = _; unfold monthsIn; rw [h1, h2, h3, h4]; rfl
          go_enter Try.func63, Try.ntmps63
          go_wp2_with (go_at_call 61; refine (l04End_c _ _).mono ?_; rintro e w' ⟨rfl, rfl⟩)
          go_ret
          exact ⟨ret_int HR.out.symm, rfl⟩
        case true =>
          have HR : Hid (monthsIn f t l h = common f t l h) := by show _ = _; unfold monthsIn; rw [h1, h2, h3, h4]; rfl
          obtain ⟨f0, f1⟩ := inB_iff.1 h1
          obtain ⟨t0, t1⟩ := inB_iff.1 h2
          obtain ⟨l0, l1⟩ := inB_iff.1 h3
          obtain ⟨g0, g1⟩ := inB_iff.1 h4
          go_enter Try.func63, Try.ntmps63
          go_wp2_with (go_at_call 61; refine (l04End_c _ _).mono ?_; rintro e w' ⟨rfl, rfl⟩)
          all_goals
            go_ret
            exact ⟨ret_int (by rw [HR.out]; unfold common; omega), rfl⟩


end Go.Proofs.Ytmehfclhmbhjaaa
