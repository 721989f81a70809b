/-
  gcd, l02Gcd, l02Abs, FracOk of both packages: they compute Int.gcd and one condition 'okB'. Conditions: the numbers' bounds, written out.
-/
import Derived.Test.YtlpaicpjadkceaaPure
import Derived.Deep.QuietTactic
import Derived.BigQuiet
namespace Go.Proofs.Ytlpaicpjadkceaa
open Go.RowKit
set_option linter.unusedVariables false

theorem gcd_tmod (a b : Int) : Int.gcd b (a.tmod b) = Int.gcd a b := by
  have h : a.tmod b = a - (a.tdiv b) * b := by have := Int.mul_tdiv_add_tmod a b; rw [Int.mul_comm] at this; omega
  rw [h, Int.gcd_comm b]
  exact Int.gcd_sub_mul_right_left ..

theorem tmod_bd (a b : Int) (hb : b ≠ 0) : (a.tmod b).natAbs < b.natAbs := by
  rw [Int.natAbs_tmod]; exact Nat.mod_lt _ (by omega)

set_option maxHeartbeats 400000 in
theorem gcd_c (a b : Int) (w : World) (ha : a.natAbs ≤ 4611686018427387904) (hb : b.natAbs ≤ 4611686018427387904) :
    Calls Try.prog 88 #[.int .i64 a, .int .i64 b] w fun e w' => e = .returned (.int .i64 (Int.gcd a b)) ∧ Drw w w' := by
  go_enter Try.func88, Try.ntmps88
  go_wp2
  go_loopw [0, 1] (fun u v wr => ∃ x y : Int, u = .int .i64 x ∧ v = .int .i64 y ∧ Int.gcd x y = Int.gcd a b ∧ x.natAbs ≤ 4611686018427387904 ∧ y.natAbs ≤ 4611686018427387904 ∧ Drw w wr) (fun _ v _ => (intOf v).natAbs)
  case atStart => exact ⟨a, b, rfl, rfl, rfl, ha, hb, Drw.refl _⟩
  case round =>
    obtain ⟨x, y, rfl, rfl, hg, hx, hy, hd⟩ := hrel
    have HG := Lib.hid hg
    clear hg
    by_cases h0 : y = 0
    · subst h0
      have hgx : Hid (Int.gcd x 0 = Int.gcd a b) := HG.out
      go_wp2
      all_goals
        go_ret
        exact ⟨ret_int (by have := hgx.out; simp at this; omega), hd⟩
    · have hne : (y == 0) = false := by simpa using h0
      have ht := tmod_bd x y h0
      have HT := Lib.hid (gcd_tmod x y)
      have hy0 : Hid (y ≠ 0) := h0
      have b1 : -4611686018427387904 ≤ x := by omega
      have b2 : x ≤ 4611686018427387904 := by omega
      have b3 : -4611686018427387904 ≤ y := by omega
      have b4 : y ≤ 4611686018427387904 := by omega
      clear h0
      go_wp2_with fail
      go_quiet (fail)
      go_wp2
      go_roundw
      case rel => exact ⟨y, x.tmod y, rfl, rfl, HT.out.trans HG.out, hy, by omega, hd.drewN _⟩
      case measure => simp only [intOf]; exact ht

set_option maxHeartbeats 400000 in
theorem l02Gcd_c (a b : Int) (w : World) (ha : a.natAbs ≤ 4611686018427387904) (hb : b.natAbs ≤ 4611686018427387904) (ha0 : 0 ≤ a) (hb0 : 0 ≤ b) :
    Calls Try.prog 86 #[.int .i64 a, .int .i64 b] w fun e w' => e = .returned (.int .i64 (Int.gcd a b)) ∧ Drw w w' := by
  go_enter Try.func86, Try.ntmps86
  go_wp2
  go_loopw [0, 1] (fun u v wr => ∃ x y : Int, u = .int .i64 x ∧ v = .int .i64 y ∧ Int.gcd x y = Int.gcd a b ∧ 0 ≤ x ∧ 0 ≤ y ∧ x.natAbs ≤ 4611686018427387904 ∧ y.natAbs ≤ 4611686018427387904 ∧ Drw w wr) (fun _ v _ => (intOf v).natAbs)
  case atStart => exact ⟨a, b, rfl, rfl, rfl, ha0, hb0, ha, hb, Drw.refl _⟩
  case round =>
    obtain ⟨x, y, rfl, rfl, hg, hx0, hy0, hx, hy, hd⟩ := hrel
    have HG := Lib.hid hg
    clear hg
    by_cases h0 : y = 0
    · subst h0
      have hgx : Hid (Int.gcd x 0 = Int.gcd a b) := HG.out
      go_wp2
      go_ret
      exact ⟨ret_int (by have := hgx.out; simp at this; omega), hd⟩
    · have hne : (y == 0) = false := by simpa using h0
      have hy1 : 1 ≤ y := by omega
      have ht := tmod_bd x y h0
      have ht0 := Int.tmod_nonneg y hx0
      have ht1 : x.tmod y = x % y := Int.tmod_eq_emod_of_nonneg hx0
      rw [ht1] at ht ht0
      have HT := Lib.hid (gcd_tmod x y)
      rw [ht1] at HT
      clear h0 ht1
      go_wp2
      go_roundw
      case rel => exact ⟨y, x % y, rfl, rfl, HT.out.trans HG.out, hy0, ht0, hy, by omega, hd⟩
      case measure => simp only [intOf]; exact ht

set_option maxHeartbeats 400000 in
theorem l02Abs_c (x : Int) (w : World) (hx : x.natAbs ≤ 4611686018427387904) :
    Calls Try.prog 87 #[.int .i64 x] w fun e w' => e = .returned (.int .i64 (x.natAbs : Int)) ∧ w = w' := by
  go_enter Try.func87, Try.ntmps87
  go_wp2
  all_goals
    go_ret
    exact ⟨ret_int (by omega), rfl⟩

theorem gcd_abs (n d : Int) : Int.gcd (n.natAbs : Int) d = Int.gcd n d := by simp [Int.gcd]
theorem beq_one (g : Nat) : ((g : Int) == 1) = decide (g = 1) := by
  rw [Bool.eq_iff_iff]; simp; omega

/-- The condition of a fraction. -/
def okB (n d : Int) : Bool := inB d 1 1000000 && inB n (-1000000000000) 1000000000000 && decide (Int.gcd n d = 1)

set_option maxHeartbeats 400000 in
theorem implFracOk_c (n d : Int) (w : World) :
    Calls Try.prog 77 #[.agg #[.int .i64 n, .int .i64 d]] w fun e w' => e = .returned (.bool (okB n d)) ∧ Below w.heap.size w w' := by
  have hr : Hid (okB n d = (inB d 1 1000000 && inB n (-1000000000000) 1000000000000 && decide (Int.gcd n d = 1))) := rfl
  cases h1 : inB d 1 1000000 <;> cases h2 : inB n (-1000000000000) 1000000000000
  all_goals rw [h1, h2] at hr
  case true.true =>
    obtain ⟨p1, p2⟩ := inB_iff.1 h1
    obtain ⟨p3, p4⟩ := inB_iff.1 h2
    go_enter Try.func77, Try.ntmps77
    go_wp2_with (first
      | (go_at_call 60; refine (within_c _ _ _ _).mono ?_; rintro e w' ⟨rfl, rfl⟩)
      | (go_at_call 88; refine (gcd_c _ _ _ (by omega) (by omega)).mono ?_; rintro e w' ⟨rfl, q, rfl⟩))
    go_ret
    exact ⟨ret_bool (by rw [hr.out]; simp [beq_one]), andDrewN (by go_grown) _⟩
  all_goals
    go_enter Try.func77, Try.ntmps77
    go_wp2_with (first
      | (go_at_call 60; refine (within_c _ _ _ _).mono ?_; rintro e w' ⟨rfl, rfl⟩))
    go_ret
    exact ⟨ret_bool (by rw [hr.out]; simp), by go_grown⟩


end Go.Proofs.Ytlpaicpjadkceaa
