/-
  The walk of the law FnRounded. Conditions: none.
-/
import Derived.Test.YtlkkbekfkgliaaaFracDraw
import Derived.Test.YtlkkbekfkgliaaaRound2
namespace Go.Proofs.Ytlkkbekfkgliaaa
open Go.RowKit
set_option linter.unusedVariables false

theorem rnd_err {x y m : Int} (hy : 1 ≤ y) (h1 : 1 ≤ m) (h4 : m ≤ 4) :
    -y < rnd (x / y) (x - x / y * y) y m * y - x ∧ rnd (x / y) (x - x / y * y) y m * y - x < y ∧ (m = 1 → rnd (x / y) (x - x / y * y) y m * y - x ≤ 0) ∧ (m = 2 → 0 ≤ rnd (x / y) (x - x / y * y) y m * y - x) ∧
    (3 ≤ m → 2 * (rnd (x / y) (x - x / y * y) y m * y - x) ≤ y ∧ -y ≤ 2 * (rnd (x / y) (x - x / y * y) y m * y - x)) := by
  obtain ⟨r0, r1⟩ := rest_bd (n := x) hy
  generalize x / y = q at *
  have e : (q + 1) * y = q * y + y := by rw [Int.add_mul, Int.one_mul]
  rcases (show m = 1 ∨ m = 2 ∨ m = 3 ∨ m = 4 by omega) with rfl | rfl | rfl | rfl
  · simp only [rnd]; simp; omega
  · unfold rnd; rw [if_pos rfl]; split
    · rw [e]; omega
    · omega
  · unfold rnd; rw [if_neg (by decide), if_pos rfl]; split
    · rw [e]; omega
    · omega
  · unfold rnd; rw [if_neg (by decide), if_neg (by decide), if_pos rfl]; split
    · rw [e]; omega
    · omega

theorem roundF_ok {x y m : Int} (hok : okB x y = true) (h1 : 1 ≤ m) (h4 : m ≤ 4) : ∃ N, roundF x y m = (N, true) ∧
    -y < N * y - x ∧ N * y - x < y ∧ (m = 1 → N * y - x ≤ 0) ∧ (m = 2 → 0 ≤ N * y - x) ∧ (3 ≤ m → 2 * (N * y - x) ≤ y ∧ -y ≤ 2 * (N * y - x)) := by
  refine ⟨rnd (x / y) (x - x / y * y) y m, ?_, rnd_err (okB_bds hok).1 h1 h4⟩
  unfold roundF
  rw [hok, inB_true h1 h4]
  rfl

set_option maxHeartbeats 4000000 in
theorem walk_FnRounded (w : World) (A : Option Addr) (n cap : Nat) (z : List Int) (hr : IsRow .u8 w A n cap z) :
    Calls Try.prog 11 #[.slice A n cap] w fun e w' => e = .returned (.bool true) ∧ Below w.heap.size w w' := by
  have hb := bytes0_of_row hr
  clear hr
  cases hbig : decide (1048576 < n)
  case true =>
    go_enter Try.func11, Try.ntmps11
    go_wp2_with (go_at_call 32; refine (big_c _ _ _ _).mono ?_; rintro e w' ⟨rfl, rfl⟩)
    go_ret
    exact ⟨rfl, Below.refl _ _⟩
  case false =>
    have hn : n ≤ 2000000 := by have := of_decide_eq_false hbig; omega
    have HB := Lib.hid hb
    clear hb
    go_enter Try.func11, Try.ntmps11
    go_wp2_with fail
    refine (big_c _ _ _ _).mono ?_
    rintro e w' ⟨rfl, rfl⟩
    go_wp2_with fail
    refine (drawFrac_c _ _ _ _ HB.out hn).mono ?_
    rintro e w1 ⟨x, y, hs, rfl, hbel⟩
    obtain ⟨hok, hx0, hx1, hy0, hy1⟩ := hs
    have HOK := Lib.hid hok
    clear hok
    have A0 := box2_new w1 (.int .i64 x) (.int .i64 y) 23
    have L0 := andAlloc hbel (.cells #[.int .i64 x, .int .i64 y] 23)
    go_wp2_with fail
    go_loopw [4] (fun m wr => ∃ k : Int, 1 ≤ k ∧ k ≤ 5 ∧ m = .int .i64 k ∧ Box2 wr w1.heap.size (.int .i64 x) (.int .i64 y) ∧ Below w.heap.size w wr) (fun m _ => (5 - intOf m).toNat)
    case atStart => exact ⟨1, by omega, by omega, rfl, A0, L0⟩
    case round =>
      obtain ⟨k, hk1, hk5, rfl, hA, hL⟩ := hrel
      obtain ⟨a0, a1, a2, a3⟩ := id hA
      by_cases h5 : k ≤ 4
      · obtain ⟨N, hN, e1, e2, e3, e4, e5⟩ := roundF_ok HOK.out hk1 h5
        have HN := Lib.hid hN
        clear hN
        obtain ⟨D, hD⟩ : ∃ D, 2 * (N * y - x) = D := ⟨_, rfl⟩
        have f1 : decide (D ≤ -2 * y) = false := decide_eq_false (by omega)
        have f1' : decide (D ≤ -(2 * y)) = false := decide_eq_false (by omega)
        have f2 : decide (2 * y ≤ D) = false := decide_eq_false (by omega)
        rcases (show k = 1 ∨ k = 2 ∨ (3 ≤ k ∧ k ≤ 4) by omega) with rfl | rfl | ⟨k3, k4⟩
        · have f3 : decide (0 < D) = false := decide_eq_false (by have := e3 rfl; omega)
          clear e3 e4 e5
          go_wp2_with fail
          refine (implRound_c _ _ _ _).mono ?_
          rintro e w2 ⟨rfl, b2⟩
          rw [HN.out]
          obtain ⟨c0, c1, c2, c3⟩ := Box2.later b2 hA
          have hA2 := Box2.later b2 hA
          have hL2 := hL.trans (b2.mono hL.size)
          clear b2
          go_wp2_with fail
          go_roundw
          case rel => exact ⟨2, by omega, by omega, rfl, hA2, hL2⟩
          case measure => simp [intOf]
        · have f3 : decide (D < 0) = false := decide_eq_false (by have := e4 rfl; omega)
          clear e3 e4 e5
          go_wp2_with fail
          refine (implRound_c _ _ _ _).mono ?_
          rintro e w2 ⟨rfl, b2⟩
          rw [HN.out]
          obtain ⟨c0, c1, c2, c3⟩ := Box2.later b2 hA
          have hA2 := Box2.later b2 hA
          have hL2 := hL.trans (b2.mono hL.size)
          clear b2
          go_wp2_with fail
          go_roundw
          case rel => exact ⟨3, by omega, by omega, rfl, hA2, hL2⟩
          case measure => simp [intOf]
        · obtain ⟨g1, g2⟩ := e5 k3
          have f3 : decide (y < D) = false := decide_eq_false (by omega)
          have f4 : decide (D < -y) = false := decide_eq_false (by omega)
          have f5 : (k == 1) = false := beq_eq_false_iff_ne.2 (by omega)
          have f6 : (k == 2) = false := beq_eq_false_iff_ne.2 (by omega)
          clear e3 e4 e5
          go_wp2_with fail
          refine (implRound_c _ _ _ _).mono ?_
          rintro e w2 ⟨rfl, b2⟩
          rw [HN.out]
          obtain ⟨c0, c1, c2, c3⟩ := Box2.later b2 hA
          have hA2 := Box2.later b2 hA
          have hL2 := hL.trans (b2.mono hL.size)
          clear b2
          go_wp2_with fail
          go_roundw
          case rel => exact ⟨k + 1, by omega, by omega, rfl, hA2, hL2⟩
          case measure => simp [intOf]; omega
      · obtain rfl : k = 5 := by omega
        have hf : Hid ((roundF x y 1).1 = floorF x y) := by
          show _ = _
          have i0 : inB 1 1 4 = true := by decide
          unfold roundF floorF
          cases okB x y <;> simp [i0, rnd]
        go_wp2_with fail
        refine (implRound_c _ _ _ _).mono ?_
        rintro e w2 ⟨rfl, b2⟩
        rw [hf.out]
        obtain ⟨c0, c1, c2, c3⟩ := Box2.later b2 hA
        go_wp2_with fail
        refine (implFloor_c _ _ _).mono ?_
        rintro e w3 ⟨rfl, b3⟩
        go_wp2_with fail
        go_ret
        exact ⟨rfl, (hL.trans (b2.mono hL.size)).trans (b3.mono (Nat.le_trans hL.size b2.size))⟩

end Go.Proofs.Ytlkkbekfkgliaaa
