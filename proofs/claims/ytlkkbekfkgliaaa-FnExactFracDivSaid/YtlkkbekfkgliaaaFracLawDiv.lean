/-
  The walk of the law FnExactFracDiv. Conditions: none.
-/
import Derived.Test.YtlkkbekfkgliaaaFracLawKit
namespace Go.Proofs.Ytlkkbekfkgliaaa
open Go.RowKit
set_option linter.unusedVariables false
attribute [local go_sem ↓] Go.wp_at_zero Go.wp_at_succ

set_option maxHeartbeats 4000000 in
theorem walk_FnExactFracDiv (a b : Int) {q0 : Prop} (_ : q0) (c d : Int) {q1 : Prop} (_ : q1) (w : World) :
    Calls Try.prog 8 #[.agg #[.int .i64 a, .int .i64 b], .agg #[.int .i64 c, .int .i64 d]] w fun e w' => e = .returned (.bool true) ∧ Below w.heap.size w w' := by
  obtain ⟨x, y, o, hx⟩ : ∃ x y o, divF a b c d = (x, y, o) := ⟨_, _, _, rfl⟩
  have HX := Lib.hid hx
  clear hx
  go_enter Try.func8, Try.ntmps8
  go_wp2_with fail
  go_upto_region 1 with fail
  have A0 : Box2 ((w.alloc (.cells #[.int .i64 a, .int .i64 b] 28)).alloc (.cells #[.int .i64 c, .int .i64 d] 28)) w.heap.size (.int .i64 a) (.int .i64 b) := (Box2.new _ _ _ _).alloc _
  have B0 : Box2 ((w.alloc (.cells #[.int .i64 a, .int .i64 b] 28)).alloc (.cells #[.int .i64 c, .int .i64 d] 28)) (w.heap.size + 1) (.int .i64 c) (.int .i64 d) := ⟨by go_simp, by go_simp, by go_simp, by go_simp⟩
  have L0 : Below w.heap.size w ((w.alloc (.cells #[.int .i64 a, .int .i64 b] 28)).alloc (.cells #[.int .i64 c, .int .i64 d] 28)) := andAlloc (andAlloc (Below.refl _ _) _) _
  have z0 : w.heap.size + 1 < ((w.alloc (.cells #[.int .i64 a, .int .i64 b] 28)).alloc (.cells #[.int .i64 c, .int .i64 d] 28)).heap.size := by simp
  generalize ((w.alloc (.cells #[.int .i64 a, .int .i64 b] 28)).alloc (.cells #[.int .i64 c, .int .i64 d] 28)) = W0 at A0 B0 L0 z0 ⊢
  go_cut [5, 6] (fun s5 s6 wx => ∃ g : Nat, s5 = .pointer (some ⟨g, 0, none⟩) ∧ s6 = .bool o ∧ Box2 wx g (.int .i64 x) (.int .i64 y) ∧ Below W0.heap.size W0 wx)
  case first =>
    obtain ⟨a00, a01, a02, a03⟩ := id A0
    obtain ⟨p00, p01, p02, p03⟩ := id B0
    go_region_held3 (fun w' => w'.cell? ⟨w.heap.size, 0, none⟩ = some (.int .i64 a) ∧ w'.cell? ⟨w.heap.size, 1, none⟩ = some (.int .i64 b) ∧ w'.cell? ⟨w.heap.size + 1, 0, none⟩ = some (.int .i64 c) ∧ w'.cell? ⟨w.heap.size + 1, 1, none⟩ = some (.int .i64 d))
      (first | exact keep4 (by assumption) (by assumption) | exact keep4_alloc (by assumption) | exact keep4_re (by assumption) (by dsimp only; omega) (by dsimp only; omega) (by dsimp only; omega) (by dsimp only; omega) | exact keep4_set (by assumption) (by dsimp only; omega) (by dsimp only; omega) (by dsimp only; omega) (by dsimp only; omega) | go_keep)
      (first
        | (go_at_call 18; refine (toFrac_c _ _ _).mono ?_; rintro e w1 ⟨rfl, b1⟩; have zb := b1.size; (try simp at zb); (try have nb := Box2.later b1 (Box2.new _ _ _ _)); (try have nb := Box2.later b1 (by assumption : Box2 _ _ (.int .i64 0) (.int .i64 0))); (try obtain ⟨n0, n1, n2, n3⟩ := id nb))
        | (go_at_call 26; refine (specFracDiv_c _ _ _ _ _).mono ?_; rintro e w1 ⟨rfl, b1⟩; rw [HX.out]; have zb := b1.size; (try simp at zb); (try have nb := Box2.later b1 (Box2.new _ _ _ _)); (try have nb := Box2.later b1 (by assumption : Box2 _ _ (.int .i64 0) (.int .i64 0))); (try obtain ⟨n0, n1, n2, n3⟩ := id nb)))
    all_goals
      go_wp2_with fail
      go_meet
      exact ⟨_, rfl, rfl, (by first | exact Box2.new _ _ _ _ | exact Box2.set2 (by assumption) _ _), (by repeat (first | exact Below.refl _ _ | (with_reducible assumption) | refine andSet ?_ (by dsimp only; omega) _ | refine andAlloc ?_ _ | refine Below.drew ?_ | refine andThen ?_ (by assumption)))⟩
  case rest =>
    obtain ⟨g, rfl, rfl, X1, b9⟩ := hcut
    have A1 := Box2.later b9 A0
    have B1 := Box2.later b9 B0
    have z1 := Nat.lt_of_lt_of_le z0 b9.size
    have L1 := andThen L0 b9
    clear A0 B0 z0 L0 b9
    go_upto_region 2 with fail
    go_cut [7, 8] (fun s5 s6 wx => ∃ g : Nat, s5 = .pointer (some ⟨g, 0, none⟩) ∧ s6 = .bool o ∧ Box2 wx g (.int .i64 x) (.int .i64 y) ∧ Below wc.heap.size wc wx)
    case first =>
      obtain ⟨a00, a01, a02, a03⟩ := id A1
      obtain ⟨p00, p01, p02, p03⟩ := id B1
      go_region_held3 (fun w' => w'.cell? ⟨w.heap.size, 0, none⟩ = some (.int .i64 a) ∧ w'.cell? ⟨w.heap.size, 1, none⟩ = some (.int .i64 b) ∧ w'.cell? ⟨w.heap.size + 1, 0, none⟩ = some (.int .i64 c) ∧ w'.cell? ⟨w.heap.size + 1, 1, none⟩ = some (.int .i64 d))
        (first | exact keep4 (by assumption) (by assumption) | exact keep4_alloc (by assumption) | exact keep4_re (by assumption) (by dsimp only; omega) (by dsimp only; omega) (by dsimp only; omega) (by dsimp only; omega) | exact keep4_set (by assumption) (by dsimp only; omega) (by dsimp only; omega) (by dsimp only; omega) (by dsimp only; omega) | go_keep)
        (first
          | (go_at_call 18; refine (toFrac_c _ _ _).mono ?_; rintro e w1 ⟨rfl, b1⟩; have zb := b1.size; (try simp at zb); (try have nb := Box2.later b1 (Box2.new _ _ _ _)); (try have nb := Box2.later b1 (by assumption : Box2 _ _ (.int .i64 0) (.int .i64 0))); (try obtain ⟨n0, n1, n2, n3⟩ := id nb))
          | (go_at_call 27; refine (implFracDiv_c _ _ _ _ _).mono ?_; rintro e w1 ⟨rfl, b1⟩; rw [HX.out]; have zb := b1.size; (try simp at zb); (try have nb := Box2.later b1 (Box2.new _ _ _ _)); (try have nb := Box2.later b1 (by assumption : Box2 _ _ (.int .i64 0) (.int .i64 0))); (try obtain ⟨n0, n1, n2, n3⟩ := id nb)))
      all_goals
        go_wp2_with fail
        go_meet
        exact ⟨_, rfl, rfl, (by first | exact Box2.new _ _ _ _ | exact Box2.set2 (by assumption) _ _), (by repeat (first | exact Below.refl _ _ | (with_reducible assumption) | refine andSet ?_ (by dsimp only; omega) _ | refine andAlloc ?_ _ | refine Below.drew ?_ | refine andThen ?_ (by assumption)))⟩
    case rest =>
      obtain ⟨g2, rfl, rfl, X2, b9⟩ := hcut
      have X1' := Box2.later b9 X1
      obtain ⟨x10, x11, x12, x13⟩ := id X1'
      obtain ⟨x20, x21, x22, x23⟩ := id X2
      have L2 := andThen L1 b9
      clear X1 b9 A1 B1
      go_wp2_with fail
      refine (eqFrac_c _ _ _).mono ?_
      rintro e w3 ⟨rfl, b3⟩
      go_wp2_with fail
      go_ret
      exact ⟨rfl, andThen L2 b3⟩

end Go.Proofs.Ytlkkbekfkgliaaa
