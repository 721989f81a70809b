/-
  The walk of the law FnOrder. Conditions: none.
-/
import Derived.Test.YtlkkbekfkgliaaaFracPair
namespace Go.Proofs.Ytlkkbekfkgliaaa
open Go.RowKit
set_option linter.unusedVariables false
set_option maxRecDepth 4000

set_option maxHeartbeats 4000000 in
theorem walk_FnOrder (w : World) (A : Option Addr) (n cap : Nat) (z : List Int) (hr : IsRow .u8 w A n cap z) :
    Calls Try.prog 12 #[.slice A n cap] w fun e w' => e = .returned (.bool true) ∧ Below w.heap.size w w' := by
  have hb := bytes0_of_row hr
  have hcap := row_none hr
  clear hr
  cases hbig : decide (1048576 < n)
  case true =>
    go_enter Try.func12, Try.ntmps12
    go_wp2_with (go_at_call 32; refine (big_c _ _ _ _).mono ?_; rintro e w' ⟨rfl, rfl⟩)
    go_ret
    exact ⟨rfl, Below.refl _ _⟩
  case false =>
    have hn : n ≤ 1048576 := by have := of_decide_eq_false hbig; omega
    have HB := Lib.hid hb
    have HC := Lib.hid hcap
    clear hb hcap
    go_enter Try.func12, Try.ntmps12
    go_wp2_with fail
    refine (big_c _ _ _ _).mono ?_
    rintro e w' ⟨rfl, rfl⟩
    go_wp2_with fail
    refine (drawFrac_c _ _ _ _ HB.out (by omega)).mono ?_
    rintro e w1 ⟨x, y, ha, rfl, hbel1⟩
    have HA := Lib.hid ha
    have A1 := box2_new w1 (.int .i64 x) (.int .i64 y) 23
    have L1 := andAlloc hbel1 (.cells #[.int .i64 x, .int .i64 y] 23)
    have B1 := (HB.out.below L1).mono L1.size
    have S1 : (w1.alloc (.cells #[.int .i64 x, .int .i64 y] 23)).heap.size = w1.heap.size + 1 := by simp
    clear ha hbel1
    go_wp2_with (at_builtin; refine wpList_append_bytes rfl _ _ rfl (w1.heap.size + 1) _ rfl ?o1 A n cap rfl ?o2 (by omega) HC.out ?o3 ?_)
    case o1 =>
      have := World.ownsRow_lit (base := w1.heap.size + 1) (e := 5) (size := 1) (w1.alloc (.cells #[.int .i64 x, .int .i64 y] 23)) #[.int .u8 3] 1 (by simp) (by decide) rfl
      rw [S1] at this
      exact this
    case o2 => rw [S1] at B1; exact B1.below ((Below.refl _ _).alloc (by simp) _)
    case o3 => simp
    intro A' cap' w2 hB2 hbel2
    have L2 : Below (w1.heap.size + 1) (w1.alloc (.cells #[.int .i64 x, .int .i64 y] 23)) w2 := by
      refine Below.trans (andAlloc' (Below.refl (w1.heap.size + 1) _) (by simp) _) hbel2
    have L3 := L1.trans (L2.mono (by rw [← S1]; exact L1.size))
    have A2 := Box2.later (by rw [S1]; exact L2) A1
    have HB2 := Lib.hid hB2
    clear B1 hbel2 L1 L2 A1 S1 hB2
    go_wp2_with fail
    refine (drawFrac_c _ _ _ _ HB2.out (by omega)).mono ?_
    rintro e w3 ⟨u, v, hu, rfl, hbel3⟩
    have HU := Lib.hid hu
    have hl2 := box2_lt A2
    have A3 := Box2.later hbel3 A2
    have L4 := L3.trans (hbel3.mono L3.size)
    have C3 := box2_new w3 (.int .i64 u) (.int .i64 v) 23
    have A4 := box2_alloc A3 (.cells #[.int .i64 u, .int .i64 v] 23)
    have L5 := andAlloc L4 (.cells #[.int .i64 u, .int .i64 v] 23)
    have hne : ¬ w1.heap.size = w3.heap.size := by have := box2_lt A3; omega
    clear hu hbel3 L3 L4 A2 A3 hl2
    obtain ⟨a0, a1, a2, a3⟩ := id A4
    obtain ⟨c0, c1, c2, c3⟩ := id C3
    go_wp2_with fail
    refine (implFracSub_c _ _ _ _ _).mono ?_
    rintro e w4 ⟨rfl, b4⟩
    obtain ⟨p, q, hs, hR⟩ := sub_plain HA.out HU.out
    rw [hs]
    have A5 := Box2.later b4 A4
    have C5 := Box2.later b4 C3
    have L6 := andThen L5 b4
    have D5 := box2_new w4 (.int .i64 p) (.int .i64 q) 23
    have A6 := box2_alloc A5 (.cells #[.int .i64 p, .int .i64 q] 23)
    have C6 := box2_alloc C5 (.cells #[.int .i64 p, .int .i64 q] 23)
    have L7 := andAlloc L6 (.cells #[.int .i64 p, .int .i64 q] 23)
    obtain ⟨k1, k2, k3, k4, k5⟩ := cmp_sub HA.out HU.out hR
    have hN := new_plain HA.out
    have K1 := Lib.hid k1
    have K2 := Lib.hid k2
    have K3 := Lib.hid k3
    have K4 := Lib.hid k4
    have K5 := Lib.hid k5
    have HN := Lib.hid hN
    clear hs hR k1 k2 k3 k4 k5 hN A5 C5 L5 L6 b4 A4 C3 a0 a1 a2 a3 c0 c1 c2 c3
    have XA := HA.out.x0
    have XB := HA.out.x1
    have YA := HA.out.y0
    have YB := HA.out.y1
    obtain ⟨a0, a1, a2, a3⟩ := id A6
    obtain ⟨c0, c1, c2, c3⟩ := id C6
    obtain ⟨d0, d1, d2, d3⟩ := id D5
    go_wp2_with fail
    refine (implFracNew_c _ _ _).mono ?_
    rintro e w5 ⟨rfl, b5⟩
    rw [HN.out]
    have A7 := box2_alloc (Box2.later b5 A6) (.cells #[.int .i64 x, .int .i64 y] 23)
    have C7 := box2_alloc (Box2.later b5 C6) (.cells #[.int .i64 x, .int .i64 y] 23)
    have D7 := box2_alloc (Box2.later b5 D5) (.cells #[.int .i64 x, .int .i64 y] 23)
    have E7 := box2_new w5 (.int .i64 x) (.int .i64 y) 23
    have L8 := andAlloc (andThen L7 b5) (.cells #[.int .i64 x, .int .i64 y] 23)
    clear b5 A6 C6 D5 L7 a0 a1 a2 a3 c0 c1 c2 c3 d0 d1 d2 d3
    obtain ⟨a0, a1, a2, a3⟩ := id A7
    obtain ⟨c0, c1, c2, c3⟩ := id C7
    obtain ⟨d0, d1, d2, d3⟩ := id D7
    obtain ⟨e0, e1, e2, e3⟩ := id E7
    go_wp2_with fail
    refine (implFracCmp_c _ _ _ _ _).mono ?_
    rintro e w6 ⟨rfl, b6⟩
    have A8 := Box2.later b6 A7
    have C8 := Box2.later b6 C7
    have D8 := Box2.later b6 D7
    have E8 := Box2.later b6 E7
    have L9 := andThen L8 b6
    clear b6 A7 C7 D7 E7 L8 a0 a1 a2 a3 c0 c1 c2 c3 d0 d1 d2 d3 e0 e1 e2 e3
    obtain ⟨a0, a1, a2, a3⟩ := id A8
    obtain ⟨c0, c1, c2, c3⟩ := id C8
    obtain ⟨d0, d1, d2, d3⟩ := id D8
    obtain ⟨e0, e1, e2, e3⟩ := id E8
    have Q1 := eqFrac x y x y
    have Q2 := guardFrac .eql
    obtain ⟨ccc, hcc⟩ : ∃ c, cmpF x y u v = c := ⟨_, rfl⟩
    have k1 := K1.out
    have k2 := K2.out
    rw [hcc] at k1 k2 ⊢
    go_wp2_with fail
    refine (implFracCmp_c _ _ _ _ _).mono ?_
    rintro e w7 ⟨rfl, b7⟩
    have k3 := K3.out
    have k4 := K4.out
    have k5 := K5.out
    obtain ⟨ddd, hdd⟩ : ∃ c, cmpF u v x y = c := ⟨_, rfl⟩
    rw [hcc, hdd] at k3
    rw [hcc] at k4 k5
    rw [hdd]
    go_wp2_with fail
    go_ret
    exact ⟨ret_bool (by first | rfl | simp | (simp; omega)), andThen L9 b7⟩

end Go.Proofs.Ytlkkbekfkgliaaa
