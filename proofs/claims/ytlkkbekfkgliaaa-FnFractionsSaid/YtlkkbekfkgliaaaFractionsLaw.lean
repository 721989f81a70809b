/-
  The walk of the law FnFractions. Conditions: none.
-/
import Derived.Test.YtlkkbekfkgliaaaFracPair
namespace Go.Proofs.Ytlkkbekfkgliaaa
open Go.RowKit
set_option linter.unusedVariables false
set_option maxRecDepth 4000

set_option maxHeartbeats 4000000 in
theorem walk_FnFractions (w : World) (A : Option Addr) (n cap : Nat) (z : List Int) (hr : IsRow .u8 w A n cap z) :
    Calls Try.prog 13 #[.slice A n cap] w fun e w' => e = .returned (.bool true) ∧ Below w.heap.size w w' := by
  have hb := bytes0_of_row hr
  have hcap := row_none hr
  clear hr
  cases hbig : decide (1048576 < n)
  case true =>
    go_enter Try.func13, Try.ntmps13
    go_wp2_with (go_at_call 32; refine (big_c _ _ _ _).mono ?_; rintro e w' ⟨rfl, rfl⟩)
    go_ret
    exact ⟨rfl, Below.refl _ _⟩
  case false =>
    have hn : n ≤ 1048576 := by have := of_decide_eq_false hbig; omega
    have HB := Lib.hid hb
    have HC := Lib.hid hcap
    clear hb hcap
    go_enter Try.func13, Try.ntmps13
    go_wp2_with fail
    refine (big_c _ _ _ _).mono ?_
    rintro e w' ⟨rfl, rfl⟩
    go_wp2_with fail
    refine (drawFrac_c _ _ _ _ HB.out (by omega)).mono ?_
    rintro e w1 ⟨x, y, ha, rfl, hbel1⟩
    have HA := Lib.hid ha
    have A1 := box2_new w1 (.int .i64 x) (.int .i64 y) 23
    have L1 := andAlloc hbel1 (.cells #[.int .i64 x, .int .i64 y] 23)
    have B1 := (HB.out.below L1).mono L1.size
    have S1 : (w1.alloc (.cells #[.int .i64 x, .int .i64 y] 23)).heap.size = w1.heap.size + 1 := by simp
    clear ha hbel1
    go_wp2_with (at_builtin; refine wpList_append_bytes rfl _ _ rfl (w1.heap.size + 1) _ rfl ?o1 A n cap rfl ?o2 (by omega) HC.out ?o3 ?_)
    case o1 =>
      have := World.ownsRow_lit (base := w1.heap.size + 1) (e := 5) (size := 1) (w1.alloc (.cells #[.int .i64 x, .int .i64 y] 23)) #[.int .u8 3] 1 (by simp) (by decide) rfl
      rw [S1] at this
      exact this
    case o2 => rw [S1] at B1; exact B1.below ((Below.refl _ _).alloc (by simp) _)
    case o3 => simp
    intro A' cap' w2 hB2 hbel2
    have L2 : Below (w1.heap.size + 1) (w1.alloc (.cells #[.int .i64 x, .int .i64 y] 23)) w2 := by
      refine Below.trans (andAlloc' (Below.refl (w1.heap.size + 1) _) (by simp) _) hbel2
    have L3 := L1.trans (L2.mono (by rw [← S1]; exact L1.size))
    have A2 := Box2.later (by rw [S1]; exact L2) A1
    have HB2 := Lib.hid hB2
    clear B1 hbel2 L1 L2 A1 S1 hB2
    go_wp2_with fail
    refine (drawFrac_c _ _ _ _ HB2.out (by omega)).mono ?_
    rintro e w3 ⟨u, v, hu, rfl, hbel3⟩
    have HU := Lib.hid hu
    have hl2 := box2_lt A2
    have A3 := Box2.later hbel3 A2
    have L4 := L3.trans (hbel3.mono L3.size)
    have C3 := box2_new w3 (.int .i64 u) (.int .i64 v) 23
    have A4 := box2_alloc A3 (.cells #[.int .i64 u, .int .i64 v] 23)
    have L5 := andAlloc L4 (.cells #[.int .i64 u, .int .i64 v] 23)
    have hne : ¬ w1.heap.size = w3.heap.size := by have := box2_lt A3; omega
    clear hu hbel3 L3 L4 A2 A3 hl2
    obtain ⟨a0, a1, a2, a3⟩ := id A4
    obtain ⟨c0, c1, c2, c3⟩ := id C3
    go_wp2_with fail
    refine (implFracAdd_c _ _ _ _ _).mono ?_
    rintro e w4 ⟨rfl, b4⟩
    obtain ⟨s, t, hs, hR⟩ := add_plain HA.out HU.out
    rw [hs]
    have hD := sub_back HA.out HU.out hR
    have HD := Lib.hid hD
    have HO := Lib.hid hR.ok
    have A5 := box2_alloc (Box2.later b4 A4) (.cells #[.int .i64 s, .int .i64 t] 23)
    have C5 := box2_alloc (Box2.later b4 C3) (.cells #[.int .i64 s, .int .i64 t] 23)
    have S5 := box2_new w4 (.int .i64 s) (.int .i64 t) 23
    have L6 := andAlloc (andThen L5 b4) (.cells #[.int .i64 s, .int .i64 t] 23)
    clear hs hR hD L5 b4 A4 C3 a0 a1 a2 a3 c0 c1 c2 c3
    obtain ⟨a0, a1, a2, a3⟩ := id A5
    obtain ⟨c0, c1, c2, c3⟩ := id C5
    obtain ⟨s0, s1, s2, s3⟩ := id S5
    go_wp2_with fail
    refine (implFracSub_c _ _ _ _ _).mono ?_
    rintro e w5 ⟨rfl, b5⟩
    rw [HD.out]
    have A6 := box2_alloc (Box2.later b5 A5) (.cells #[.int .i64 x, .int .i64 y] 23)
    have C6 := box2_alloc (Box2.later b5 C5) (.cells #[.int .i64 x, .int .i64 y] 23)
    have S6 := box2_alloc (Box2.later b5 S5) (.cells #[.int .i64 x, .int .i64 y] 23)
    have D6 := box2_new w5 (.int .i64 x) (.int .i64 y) 23
    have L7 := andAlloc (andThen L6 b5) (.cells #[.int .i64 x, .int .i64 y] 23)
    clear b5 A5 C5 S5 L6 a0 a1 a2 a3 c0 c1 c2 c3 s0 s1 s2 s3
    obtain ⟨a0, a1, a2, a3⟩ := id A6
    obtain ⟨c0, c1, c2, c3⟩ := id C6
    obtain ⟨s0, s1, s2, s3⟩ := id S6
    obtain ⟨d0, d1, d2, d3⟩ := id D6
    go_wp2_with fail
    refine (implFracMul_c _ _ _ _ _).mono ?_
    rintro e w6 ⟨rfl, b6⟩
    obtain ⟨p, q, hp, hM, hsm⟩ := mul_plain HA.out HU.out
    rw [hp]
    have HM := Lib.hid hM
    have HSM := Lib.hid hsm
    have A7 := box2_alloc (Box2.later b6 A6) (.cells #[.int .i64 p, .int .i64 q] 23)
    have C7 := box2_alloc (Box2.later b6 C6) (.cells #[.int .i64 p, .int .i64 q] 23)
    have S7 := box2_alloc (Box2.later b6 S6) (.cells #[.int .i64 p, .int .i64 q] 23)
    have D7 := box2_alloc (Box2.later b6 D6) (.cells #[.int .i64 p, .int .i64 q] 23)
    have P7 := box2_new w6 (.int .i64 p) (.int .i64 q) 23
    have L8 := andAlloc (andThen L7 b6) (.cells #[.int .i64 p, .int .i64 q] 23)
    clear hp hM hsm b6 A6 C6 S6 D6 L7 a0 a1 a2 a3 c0 c1 c2 c3 s0 s1 s2 s3 d0 d1 d2 d3
    obtain ⟨a0, a1, a2, a3⟩ := id A7
    obtain ⟨c0, c1, c2, c3⟩ := id C7
    obtain ⟨s0, s1, s2, s3⟩ := id S7
    obtain ⟨d0, d1, d2, d3⟩ := id D7
    obtain ⟨p0, p1, p2, p3⟩ := id P7
    have Q1 := eqFrac x y x y
    have Q3 := neFrac x y x y
    have Q2 := guardFrac .eql
    have Q4 := guardFrac .neq
    go_wp2_with fail
    refine (implFracOk_c _ _ _).mono ?_
    rintro e w7 ⟨rfl, b7⟩
    rw [HO.out]
    have A8 := Box2.later b7 A7
    have C8 := Box2.later b7 C7
    have P8 := Box2.later b7 P7
    have L9 := andThen L8 b7
    clear b7 A7 C7 S7 D7 P7 L8 a0 a1 a2 a3 c0 c1 c2 c3 s0 s1 s2 s3 d0 d1 d2 d3 p0 p1 p2 p3
    obtain ⟨a0, a1, a2, a3⟩ := id A8
    obtain ⟨c0, c1, c2, c3⟩ := id C8
    obtain ⟨p0, p1, p2, p3⟩ := id P8
    go_wp2_with fail
    refine (implFracCmp_c _ _ _ _ _).mono ?_
    rintro e w8 ⟨rfl, b8⟩
    rw [cmp_self HA.out]
    have A9 := Box2.later b8 A8
    have C9 := Box2.later b8 C8
    have P9 := Box2.later b8 P8
    have L10 := andThen L9 b8
    clear b8 A8 C8 P8 L9 a0 a1 a2 a3 c0 c1 c2 c3 p0 p1 p2 p3
    obtain ⟨a0, a1, a2, a3⟩ := id A9
    obtain ⟨c0, c1, c2, c3⟩ := id C9
    obtain ⟨p0, p1, p2, p3⟩ := id P9
    cases hu : (u == 0)
    case true =>
      have hu0 : u = 0 := by simpa using hu
      subst hu0
      have hp0 := HM.out.zero
      subst hp0
      clear hu
      go_wp2_with fail
      refine (implFracDiv_c _ _ _ _ _).mono ?_
      rintro e w9 ⟨rfl, b9⟩
      rw [div_zero]
      obtain ⟨r0, r1, r2, r3⟩ := box2_alloc (Box2.later b9 P9) (.cells #[.int .i64 0, .int .i64 0] 23)
      have L11 := andAlloc (andThen L10 b9) (.cells #[.int .i64 0, .int .i64 0] 23)
      clear a0 a1 a2 a3 c0 c1 c2 c3 p0 p1 p2 p3 A9 C9 P9 b9 L10
      go_wp2_with fail
      go_ret
      exact ⟨rfl, L11⟩
    case false =>
      have hV := div_back HA.out HU.out HM.out HSM.out hu
      have HV := Lib.hid hV
      clear hV
      go_wp2_with fail
      refine (implFracDiv_c _ _ _ _ _).mono ?_
      rintro e w9 ⟨rfl, b9⟩
      rw [HV.out]
      obtain ⟨r0, r1, r2, r3⟩ := box2_alloc (Box2.later b9 A9) (.cells #[.int .i64 x, .int .i64 y] 23)
      obtain ⟨s0, s1, s2, s3⟩ := box2_new w9 (.int .i64 x) (.int .i64 y) 23
      have L11 := andAlloc (andThen L10 b9) (.cells #[.int .i64 x, .int .i64 y] 23)
      clear a0 a1 a2 a3 c0 c1 c2 c3 p0 p1 p2 p3 A9 C9 P9 b9 L10
      go_wp2_with fail
      go_ret
      exact ⟨ret_bool (by simp), L11⟩

end Go.Proofs.Ytlkkbekfkgliaaa
