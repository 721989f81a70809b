/-
  The walk of the law FnRatios: ratios of the index multiply. Conditions: none.
-/
import Derived.Test.YtlpaicpjadkceaaDrawPay
import Derived.Test.YtlpaicpjadkceaaIndexRatio
import Derived.Test.YtlpaicpjadkceaaFracMul
import Derived.Test.YtlpaicpjadkceaaPlaces
import Derived.Laws.StructEq
namespace Go.Proofs.Ytlpaicpjadkceaa
open Go.RowKit
set_option linter.unusedVariables false
set_option maxRecDepth 4000

theorem eqFracIn' (a b c d : Int) (w : World) : (Op.equalIn 10000 54 (.agg #[.int .i64 a, .int .i64 b]) (.agg #[.int .i64 c, .int .i64 d])).run Try.prog w = .ok (a == c && b == d) w := by
  have u3 : Try.prog.underlying 3 = some (.int .i64) := by kernel_rfl
  have hS : Try.prog.underlying 54 = some (.struct (Try.prog.fieldsOf 54)) := by kernel_rfl
  have hp : Try.prog.stoodInHeld 54 = false := by kernel_rfl
  rw [show (10000 : Nat) = 9999 + 1 from rfl, run_equalIn_agg w 9999 54 _ _ hS hp]
  simp only [Program.fieldsOf, Try.underlying54]
  go_simp
  by_cases h1 : a = c <;> by_cases h2 : b = d <;> simp [h1, h2]
theorem eqFrac' (a b c d : Int) (w : World) : (binOp .eql 54 (.agg #[.int .i64 a, .int .i64 b]) (.agg #[.int .i64 c, .int .i64 d])).run Try.prog w = .ok (.bool (a == c && b == d)) w := by
  rw [run_eql_struct, eqFracIn']; rfl
theorem guardFrac' (op : BinOp) (x y : Operand) (xs ys : Array Value) (w : World) : (eqGuard op 54 x y (.agg xs) (.agg ys)).run Try.prog w = .ok () w :=
  run_eqGuard_agg w op 54 x y xs ys (by kernel_rfl)

theorem bytes_mono' {w : World} {base base' : Nat} {A : Option Addr} {n : Nat} (h : Bytes w base A n) (hb : base ≤ base') : Bytes w base' A n := fun j hj => by
  obtain ⟨b, off, y, h1, h2, h3⟩ := h j hj
  exact ⟨b, off, y, h1, Nat.lt_of_lt_of_le h2 hb, h3⟩
theorem bestI_some {F : Nat → Nat → Int} {m kn : Int} (h0 : F 0 0 ≤ m) (h1 : F 0 1 ≤ kn) : ∀ k, 0 < k → ∃ b, bestI F m kn k = some b
  | 1, _ => ⟨0, bestI_yes (by
      have e : bestI F m kn 0 = none := rfl
      unfold takeB
      rw [e, decide_eq_true h0, decide_eq_true h1]
      rfl)⟩
  | k + 2, _ => by
    obtain ⟨b, hb⟩ := bestI_some h0 h1 (k + 1) (by omega)
    cases hv : takeB F m kn (bestI F m kn (k + 1)) (k + 1)
    · exact ⟨b, by rw [bestI_no hv, hb]⟩
    · exact ⟨k + 1, bestI_yes hv⟩
theorem pay_index {F : Nat → Nat → Int} {n : Nat} (h : payP F n) {m : Int} (hm : 0 ≤ m) : ∃ v, indexAt F n m 99 = (v, true) ∧ 9000 ≤ v ∧ v ≤ 13000 := by
  obtain ⟨h0, h1, h2, h3⟩ := h
  obtain ⟨b, hb⟩ := bestI_some (F := F) (m := m) (kn := 99) (by omega) (by omega) n h0
  obtain ⟨h4, h5⟩ := h3 b (bestI_lt F m 99 n b hb)
  exact ⟨F b 2, by unfold indexAt; rw [hb], h4, h5⟩
theorem newF_pay {x y : Int} (hx : 9000 ≤ x ∧ x ≤ 13000) (hy : 9000 ≤ y ∧ y ≤ 13000) :
    ∃ p q : Int, newF y x = (p, q, true) ∧ newF x y = (q, p, true) ∧ 1 ≤ p ∧ p ≤ 13000 ∧ 1 ≤ q ∧ q ≤ 13000 ∧ Int.gcd p q = 1 := by
  obtain ⟨g, hg⟩ : ∃ g : Nat, Int.gcd y x = g := ⟨_, rfl⟩
  have hg2 : Int.gcd x y = g := by rw [Int.gcd_comm]; exact hg
  have hgp : 0 < g := by rw [← hg]; exact Int.gcd_pos_of_ne_zero_left _ (by omega)
  have dy : (g : Int) ∣ y := by rw [← hg]; exact Int.gcd_dvd_left ..
  have dx : (g : Int) ∣ x := by rw [← hg]; exact Int.gcd_dvd_right ..
  obtain ⟨p, rfl⟩ := dy
  obtain ⟨q, rfl⟩ := dx
  have hgi : (0 : Int) < (g : Int) := by omega
  have ep : (g : Int) * p / (g : Int) = p := Int.mul_ediv_cancel_left _ (by omega)
  have eq : (g : Int) * q / (g : Int) = q := Int.mul_ediv_cancel_left _ (by omega)
  have hp1 : 1 ≤ p := by
    rcases Int.lt_or_le p 1 with h | h
    · have : (g : Int) * p ≤ (g : Int) * 0 := Int.mul_le_mul_of_nonneg_left (by omega) (by omega)
      omega
    · exact h
  have hq1 : 1 ≤ q := by
    rcases Int.lt_or_le q 1 with h | h
    · have : (g : Int) * q ≤ (g : Int) * 0 := Int.mul_le_mul_of_nonneg_left (by omega) (by omega)
      omega
    · exact h
  have hp2 : p ≤ 13000 := by
    have : 1 * p ≤ (g : Int) * p := Int.mul_le_mul_of_nonneg_right (by omega) (by omega)
    omega
  have hq2 : q ≤ 13000 := by
    have : 1 * q ≤ (g : Int) * q := Int.mul_le_mul_of_nonneg_right (by omega) (by omega)
    omega
  have hgc : Int.gcd p q = 1 := by
    rw [Int.gcd_mul_left] at hg
    have e : (g : Int).natAbs = g := Int.natAbs_natCast g
    rw [e] at hg
    exact Nat.eq_of_mul_eq_mul_left hgp (by omega)
  have hgc2 : Int.gcd q p = 1 := by rw [Int.gcd_comm]; exact hgc
  have ok1 : okB p q = true := by
    unfold okB
    rw [inB_true (by omega) (by omega), inB_true (by omega) (by omega), decide_eq_true hgc]
    rfl
  have ok2 : okB q p = true := by
    unfold okB
    rw [inB_true (by omega) (by omega), inB_true (by omega) (by omega), decide_eq_true hgc2]
    rfl
  have key : ∀ a b : Int, 9000 ≤ a ∧ a ≤ 13000 → 9000 ≤ b ∧ b ≤ 13000 → newF a b = red1 a b := fun a b ha hb => by
    unfold newF red
    have h0 : (b == 0) = false := by rw [beq_eq_false_iff_ne]; omega
    rw [h0, inB_true (by omega) (by omega), inB_true (by omega) (by omega), if_neg (by omega : ¬ b < 0)]
    rfl
  refine ⟨p, q, ?_, ?_, hp1, hp2, hq1, hq2, hgc⟩
  · rw [key _ _ hy hx, red1_ok (by rw [hg, ep, eq]; exact ok1), hg, ep, eq]
  · rw [key _ _ hx hy, red1_ok (by rw [hg2, ep, eq]; exact ok2), hg2, ep, eq]
theorem newF_self {x : Int} (hx : 9000 ≤ x ∧ x ≤ 13000) : newF x x = (1, 1, true) := by
  obtain ⟨p, q, h1, h2, h3, h4, h5, h6, h7⟩ := newF_pay hx hx
  rw [h1] at h2
  injection h2 with h2 _
  subst h2
  rw [Int.gcd_self] at h7
  have : p = 1 := by omega
  rw [h1, this]
theorem mulF_inv {p q : Int} (h1 : 1 ≤ p) (h2 : p ≤ 13000) (h3 : 1 ≤ q) (h4 : q ≤ 13000) (h : Int.gcd p q = 1) : mulF p q q p = (1, 1, true) := by
  have hc : Int.gcd q p = 1 := by rw [Int.gcd_comm]; exact h
  have s1 : smallB p q = true := by
    unfold smallB okB
    rw [inB_true (by omega) (by omega), inB_true (by omega) (by omega), inB_true (by omega) (by omega), decide_eq_true h]
    rfl
  have s2 : smallB q p = true := by
    unfold smallB okB
    rw [inB_true (by omega) (by omega), inB_true (by omega) (by omega), inB_true (by omega) (by omega), decide_eq_true hc]
    rfl
  obtain ⟨r, hr⟩ : ∃ r : Int, p * q = r := ⟨_, rfl⟩
  have hr0 : 0 < r := by rw [← hr]; exact Int.mul_pos (by omega) (by omega)
  have e2 : q * p = r := by rw [Int.mul_comm]; exact hr
  unfold mulF
  rw [s1, s2, hr, e2]
  unfold red
  rw [if_neg (by omega : ¬ r < 0)]
  have hg : ((Int.gcd r r : Nat) : Int) = r := by rw [Int.gcd_self]; omega
  have e3 : r / r = 1 := Int.ediv_self (by omega)
  have := red1_ok (n := r) (d := r) (by rw [hg, e3]; decide)
  rw [hg, e3] at this
  simpa using this

set_option maxHeartbeats 8000000 in
theorem walk_FnRatios (w : World) (A : Option Addr) (n cap : Nat) (z : List Int) (hr : IsRow .u8 w A n cap z) :
    Calls Try.prog 9 #[.slice A n cap] w fun e w' => e = .returned (.bool true) ∧ Below w.heap.size w w' := by
  have hb := bytes0_of_row hr
  clear hr
  cases hbig : decide (1048576 < n)
  case true =>
    go_enter Try.func9, Try.ntmps9
    go_wp2_with (go_at_call 31; refine (big_c _ _ _ _).mono ?_; rintro e w' ⟨rfl, rfl⟩)
    go_ret
    exact ⟨rfl, Below.refl _ _⟩
  case false =>
    have hn : n ≤ 2000000 := by have := of_decide_eq_false hbig; omega
    have HB := Lib.hid hb
    clear hb
    have hE := eqFrac'
    have hG := guardFrac'
    go_enter Try.func9, Try.ntmps9
    go_wp2_with fail
    refine (big_c _ _ _ _).mono ?_
    rintro e w' ⟨rfl, rfl⟩
    go_wp2_with fail
    refine (drawPay_c _ _ _ _ HB.out hn).mono ?_
    rintro e w1 ⟨As, ns, cs, A1, n1, c1, F, rfl, hn1, hd, V1, b1⟩
    obtain ⟨A1', c1', e1, t1⟩ := V1.tab
    obtain ⟨rfl, _, rfl⟩ : A1 = A1' ∧ n1 = n1 ∧ c1 = c1' := by injection e1 with x y z; exact ⟨x, rfl, z⟩
    have HD := Lib.hid hd
    have l1 : Below w1.heap.size w1 ((w1.alloc (.cells #[.slice As ns cs] 61)).alloc (.cells #[.slice A1 n1 c1] 30)) := andAlloc (andAlloc (Below.refl _ _) _) _
    have s1 : ((w1.alloc (.cells #[.slice As ns cs] 61)).alloc (.cells #[.slice A1 n1 c1] 30)).cell? ⟨w1.heap.size + 1, 0, none⟩ = some (.slice A1 n1 c1) := by go_simp
    have z1 : ((w1.alloc (.cells #[.slice As ns cs] 61)).alloc (.cells #[.slice A1 n1 c1] 30)).heap.size = w1.heap.size + 1 + 1 := by simp
    have H1 := Lib.hid (t1.keep l1)
    have bb := andThen b1 l1
    have hle := b1.size
    have HBB := Lib.hid (HB.out.below bb)
    clear hd V1 e1 t1 b1 l1
    go_wp2_with fail
    generalize (w1.alloc (.cells #[.slice As ns cs] 61)).alloc (.cells #[.slice A1 n1 c1] 30) = W1 at *
    refine (drawPlaces_c _ _ _ _ (bytes_mono' HBB.out (by omega)) hn).mono ?_
    rintro e w2 ⟨v, zs, rfl, hl, hp, hown, hbel⟩
    obtain ⟨g, cp, rfl, hg1, hg2, hcp, hc⟩ := hown.form (by omega)
    have c0 := hc 0 (by omega)
    have c1' := hc 1 (by omega)
    have q0 := hp zs[0] (List.getElem_mem _)
    have q1 := hp zs[1] (List.getElem_mem _)
    generalize zs[0] = p0 at *
    generalize zs[1] = p1 at *
    obtain ⟨q00, q01⟩ := q0
    obtain ⟨q10, q11⟩ := q1
    rw [hl] at hcp ⊢
    clear hc hown hp hl
    have a0 := Int.emod_nonneg p0 (show (60 : Int) ≠ 0 by decide)
    have b0 := Int.emod_nonneg p1 (show (60 : Int) ≠ 0 by decide)
    have s2 := cell_later hbel s1
    have H2 := Lib.hid (H1.out.keep (hbel.mono (by omega)))
    have bb2 := andThen bb hbel
    have zz2 := hbel.size
    have HLE := Lib.hid (And.intro hle (And.intro z1 zz2))
    clear H1 s1 bb hbel HBB HB
    obtain ⟨x, hx, hx1⟩ := pay_index HD.out a0
    obtain ⟨y, hy, hy1⟩ := pay_index HD.out b0
    obtain ⟨p, q, r1, r2, u1, u2, u3, u4, u5⟩ := newF_pay hx1 hy1
    have HR1 : Hid (ratio F n1 (p0 % 60) (p1 % 60) 99 = (p, q, true)) := by show _ = _; unfold ratio; rw [hx, hy]; exact r1
    have HR2 : Hid (ratio F n1 (p1 % 60) (p0 % 60) 99 = (q, p, true)) := by show _ = _; unfold ratio; rw [hx, hy]; exact r2
    have HR3 : Hid (ratio F n1 (p0 % 60) (p0 % 60) 99 = (1, 1, true)) := by show _ = _; unfold ratio; rw [hx]; exact newF_self hx1
    have HM := Lib.hid (mulF_inv u1 u2 u3 u4 u5)
    clear hx hy hx1 hy1 r1 r2 u1 u2 u3 u4 u5
    go_upto_region 7 with fail
    generalize hA : p0 % 60 = a at *
    generalize hB : p1 % 60 = b at *
    clear hA hB c0 c1' q00 q01 q10 q11
    go_wp2_with fail
    refine (implIndexRatio_c w1.heap.size _ _ _ F a b 99 _ H2.out (by omega) (by omega)).mono ?_
    rintro e w3 ⟨rfl, b3⟩
    rw [HR1.out]
    have l3 := andAlloc b3 (.cells #[.int .i64 p, .int .i64 q] 54)
    have B3 := Blk.new w3 54 #[.int .i64 p, .int .i64 q]
    have s3 := cell_later l3 s2
    have H3 := Lib.hid (H2.out.keep (l3.mono (by omega)))
    have bb3 := andThen bb2 l3
    have z3 : (w3.alloc (.cells #[.int .i64 p, .int .i64 q] 54)).heap.size = w3.heap.size + 1 := by simp
    have zz3 := b3.size
    clear b3 l3 s2 H2 bb2
    go_wp2_with fail
    generalize w3.alloc (.cells #[.int .i64 p, .int .i64 q] 54) = W3 at *
    refine (implIndexRatio_c w1.heap.size _ _ _ F b a 99 _ H3.out (by omega) (by omega)).mono ?_
    rintro e w4 ⟨rfl, b4⟩
    rw [HR2.out]
    have l4 := andAlloc b4 (.cells #[.int .i64 q, .int .i64 p] 54)
    have B4 := Blk.new w4 54 #[.int .i64 q, .int .i64 p]
    have B3' := B3.later' l4
    have s4 := cell_later l4 s3
    have H4 := Lib.hid (H3.out.keep (l4.mono (by omega)))
    have bb4 := andThen bb3 l4
    have z4 : (w4.alloc (.cells #[.int .i64 q, .int .i64 p] 54)).heap.size = w4.heap.size + 1 := by simp
    have zz4 := b4.size
    have x0 : (w4.alloc (.cells #[.int .i64 q, .int .i64 p] 54)).cell? ⟨w3.heap.size, 0, none⟩ = some (.int .i64 p) := B3'.cell 0
    have x1 : (w4.alloc (.cells #[.int .i64 q, .int .i64 p] 54)).cell? ⟨w3.heap.size, 1, none⟩ = some (.int .i64 q) := B3'.cell 1
    have y0 : (w4.alloc (.cells #[.int .i64 q, .int .i64 p] 54)).cell? ⟨w4.heap.size, 0, none⟩ = some (.int .i64 q) := B4.cell 0
    have y1 : (w4.alloc (.cells #[.int .i64 q, .int .i64 p] 54)).cell? ⟨w4.heap.size, 1, none⟩ = some (.int .i64 p) := B4.cell 1
    clear b4 l4 s3 H3 bb3 B3 B4 B3'
    go_wp2_with fail
    generalize w4.alloc (.cells #[.int .i64 q, .int .i64 p] 54) = W4 at *
    refine (specFracMul_c p q q p _).mono ?_
    rintro e w5 ⟨rfl, b5⟩
    rw [HM.out]
    have l5 := andAlloc b5 (.cells #[.int .i64 1, .int .i64 1] 54)
    have B5 := Blk.new w5 54 #[.int .i64 1, .int .i64 1]
    have s5 := cell_later l5 s4
    have H5 := Lib.hid (H4.out.keep (l5.mono (by omega)))
    have bb5 := andThen bb4 l5
    have z5 : (w5.alloc (.cells #[.int .i64 1, .int .i64 1] 54)).heap.size = w5.heap.size + 1 := by simp
    have zz5 := b5.size
    clear b5 l5 s4 H4 bb4 x0 x1 y0 y1
    go_wp2_with fail
    generalize w5.alloc (.cells #[.int .i64 1, .int .i64 1] 54) = W5 at *
    refine (implIndexRatio_c w1.heap.size _ _ _ F a a 99 _ H5.out (by omega) (by omega)).mono ?_
    rintro e w6 ⟨rfl, b6⟩
    rw [HR3.out]
    have l6 := andAlloc b6 (.cells #[.int .i64 1, .int .i64 1] 54)
    have B6 := Blk.new w6 54 #[.int .i64 1, .int .i64 1]
    have B5' := B5.later' l6
    have bb6 := andThen bb5 l6
    have x0 : (w6.alloc (.cells #[.int .i64 1, .int .i64 1] 54)).cell? ⟨w5.heap.size, 0, none⟩ = some (.int .i64 1) := B5'.cell 0
    have x1 : (w6.alloc (.cells #[.int .i64 1, .int .i64 1] 54)).cell? ⟨w5.heap.size, 1, none⟩ = some (.int .i64 1) := B5'.cell 1
    have y0 : (w6.alloc (.cells #[.int .i64 1, .int .i64 1] 54)).cell? ⟨w6.heap.size, 0, none⟩ = some (.int .i64 1) := B6.cell 0
    have y1 : (w6.alloc (.cells #[.int .i64 1, .int .i64 1] 54)).cell? ⟨w6.heap.size, 1, none⟩ = some (.int .i64 1) := B6.cell 1
    clear b6 l6 s5 H5 bb5 B5 B6 B5'
    go_wp2_with fail
    go_ret
    exact ⟨rfl, bb6⟩

end Go.Proofs.Ytlpaicpjadkceaa
