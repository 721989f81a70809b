/-
  IndexRatio of both packages computes one plain function; the walk of the law FnExactIndexRatio. Conditions: the points can be read.
-/
import Derived.Test.YtlpaicpjadkceaaIndexAt
import Derived.Test.YtlpaicpjadkceaaFracOps
import Derived.Test.YtlpaicpjadkceaaBox
import Derived.Deep.RegionHeld3
namespace Go.Proofs.Ytlpaicpjadkceaa
open Go.RowKit
set_option linter.unusedVariables false
set_option maxRecDepth 4000

def ratio (F : Nat → Nat → Int) (n : Nat) (a b kn : Int) : Int × Int × Bool :=
  if ((indexAt F n a kn).2 && (indexAt F n b kn).2) = true then newF (indexAt F n b kn).1 (indexAt F n a kn).1 else (0, 0, false)

set_option maxHeartbeats 2000000 in
theorem implIndexRatio_c (L : Nat) (A : Option Addr) (n cap : Nat) (F : Nat → Nat → Int) (a b kn : Int) (w : World) (h1 : Tab 3 w L A n F) (hL : L ≤ w.heap.size) (hn : n ≤ 1048577) :
    Calls Try.prog 35 #[.agg #[.slice A n cap], .int .i64 a, .int .i64 b, .int .i64 kn] w fun e w' => e = .returned (.tuple #[.agg #[.int .i64 (ratio F n a b kn).1, .int .i64 (ratio F n a b kn).2.1], .bool (ratio F n a b kn).2.2]) ∧ Below w.heap.size w w' := by
  have L0 : Below w.heap.size w ((w.alloc (.cells #[.slice A n cap] 30)).alloc (.cells #[.int .i64 0, .int .i64 0] 54)) := andAlloc (andAlloc (Below.refl _ _) _) _
  have B0 : ((w.alloc (.cells #[.slice A n cap] 30)).alloc (.cells #[.int .i64 0, .int .i64 0] 54)).cell? ⟨w.heap.size, 0, none⟩ = some (.slice A n cap) := by go_simp
  have R0 : Box2 ((w.alloc (.cells #[.slice A n cap] 30)).alloc (.cells #[.int .i64 0, .int .i64 0] 54)) (w.heap.size + 1) (.int .i64 0) (.int .i64 0) := ⟨by go_simp, by go_simp, by go_simp, by go_simp⟩
  have S0 : ((w.alloc (.cells #[.slice A n cap] 30)).alloc (.cells #[.int .i64 0, .int .i64 0] 54)).heap.size = w.heap.size + 1 + 1 := by simp
  have H1 := Lib.hid (h1.keep (L0.mono hL))
  clear h1
  obtain ⟨x, o1, hx⟩ : ∃ x o, indexAt F n a kn = (x, o) := ⟨_, _, rfl⟩
  obtain ⟨y, o2, hy⟩ : ∃ x o, indexAt F n b kn = (x, o) := ⟨_, _, rfl⟩
  have HX := Lib.hid hx
  have HY := Lib.hid hy
  obtain ⟨u, v, o, hu⟩ : ∃ u v o, newF y x = (u, v, o) := ⟨_, _, _, rfl⟩
  have HU := Lib.hid hu
  have HR : Hid (ratio F n a b kn = if (o1 && o2) = true then newF y x else (0, 0, false)) := by show _ = _; unfold ratio; rw [hx, hy]
  clear hx hy hu
  cases h1 : o1 <;> cases h2 : o2
  all_goals
    rw [h1] at HX
    rw [h2] at HY
    rw [h1, h2] at HR
    clear h1 h2
    go_enter Try.func35, Try.ntmps35
    go_wp2_with fail
    generalize (w.alloc (.cells #[.slice A n cap] 30)).alloc (.cells #[.int .i64 0, .int .i64 0] 54) = W1 at L0 B0 R0 S0 H1 ⊢
    refine (implIndexAt_c L _ _ _ F a kn _ H1.out (by omega) hn).mono ?_
    rintro e w1 ⟨rfl, b1⟩
    rw [HX.out]
    have s1 := cell_later b1 B0
    have r1 := Box2.later b1 R0
    have l1 := andThen L0 b1
    have HT := Lib.hid (H1.out.keep (b1.mono (by omega)))
    have z1 := b1.size
    clear b1
    go_wp2_with fail
    refine (implIndexAt_c L _ _ _ F b kn _ HT.out (by omega) hn).mono ?_
    rintro e w2 ⟨rfl, b2⟩
    rw [HY.out]
    have s2 := cell_later b2 s1
    obtain ⟨r20, r21, r22, r23⟩ := Box2.later b2 r1
    have l2 := andThen l1 b2
    have z2 := b2.size
    clear b2 r1 l1 s1
    first
    | (go_wp2_with fail
       refine (implFracNew_c _ _ _).mono ?_
       rintro e w3 ⟨rfl, b3⟩
       rw [HU.out]
       obtain ⟨r30, r31, r32, r33⟩ := Box2.later b3 ⟨r20, r21, r22, r23⟩
       have l3 := andThen l2 b3
       clear b3 r20 r21 r22 r23
       go_wp2_with fail
       refine bodyPost_ret (v := .tuple #[.agg #[.int .i64 u, .int .i64 v], .bool o]) (by simp [results, Try.results35, go_sem, r30, r31]) rfl ?_
       exact ⟨by rw [HR.out]; simp only [Bool.and_self, if_true]; rw [HU.out], below_put (below_put l3 (by omega) _ _) (by omega) _ _⟩)
    | (go_wp2_with fail
       refine bodyPost_ret (v := .tuple #[.agg #[.int .i64 0, .int .i64 0], .bool false]) (by simp [results, Try.results35, go_sem, r20, r21]) rfl ?_
       exact ⟨by rw [HR.out]; rfl, below_put (below_put l2 (by omega) _ _) (by omega) _ _⟩)

set_option maxHeartbeats 2000000 in
theorem specIndexRatio_c (L : Nat) (A : Option Addr) (n cap : Nat) (F : Nat → Nat → Int) (a b kn : Int) (w : World) (h1 : Tab 3 w L A n F) (hL : L ≤ w.heap.size) (hn : n ≤ 1048577) :
    Calls Try.prog 34 #[.agg #[.slice A n cap], .int .i64 a, .int .i64 b, .int .i64 kn] w fun e w' => e = .returned (.tuple #[.agg #[.int .i64 (ratio F n a b kn).1, .int .i64 (ratio F n a b kn).2.1], .bool (ratio F n a b kn).2.2]) ∧ Below w.heap.size w w' := by
  have L0 : Below w.heap.size w ((w.alloc (.cells #[.slice A n cap] 30)).alloc (.cells #[.int .i64 0, .int .i64 0] 54)) := andAlloc (andAlloc (Below.refl _ _) _) _
  have B0 : ((w.alloc (.cells #[.slice A n cap] 30)).alloc (.cells #[.int .i64 0, .int .i64 0] 54)).cell? ⟨w.heap.size, 0, none⟩ = some (.slice A n cap) := by go_simp
  have R0 : Box2 ((w.alloc (.cells #[.slice A n cap] 30)).alloc (.cells #[.int .i64 0, .int .i64 0] 54)) (w.heap.size + 1) (.int .i64 0) (.int .i64 0) := ⟨by go_simp, by go_simp, by go_simp, by go_simp⟩
  have S0 : ((w.alloc (.cells #[.slice A n cap] 30)).alloc (.cells #[.int .i64 0, .int .i64 0] 54)).heap.size = w.heap.size + 1 + 1 := by simp
  have H1 := Lib.hid (h1.keep (L0.mono hL))
  clear h1
  obtain ⟨x, o1, hx⟩ : ∃ x o, indexAt F n a kn = (x, o) := ⟨_, _, rfl⟩
  obtain ⟨y, o2, hy⟩ : ∃ x o, indexAt F n b kn = (x, o) := ⟨_, _, rfl⟩
  have HX := Lib.hid hx
  have HY := Lib.hid hy
  obtain ⟨u, v, o, hu⟩ : ∃ u v o, newF y x = (u, v, o) := ⟨_, _, _, rfl⟩
  have HU := Lib.hid hu
  have HR : Hid (ratio F n a b kn = if (o1 && o2) = true then newF y x else (0, 0, false)) := by show _ = _; unfold ratio; rw [hx, hy]
  clear hx hy hu
  cases h1 : o1 <;> cases h2 : o2
  all_goals
    rw [h1] at HX
    rw [h2] at HY
    rw [h1, h2] at HR
    clear h1 h2
    go_enter Try.func34, Try.ntmps34
    go_wp2_with fail
    generalize (w.alloc (.cells #[.slice A n cap] 30)).alloc (.cells #[.int .i64 0, .int .i64 0] 54) = W1 at L0 B0 R0 S0 H1 ⊢
    refine (specIndexAt_c L _ _ _ F a kn _ H1.out (by omega) hn).mono ?_
    rintro e w1 ⟨rfl, b1⟩
    rw [HX.out]
    have s1 := cell_later b1 B0
    have r1 := Box2.later b1 R0
    have l1 := andThen L0 b1
    have HT := Lib.hid (H1.out.keep (b1.mono (by omega)))
    have z1 := b1.size
    clear b1
    go_wp2_with fail
    refine (specIndexAt_c L _ _ _ F b kn _ HT.out (by omega) hn).mono ?_
    rintro e w2 ⟨rfl, b2⟩
    rw [HY.out]
    have s2 := cell_later b2 s1
    obtain ⟨r20, r21, r22, r23⟩ := Box2.later b2 r1
    have l2 := andThen l1 b2
    have z2 := b2.size
    clear b2 r1 l1 s1
    first
    | (go_wp2_with fail
       refine (specFracNew_c _ _ _).mono ?_
       rintro e w3 ⟨rfl, b3⟩
       rw [HU.out]
       obtain ⟨r30, r31, r32, r33⟩ := Box2.later b3 ⟨r20, r21, r22, r23⟩
       have l3 := andThen l2 b3
       clear b3 r20 r21 r22 r23
       go_wp2_with fail
       refine bodyPost_ret (v := .tuple #[.agg #[.int .i64 u, .int .i64 v], .bool o]) (by simp [results, Try.results34, go_sem, r30, r31]) rfl ?_
       exact ⟨by rw [HR.out]; simp only [Bool.and_self, if_true]; rw [HU.out], below_put (below_put l3 (by omega) _ _) (by omega) _ _⟩)
    | (go_wp2_with fail
       refine bodyPost_ret (v := .tuple #[.agg #[.int .i64 0, .int .i64 0], .bool false]) (by simp [results, Try.results34, go_sem, r20, r21]) rfl ?_
       exact ⟨by rw [HR.out]; rfl, below_put (below_put l2 (by omega) _ _) (by omega) _ _⟩)

set_option maxHeartbeats 400000 in
theorem eqFr_c (a b : Int) (w : World) :
    Calls Try.prog 36 #[.agg #[.int .i64 a, .int .i64 b], .agg #[.int .i64 a, .int .i64 b]] w fun e w' => e = .returned (.bool true) ∧ Below w.heap.size w w' := by
  go_enter Try.func36, Try.ntmps36
  go_wp2
  go_ret
  exact ⟨rfl, by go_grown⟩

set_option maxHeartbeats 4000000 in
theorem walk_FnExactIndexRatio (W : World) (a0 : Option Addr) (len0 cap0 : Nat) (F : Nat → Nat → Int) (h1' : Tab 3 W W.heap.size a0 len0 F ∧ len0 ≤ 9223372036854775807) (a : Int) {q0 : Prop} (_ : q0) (b : Int) {q : Prop} (_ : q) (kn : Int) {q' : Prop} (_ : q') :
    Calls Try.prog 8 #[.agg #[.slice a0 len0 cap0], .int .i64 a, .int .i64 b, .int .i64 kn] W fun e w' => e = .returned (.bool true) ∧ Below W.heap.size W w' := by
  obtain ⟨h1, hlen⟩ := h1'
  have L0 : Below W.heap.size W (W.alloc (.cells #[.slice a0 len0 cap0] 24)) := andAlloc (Below.refl _ _) _
  have B0 : (W.alloc (.cells #[.slice a0 len0 cap0] 24)).cell? ⟨W.heap.size, 0, none⟩ = some (.slice a0 len0 cap0) := by go_simp
  have S0 : (W.alloc (.cells #[.slice a0 len0 cap0] 24)).heap.size = W.heap.size + 1 := by simp
  have H1 := Lib.hid (h1.keep L0)
  clear h1
  obtain ⟨u, v, o, hu⟩ : ∃ u v o, ratio F len0 a b kn = (u, v, o) := ⟨_, _, _, rfl⟩
  have HU := Lib.hid hu
  clear hu
  by_cases hn : len0 ≤ 1048576
  · have hs := szBox_yes hn
    have k0 : decide ((1048576 : Int) - len0 < 0) = false := decide_eq_false (by omega)
    go_enter Try.func8, Try.ntmps8
    go_wp2_with fail
    generalize W.alloc (.cells #[.slice a0 len0 cap0] 24) = W1 at L0 B0 S0 H1 ⊢
    refine (szSeries_c _ _ _ _ hlen).mono ?_
    rintro e w1 ⟨rfl, b1⟩
    rw [hs]
    have sl1 := cell_later b1 B0
    go_wp2_with fail
    refine (toSeries_c W.heap.size _ _ _ F _ (H1.out.keep (b1.mono (by omega))) (by have := b1.size; omega) hn).mono ?_
    rintro e w2 ⟨g2, rfl, hg2, o2, b2⟩
    have l2 := andThen b1 b2
    go_wp2_with fail
    refine (specIndexRatio_c _ _ _ _ F a b kn _ o2.rows (Nat.le_refl _) (by omega)).mono ?_
    rintro e w3 ⟨rfl, b3⟩
    rw [HU.out]
    have l3 := andThen l2 b3
    have R3 : Box2 (w3.alloc (.cells #[.int .i64 u, .int .i64 v] 54)) w3.heap.size (.int .i64 u) (.int .i64 v) := ⟨by go_simp, by go_simp, by go_simp, by go_simp⟩
    have S3 : (w3.alloc (.cells #[.int .i64 u, .int .i64 v] 54)).heap.size = w3.heap.size + 1 := by simp
    have l3 := andAlloc l3 (.cells #[.int .i64 u, .int .i64 v] 54)
    have sl3 := cell_later l3 B0
    have zl3 := l3.size
    clear b1 sl1 b2 l2 o2 b3
    go_wp2_with fail
    generalize w3.alloc (.cells #[.int .i64 u, .int .i64 v] 54) = W3 at R3 S3 l3 sl3 zl3 ⊢
    refine (toSeries_c W.heap.size _ _ _ F _ (H1.out.keep (l3.mono (by omega))) (by omega) hn).mono ?_
    rintro e w4 ⟨g4, rfl, hg4, o4, b4⟩
    have l4 := andThen l3 b4
    have R4 := Box2.later b4 R3
    have X4 : (w4.alloc (.cells #[.slice (some ⟨g4, 0, none⟩) len0 len0] 30)).cell? ⟨w4.heap.size, 0, none⟩ = some (.slice (some ⟨g4, 0, none⟩) len0 len0) := by go_simp
    have n4 : Below w4.heap.size w4 (w4.alloc (.cells #[.slice (some ⟨g4, 0, none⟩) len0 len0] 30)) := andAlloc (Below.refl _ _) _
    have S4 : (w4.alloc (.cells #[.slice (some ⟨g4, 0, none⟩) len0 len0] 30)).heap.size = w4.heap.size + 1 := by simp
    have l5 := andThen l4 n4
    have t5 := (o4.rows).keep n4
    have R5 := Box2.later n4 R4
    clear n4 b4 R3 R4 l3 l4 sl3 o4
    go_wp2_with fail
    generalize w4.alloc (.cells #[.slice (some ⟨g4, 0, none⟩) len0 len0] 30) = W4 at X4 S4 l5 t5 R5 ⊢
    refine (implIndexRatio_c w4.heap.size _ _ _ F a b kn _ t5 (by omega) (by omega)).mono ?_
    rintro e w6 ⟨rfl, b6⟩
    rw [HU.out]
    have t6 := t5.keep (b6.mono (by omega))
    have l6 := andThen l5 b6
    have q6 := cell_later b6 X4
    have R6 := Box2.later b6 R5
    have z6 := b6.size
    have X6 : Box2 (w6.alloc (.cells #[.int .i64 u, .int .i64 v] 54)) w6.heap.size (.int .i64 u) (.int .i64 v) := ⟨by go_simp, by go_simp, by go_simp, by go_simp⟩
    have n6 : Below w6.heap.size w6 (w6.alloc (.cells #[.int .i64 u, .int .i64 v] 54)) := andAlloc (Below.refl _ _) _
    have S6 : (w6.alloc (.cells #[.int .i64 u, .int .i64 v] 54)).heap.size = w6.heap.size + 1 := by simp
    have l6 := andThen l6 n6
    have t6 := t6.keep (n6.mono (by omega))
    have q6 := cell_later n6 q6
    obtain ⟨r60, r61, r62, r63⟩ := Box2.later n6 R6
    obtain ⟨x60, x61, x62, x63⟩ := X6
    clear n6 b6 X4 R5 R6 l5 t5
    go_wp2_with fail
    generalize w6.alloc (.cells #[.int .i64 u, .int .i64 v] 54) = W6 at S6 l6 t6 q6 r60 r61 r62 r63 x60 x61 x62 x63 ⊢
    refine (eqFr_c _ _ _).mono ?_
    rintro e w7 ⟨rfl, b7⟩
    have q1 := cell_later b7 q6
    have l7 := andThen l6 b7
    have q2 := cell_later l7 B0
    have t7 := t6.keep (b7.mono (by omega))
    have l7' : Below W.heap.size W1 w7 := l7.mono (by omega)
    have z7 := b7.size
    have LL := Lib.hid (andThen L0 l7)
    have z1 : W1.heap.size ≤ w7.heap.size := l7.size
    clear b7 q6 l6 t6 r60 r61 r62 r63 x60 x61 x62 x63 l7 B0
    go_wp2_with fail
    go_region_held3 (fun w' => w'.cell? ⟨w4.heap.size, 0, none⟩ = some (.slice (some ⟨g4, 0, none⟩) len0 len0) ∧ w'.cell? ⟨W.heap.size, 0, none⟩ = some (.slice a0 len0 cap0))
      (first | exact ⟨cell_later (by assumption) (by assumption : _ ∧ _).1, cell_later (by assumption) (by assumption : _ ∧ _).2⟩ | go_keep)
      ((first
        | (go_at_call 16; refine (toSeries_c W.heap.size _ _ _ F _ (by exact H1.out.keep (Below.drew l7')) (by show W.heap.size ≤ w7.heap.size; omega) hn).mono ?_; rintro e w8 ⟨g8, rfl, hg8, o8, b8⟩; have t8 := o8.rows; have b8' : Below w7.heap.size w7 w8 := andThen (Below.drew (Below.refl w7.heap.size w7)) b8; have t7' := t7.keep (b8'.mono (by omega)); have z8 := b8'.size; clear b8)
        | (go_at_call 18; refine (eqSeries_c _ _ _ _ _ _ _ F _ (by exact t7') (by exact t8) (by omega) (by exact Nat.le_refl _) hn).mono ?_; rintro e w9 ⟨rfl, b9⟩)))
    go_wp2_with fail
    go_ret
    exact ⟨rfl, andThen LL.out (andThen b8' b9)⟩
  · have hs := szBox_no hn
    go_enter Try.func8, Try.ntmps8
    go_wp2_with fail
    refine (szSeries_c _ _ _ _ hlen).mono ?_
    rintro e w' ⟨rfl, b1⟩
    rw [hs]
    go_wp2_with fail
    go_ret
    exact ⟨rfl, andThen L0 b1⟩

end Go.Proofs.Ytlpaicpjadkceaa
