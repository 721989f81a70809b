/-
  The walk of the law FnExactSeriesOk. Conditions: none.
-/
import Derived.Test.YtlpaicpjadkceaaSeriesOk
namespace Go.Proofs.Ytlpaicpjadkceaa
open Go.RowKit
set_option linter.unusedVariables false
set_option maxRecDepth 4000

set_option maxHeartbeats 2000000 in
theorem walk_FnExactSeriesOk (W : World) (a0 : Option Addr) (len0 cap0 : Nat) (F : Nat → Nat → Int) (h1' : Tab 3 W W.heap.size a0 len0 F ∧ len0 ≤ 9223372036854775807) :
    Calls Try.prog 4 #[.agg #[.slice a0 len0 cap0]] W fun e w' => e = .returned (.bool true) ∧ Below W.heap.size W w' := by
  obtain ⟨h1, hlen⟩ := h1'
  have L0 : Below W.heap.size W (W.alloc (.cells #[.slice a0 len0 cap0] 24)) := andAlloc (Below.refl _ _) _
  have B0 : (W.alloc (.cells #[.slice a0 len0 cap0] 24)).cell? ⟨W.heap.size, 0, none⟩ = some (.slice a0 len0 cap0) := by go_simp
  have S0 : (W.alloc (.cells #[.slice a0 len0 cap0] 24)).heap.size = W.heap.size + 1 := by simp
  have H1 := Lib.hid (h1.keep L0)
  clear h1
  by_cases hn : len0 ≤ 1048576
  · have hs := szBox_yes hn
    have k0 : decide ((1048576 : Int) - len0 < 0) = false := decide_eq_false (by omega)
    go_enter Try.func4, Try.ntmps4
    go_wp2_with fail
    generalize W.alloc (.cells #[.slice a0 len0 cap0] 24) = W1 at L0 B0 S0 H1 ⊢
    refine (szSeries_c _ _ _ _ hlen).mono ?_
    rintro e w1 ⟨rfl, b1⟩
    rw [hs]
    have sl1 := cell_later b1 B0
    go_wp2_with fail
    refine (toSeries_c W.heap.size _ _ _ F _ (H1.out.keep (b1.mono (by omega))) (by have := b1.size; omega) hn).mono ?_
    rintro e w2 ⟨g2, rfl, hg2, o2, b2⟩
    have l2 := andThen b1 b2
    go_wp2_with fail
    refine (specSeriesOk_c _ _ _ _ F _ o2.rows (Nat.le_refl _) (by omega)).mono ?_
    rintro e w3 ⟨rfl, b3⟩
    have l3 := andThen l2 b3
    have sl3 := cell_later l3 B0
    go_wp2_with fail
    refine (toSeries_c W.heap.size _ _ _ F _ (H1.out.keep (l3.mono (by omega))) (by have := l3.size; omega) hn).mono ?_
    rintro e w4 ⟨g4, rfl, hg4, o4, b4⟩
    have l4 := andThen l3 b4
    have X4 : (w4.alloc (.cells #[.slice (some ⟨g4, 0, none⟩) len0 len0] 30)).cell? ⟨w4.heap.size, 0, none⟩ = some (.slice (some ⟨g4, 0, none⟩) len0 len0) := by go_simp
    have n4 : Below w4.heap.size w4 (w4.alloc (.cells #[.slice (some ⟨g4, 0, none⟩) len0 len0] 30)) := andAlloc (Below.refl _ _) _
    have l5 := andThen l4 n4
    have t5 := (o4.rows).keep n4
    go_wp2_with fail
    refine (implSeriesOk_c w4.heap.size _ _ _ F _ t5 n4.size (by omega)).mono ?_
    rintro e w6 ⟨rfl, b6⟩
    have l6 := andThen l5 b6
    have t6 := t5.keep (b6.mono n4.size)
    have q1 := cell_later b6 X4
    have q2 := cell_later l6 B0
    have l6' : Below W.heap.size W1 w6 := l6.mono (by omega)
    have z6 : W1.heap.size ≤ w6.heap.size := l6.size
    have z4 : w4.heap.size + 1 ≤ w6.heap.size := by have := b6.size; simp at this; omega
    have LL := Lib.hid (andThen L0 l6)
    clear b1 sl1 b2 l2 o2 b3 l3 sl3 b4 l4 X4 n4 l5 t5 b6 l6 B0
    go_wp2_with fail
    go_region_held3 (fun w' => w'.cell? ⟨w4.heap.size, 0, none⟩ = some (.slice (some ⟨g4, 0, none⟩) len0 len0) ∧ w'.cell? ⟨W.heap.size, 0, none⟩ = some (.slice a0 len0 cap0))
      (first | exact ⟨cell_later (by assumption) (by assumption : _ ∧ _).1, cell_later (by assumption) (by assumption : _ ∧ _).2⟩ | go_keep)
      ((first
        | (go_at_call 16; refine (toSeries_c W.heap.size _ _ _ F _ (by exact H1.out.keep (Below.drew l6')) (by show W.heap.size ≤ w6.heap.size; omega) hn).mono ?_; rintro e w7 ⟨g7, rfl, hg7, o7, b7⟩; have t7 := o7.rows; have b7' : Below w6.heap.size w6 w7 := andThen (Below.drew (Below.refl w6.heap.size w6)) b7; have t7' := t6.keep (b7'.mono (by omega)); have z7 := b7'.size; clear b7)
        | (go_at_call 18; refine (eqSeries_c _ _ _ _ _ _ _ F _ (by exact t7') (by exact t7) (by omega) (by exact Nat.le_refl _) hn).mono ?_; rintro e w8 ⟨rfl, b8⟩)))
    go_wp2_with fail
    go_ret
    exact ⟨rfl, andThen LL.out (andThen b7' b8)⟩
  · have hs := szBox_no hn
    go_enter Try.func4, Try.ntmps4
    go_wp2_with fail
    refine (szSeries_c _ _ _ _ hlen).mono ?_
    rintro e w' ⟨rfl, b1⟩
    rw [hs]
    go_wp2_with fail
    go_ret
    exact ⟨rfl, andThen L0 b1⟩

end Go.Proofs.Ytlpaicpjadkceaa
