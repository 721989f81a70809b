/-
  The walk of the law FnExactTimelineOf. Conditions: none.
-/
import Derived.Test.YtmehfclhmbhjaaaTimelineOf
import Derived.Test.YtmehfclhmbhjaaaFactMark
import Derived.Test.YtmehfclhmbhjaaaOpenT
import Derived.Deep.RegionHeld3
namespace Go.Proofs.Ytmehfclhmbhjaaa
open Go.RowKit
set_option linter.unusedVariables false
set_option maxRecDepth 4000

set_option maxHeartbeats 4000000 in
theorem walk_FnExactTimelineOf (W : World) (a0 : Option Addr) (len0 cap0 : Nat) (F : Nat → Nat → Int) (h1' : Tab 5 W W.heap.size a0 len0 F ∧ len0 ≤ 9223372036854775807) (key : Int) {q0 : Prop} (_ : q0) (kn : Int) {q : Prop} (_ : q) (fr : Int) {q1 : Prop} (_ : q1) (tt : Int) {q2 : Prop} (_ : q2) :
    Calls Try.prog 11 #[.agg #[.slice a0 len0 cap0], .int .i64 key, .int .i64 kn, .int .i64 fr, .int .i64 tt] W fun e w' => e = .returned (.bool true) ∧ Below W.heap.size W w' := by
  obtain ⟨h1, hlen⟩ := h1'
  have L0 : Below W.heap.size W (W.alloc (.cells #[.slice a0 len0 cap0] 33)) := andAlloc (Below.refl _ _) _
  have B0 : (W.alloc (.cells #[.slice a0 len0 cap0] 33)).cell? ⟨W.heap.size, 0, none⟩ = some (.slice a0 len0 cap0) := by go_simp
  have S0 : (W.alloc (.cells #[.slice a0 len0 cap0] 33)).heap.size = W.heap.size + 1 := by simp
  have H1 := Lib.hid (h1.keep L0)
  clear h1
  by_cases hn : len0 ≤ 1048576
  · have hs := szBox_yes hn
    have k0 : decide ((1048576 : Int) - len0 < 0) = false := decide_eq_false (by omega)
    have hrl := timeline_len F len0 key kn fr tt
    obtain ⟨n, G, hz⟩ : ∃ n G, timeline F len0 key kn fr tt = (n, G) := ⟨_, _, rfl⟩
    rw [hz] at hrl
    have hrl : n ≤ 3600 := hrl
    have HZ := Lib.hid hz
    clear hz
    go_enter Try.func11, Try.ntmps11
    go_wp2_with fail
    generalize W.alloc (.cells #[.slice a0 len0 cap0] 33) = W1 at L0 B0 S0 H1 ⊢
    refine (szStore_c _ _ _ _ hlen).mono ?_
    rintro e w1 ⟨rfl, b1⟩
    rw [hs]
    have sl1 := cell_later b1 B0
    go_wp2_with fail
    refine (toStore_c W.heap.size _ _ _ F _ (H1.out.keep (b1.mono (by omega))) (by have := b1.size; omega) hn).mono ?_
    rintro e w2 ⟨g2, rfl, hg2, o2, b2⟩
    have l2 := andThen b1 b2
    have HS2 := Lib.hid (specTimelineOf_c _ _ _ len0 F key kn fr tt _ o2.rows (Nat.le_refl _) (by omega))
    rw [HZ.out] at HS2
    go_wp2_with fail
    refine HS2.out.mono ?_
    rintro e w3 ⟨v0, c0, rfl, o0, b3⟩
    obtain ⟨A3', c3', e3, r0⟩ := o0.tab
    obtain ⟨rfl, _, rfl⟩ : v0 = A3' ∧ n = n ∧ c0 = c3' := by injection e3 with x y z; exact ⟨x, rfl, z⟩
    have l3 := andThen l2 b3
    have sl3 := cell_later l3 B0
    clear b1 sl1 b2 l2 o2 b3 o0 e3 HS2
    go_wp2_with fail
    refine (toStore_c W.heap.size _ _ _ F _ (H1.out.keep (l3.mono (by omega))) (by have := l3.size; omega) hn).mono ?_
    rintro e w4 ⟨g4, rfl, hg4, o4, b4⟩
    have l4 := andThen l3 b4
    have r0 := r0.keep b4
    have X4 : (w4.alloc (.cells #[.slice (some ⟨g4, 0, none⟩) len0 len0] 38)).cell? ⟨w4.heap.size, 0, none⟩ = some (.slice (some ⟨g4, 0, none⟩) len0 len0) := by go_simp
    have n4 : Below w4.heap.size w4 (w4.alloc (.cells #[.slice (some ⟨g4, 0, none⟩) len0 len0] 38)) := andAlloc (Below.refl _ _) _
    have hg4w := o4.lt
    have l5 := andThen l4 n4
    have r0 := r0.keep (n4.mono b4.size)
    have o5 := OwnR.later o4 n4
    have t5 := (o4.rows).keep n4
    have z34 := b4.size
    have zW3 : W.heap.size < w3.heap.size := by have := l3.size; omega
    have HI2 := Lib.hid (implTimelineOf_c w4.heap.size _ len0 len0 F key kn fr tt _ t5 n4.size (by omega))
    rw [HZ.out] at HI2
    go_wp2_with fail
    refine HI2.out.mono ?_
    rintro e w6 ⟨vg, cg, rfl, og, b6⟩
    have l6 := andThen l5 b6
    have r0 := r0.keep (b6.mono (by simp; omega))
    have o6 := OwnR.later o5 b6
    have q1 := cell_later b6 X4
    have q2 := cell_later l6 B0
    have z6 : W1.heap.size ≤ w6.heap.size := l6.size
    have z4 : w4.heap.size + 1 ≤ w6.heap.size := by have := b6.size; simp at this; omega
    have og : OwnV 3 68 w6 (w4.heap.size + 1) (.slice vg n cg) n G := by simpa using og
    have LL6 := Lib.hid (andThen L0 l6)
    clear b4 l4 X4 n4 l5 t5 b6 o4 o5 sl3 l3 L0 HI2
    obtain ⟨A6', c6', e6, u6⟩ := og.tab
    obtain ⟨rfl, _, rfl⟩ : vg = A6' ∧ n = n ∧ cg = c6' := by injection e6 with x y z; exact ⟨x, rfl, z⟩
    clear e6
    go_wp2_with fail
    refine (eqSegmentS_c _ _ _ _ _ _ _ G _ u6 r0 (Nat.le_refl _) (by omega) (by omega)).mono ?_
    rintro e w7 ⟨rfl, c7⟩
    have r0 := r0.keep (c7.mono (by omega))
    have og := og.below c7
    have o7 := OwnR.later o6 c7
    have q1 := cell_later c7 q1
    have q2 := cell_later c7 q2
    have l7 : Below W.heap.size W1 w7 := (andThen l6 c7).mono (by omega)
    have z7 := c7.size
    have LL7 := Lib.hid (andThen LL6.out c7)
    have HR0 := Lib.hid r0
    have HOG := Lib.hid og
    have HO7 := Lib.hid o7
    clear l6 o6 r0 og c7 LL6 u6
    go_wp2_with fail
    go_region_held3 (fun w' => w'.cell? ⟨w4.heap.size, 0, none⟩ = some (.slice (some ⟨g4, 0, none⟩) len0 len0) ∧ w'.cell? ⟨W.heap.size, 0, none⟩ = some (.slice a0 len0 cap0))
      (first | exact ⟨cell_later (by assumption) (by assumption : _ ∧ _).1, cell_later (by assumption) (by assumption : _ ∧ _).2⟩ | go_keep)
      ((first
        | (go_at_call 24; refine (toStore_c W.heap.size _ _ _ F _ (by exact H1.out.keep (Below.drew l7)) (by show W.heap.size ≤ w7.heap.size; omega) hn).mono ?_; rintro e w8 ⟨g8, rfl, hg8, o8, b8⟩; have t8 := o8.rows; have b8' : Below w7.heap.size w7 w8 := andThen (Below.drew (Below.refl w7.heap.size w7)) b8; have t7' := (HO7.out.rows).keep b8'; have z8 := b8'.size; clear b8)
        | (go_at_call 26; refine (eqStore_c _ _ _ _ _ _ _ F _ (by exact t7') (by exact t8) (by omega) (by exact Nat.le_refl _) hn).mono ?_; rintro e w9 ⟨rfl, b9⟩)))
    have c9 := andThen b8' b9
    have q2 := cell_later c9 q2
    have r0 := HR0.out.keep (c9.mono (by omega))
    have og := HOG.out.below c9
    have o9 := OwnR.later HO7.out c9
    have l9 := Below.trans l7 (c9.mono (by omega))
    have LL9 := Lib.hid (andThen LL7.out c9)
    have z9 := c9.size
    clear c9 b8' b9 q1 l7 LL7 HR0 HOG HO7 t7' t8 o8
    go_wp2_with fail
    refine (markStore_c 1 g4 _ _ F _ (o9.ownV (Nat.le_refl _) (by unfold maxLen; omega)) (by omega) (by omega) (by omega)).mono ?_
    rintro e w10 ⟨rfl, om, gm⟩
    have q2 := gm.cell q2 (fun j hj => by cases hj; show W.heap.size ≠ g4; omega)
    have r0 := r0.keep (gm.below (Below.refl w3.heap.size _) (by omega) (by omega))
    have og := og.grew gm (fun j hj => by cases hj; show g4 < w4.heap.size + 1; omega)
    have l10 := gm.below l9 (by omega) (by omega)
    have LL10 := Lib.hid (gm.below LL9.out (by omega) (by omega))
    have z10 := gm.size
    have d10 : decide ((1 : Int) + 5 * (len0 : Int) < 0) = false := decide_eq_false (by omega)
    clear gm o9 om l9 LL9
    obtain ⟨A6', c6', e6, u10⟩ := og.tab
    obtain ⟨rfl, _, rfl⟩ : vg = A6' ∧ n = n ∧ cg = c6' := by injection e6 with x y z; exact ⟨x, rfl, z⟩
    clear e6
    go_wp2_with fail
    refine (eqSegmentS_c _ _ _ _ _ _ _ G _ u10 r0 (Nat.le_refl _) (by omega) (by omega)).mono ?_
    rintro e w11 ⟨rfl, c11⟩
    have r0 := r0.keep (c11.mono (by omega))
    have og := og.below c11
    have q2 := cell_later c11 q2
    have l11 := Below.trans l10 (c11.mono (by omega))
    have LL11 := Lib.hid (andThen LL10.out c11)
    have z11 := c11.size
    clear c11 l10 LL10 u10
    go_wp2_with fail
    refine (markSegS_c 1 (w4.heap.size + 1) _ _ G _ og (by omega) (by omega) (by omega)).mono ?_
    rintro e w12 ⟨rfl, om, gm⟩
    have z12 := gm.size
    have r0 := r0.keep (gm.below (Below.refl w3.heap.size _) (by omega) (by omega))
    obtain ⟨A6', c6', e6, rm⟩ := om.tab
    obtain ⟨rfl, _, rfl⟩ : vg = A6' ∧ n = n ∧ cg = c6' := by injection e6 with x y z; exact ⟨x, rfl, z⟩
    have q2 := gm.low (by show W.heap.size < _; omega) q2
    have l12 := gm.below l11 (by omega) (by omega)
    have LL12 := Lib.hid (gm.below LL11.out (by omega) (by omega))
    clear gm og om l11 LL11 e6
    go_wp2_with fail
    refine (heldSegS_c 1 _ _ _ _ _ rm (by omega) (by omega) (by omega)).mono ?_
    rintro e w13 ⟨rfl, rfl⟩
    have d13 : decide ((1 : Int) + 3 * (n : Int) < 0) = false := decide_eq_false (by omega)
    go_wp2_with fail
    refine (toStore_c W.heap.size _ _ _ F _ (H1.out.keep l12) (by omega) hn).mono ?_
    rintro e w13 ⟨g13, rfl, hg13, o13, b13⟩
    have rm := rm.keep b13
    have r0 := r0.keep (b13.mono (by omega))
    have LL13 := Lib.hid (andThen LL12.out b13)
    have z13 := b13.size
    have HI3 := Lib.hid (implTimelineOf_c _ _ len0 len0 F key kn fr tt _ o13.rows (Nat.le_refl _) (by omega))
    rw [HZ.out] at HI3
    clear b13 l12 LL12
    go_wp2_with fail
    refine HI3.out.mono ?_
    rintro e w14 ⟨vh, ch, rfl, oh, b14⟩
    have rm := rm.keep (b14.mono (by omega))
    have r0 := r0.keep (b14.mono (by omega))
    have LL14 := Lib.hid (andThen LL13.out b14)
    have z14 := b14.size
    obtain ⟨A6', c6', e6, u14⟩ := oh.tab
    obtain ⟨rfl, _, rfl⟩ : vh = A6' ∧ n = n ∧ ch = c6' := by injection e6 with x y z; exact ⟨x, rfl, z⟩
    clear b14 o13 LL13 e6 HI3 oh
    go_wp2_with fail
    refine (eqSegmentS_c _ _ _ _ _ _ _ G _ u14 r0 (Nat.le_refl _) (by omega) (by omega)).mono ?_
    rintro e w15 ⟨rfl, c15⟩
    have rm := rm.keep (c15.mono (by omega))
    have LL15 := Lib.hid (andThen LL14.out c15)
    clear c15
    go_wp2_with fail
    refine (heldSegS_c 1 _ _ _ _ _ rm (by omega) (by omega) (by omega)).mono ?_
    rintro e w16 ⟨rfl, rfl⟩
    go_wp2_with fail
    go_ret
    exact ⟨rfl, LL15.out⟩
  · have hs := szBox_no hn
    go_enter Try.func11, Try.ntmps11
    go_wp2_with fail
    refine (szStore_c _ _ _ _ hlen).mono ?_
    rintro e w' ⟨rfl, b1⟩
    rw [hs]
    go_wp2_with fail
    go_ret
    exact ⟨rfl, andThen L0 b1⟩

end Go.Proofs.Ytmehfclhmbhjaaa
