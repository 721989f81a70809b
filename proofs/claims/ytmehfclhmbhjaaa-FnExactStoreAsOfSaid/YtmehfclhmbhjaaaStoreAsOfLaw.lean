/-
  The walk of the law FnExactStoreAsOf. Conditions: none.
-/
import Derived.Test.YtmehfclhmbhjaaaStoreAsOf2
import Derived.Test.YtmehfclhmbhjaaaOpenT
import Derived.Deep.RegionHeld3
namespace Go.Proofs.Ytmehfclhmbhjaaa
open Go.RowKit
set_option linter.unusedVariables false
set_option maxRecDepth 4000

set_option maxHeartbeats 4000000 in
theorem walk_FnExactStoreAsOf (W : World) (a0 : Option Addr) (len0 cap0 : Nat) (F : Nat → Nat → Int) (h1' : Tab 5 W W.heap.size a0 len0 F ∧ len0 ≤ 9223372036854775807) (kn : Int) {q : Prop} (_ : q) :
    Calls Try.prog 8 #[.agg #[.slice a0 len0 cap0], .int .i64 kn] W fun e w' => e = .returned (.bool true) ∧ Below W.heap.size W w' := by
  obtain ⟨h1, hlen⟩ := h1'
  have L0 : Below W.heap.size W (W.alloc (.cells #[.slice a0 len0 cap0] 33)) := andAlloc (Below.refl _ _) _
  have B0 : (W.alloc (.cells #[.slice a0 len0 cap0] 33)).cell? ⟨W.heap.size, 0, none⟩ = some (.slice a0 len0 cap0) := by go_simp
  have S0 : (W.alloc (.cells #[.slice a0 len0 cap0] 33)).heap.size = W.heap.size + 1 := by simp
  have H1 := Lib.hid (h1.keep L0)
  clear h1
  by_cases hn : len0 ≤ 1048576
  · have hs := szBox_yes hn
    have k0 : decide ((1048576 : Int) - len0 < 0) = false := decide_eq_false (by omega)
    have hql := selL_len F kn len0
    go_enter Try.func8, Try.ntmps8
    go_wp2_with fail
    generalize W.alloc (.cells #[.slice a0 len0 cap0] 33) = W1 at L0 B0 S0 H1 ⊢
    refine (szStore_c _ _ _ _ hlen).mono ?_
    rintro e w1 ⟨rfl, b1⟩
    rw [hs]
    have sl1 := cell_later b1 B0
    go_wp2_with fail
    refine (toStore_c W.heap.size _ _ _ F _ (H1.out.keep (b1.mono (by omega))) (by have := b1.size; omega) hn).mono ?_
    rintro e w2 ⟨g2, rfl, hg2, o2, b2⟩
    have l2 := andThen b1 b2
    go_wp2_with fail
    refine (specStoreAsOf_c _ _ _ _ F kn _ o2.rows (Nat.le_refl _) (by omega)).mono ?_
    rintro e w3 ⟨A3, c3, rfl, o3, b3⟩
    obtain ⟨q, hq⟩ : ∃ q, (selL F kn len0).length = q := ⟨_, rfl⟩
    obtain ⟨G, hG⟩ : ∃ G, pickF F (selL F kn len0) = G := ⟨_, rfl⟩
    rw [hq, hG] at o3
    rw [hq]
    rw [hq] at hql
    have HQ := Lib.hid (And.intro hq hG)
    clear hq hG
    obtain ⟨A3', c3', e3, t3⟩ := o3.tab
    obtain ⟨rfl, _, rfl⟩ : A3 = A3' ∧ q = q ∧ c3 = c3' := by injection e3 with x y z; exact ⟨x, rfl, z⟩
    have l3 := andThen l2 b3
    have sl3 := cell_later l3 B0
    have zW3 : W.heap.size < w3.heap.size := by have := l3.size; omega
    clear b1 sl1 b2 l2 o2 b3 o3 e3
    have X3 : (w3.alloc (.cells #[.slice A3 q c3] 38)).cell? ⟨w3.heap.size, 0, none⟩ = some (.slice A3 q c3) := by go_simp
    have n3 : Below w3.heap.size w3 (w3.alloc (.cells #[.slice A3 q c3] 38)) := andAlloc (Below.refl _ _) _
    have S3 : (w3.alloc (.cells #[.slice A3 q c3] 38)).heap.size = w3.heap.size + 1 := by simp
    have t3 := t3.keep n3
    have l3 := andThen l3 n3
    have sl3 := cell_later n3 sl3
    clear n3
    go_wp2_with fail
    generalize w3.alloc (.cells #[.slice A3 q c3] 38) = W3 at X3 S3 t3 l3 sl3 ⊢
    refine (toStore_c W.heap.size _ _ _ F _ (H1.out.keep (l3.mono (by omega))) (by omega) hn).mono ?_
    rintro e w4 ⟨g4, rfl, hg4, o4, b4⟩
    have l4 := andThen l3 b4
    have t4 := t3.keep (b4.mono (by omega))
    have p4 := cell_later b4 X3
    have zg4 := o4.lt
    have z4 := b4.size
    have X4 : (w4.alloc (.cells #[.slice (some ⟨g4, 0, none⟩) len0 len0] 38)).cell? ⟨w4.heap.size, 0, none⟩ = some (.slice (some ⟨g4, 0, none⟩) len0 len0) := by go_simp
    have n4 : Below w4.heap.size w4 (w4.alloc (.cells #[.slice (some ⟨g4, 0, none⟩) len0 len0] 38)) := andAlloc (Below.refl _ _) _
    have S4 : (w4.alloc (.cells #[.slice (some ⟨g4, 0, none⟩) len0 len0] 38)).heap.size = w4.heap.size + 1 := by simp
    have l4 := andThen l4 n4
    have t4 := t4.keep (n4.mono (by omega))
    have p4 := cell_later n4 p4
    have o4' := OwnR.later o4 n4
    have r4 := (o4.rows).keep n4
    clear n4 b4 X3 l3 t3
    go_wp2_with fail
    generalize w4.alloc (.cells #[.slice (some ⟨g4, 0, none⟩) len0 len0] 38) = W4 at X4 S4 t4 l4 p4 o4' r4 ⊢
    refine (implStoreAsOf_c w4.heap.size _ _ _ F kn _ r4 (by omega) (by omega)).mono ?_
    rintro e w6 ⟨A6, c6, rfl, o6, b6⟩
    rw [HQ.out.1, HQ.out.2] at o6
    rw [HQ.out.1]
    have l6 := andThen l4 b6
    have t6 := t4.keep (b6.mono (by omega))
    have p6 := cell_later b6 p4
    have q6 := cell_later b6 X4
    have x6 := OwnR.later o4' b6
    have z6 := b6.size
    have own6 : ∀ j, (Value.slice A6 q c6).ownBlock = some j → W4.heap.size ≤ j ∧ j < w6.heap.size := fun j hj => o6.own_lt hj
    have X6 : (w6.alloc (.cells #[.slice A6 q c6] 38)).cell? ⟨w6.heap.size, 0, none⟩ = some (.slice A6 q c6) := by go_simp
    have n6 : Below w6.heap.size w6 (w6.alloc (.cells #[.slice A6 q c6] 38)) := andAlloc (Below.refl _ _) _
    have S6 : (w6.alloc (.cells #[.slice A6 q c6] 38)).heap.size = w6.heap.size + 1 := by simp
    have l6 := andThen l6 n6
    have t6 := t6.keep (n6.mono (by omega))
    have p6 := cell_later n6 p6
    have q6 := cell_later n6 q6
    have x6 := OwnR.later x6 n6
    have o6 := o6.below n6
    have s6 := cell_later l6 B0
    clear n6 b6 X4 l4 t4 o4' r4 p4 o4
    go_wp2_with fail
    generalize w6.alloc (.cells #[.slice A6 q c6] 38) = W6 at X6 S6 t6 l6 p6 q6 x6 o6 s6 ⊢
    obtain ⟨A6', c6', e6, u6⟩ := o6.tab
    obtain ⟨rfl, _, rfl⟩ : A6 = A6' ∧ q = q ∧ c6 = c6' := by injection e6 with x y z; exact ⟨x, rfl, z⟩
    have LL6 := Lib.hid (andThen L0 l6)
    have l6' : Below W.heap.size W1 W6 := l6.mono (by omega)
    clear e6 l6 B0 sl3
    refine (eqStore_c _ _ _ _ _ _ _ G _ u6 t6 (Nat.le_refl _) (by omega) (by omega)).mono ?_
    rintro e w7 ⟨rfl, b7⟩
    have t7 := t6.keep (b7.mono (by omega))
    have p7 := cell_later b7 p6
    have q7 := cell_later b7 q6
    have y7 := cell_later b7 X6
    have s7 := cell_later b7 s6
    have x7 := OwnR.later x6 b7
    have o7 := o6.below b7
    have l7 := Below.trans l6' (b7.mono (by omega))
    have z7 := b7.size
    have HH7 := Lib.hid (And.intro (andThen LL6.out b7) (And.intro t7 (And.intro p7 (And.intro y7 (And.intro x7 o7)))))
    have HQ7 := Lib.hid (And.intro q7 s7)
    clear b7 t6 p6 q6 X6 s6 x6 o6 u6 l6' LL6 t7 p7 y7 x7 o7
    go_wp2_with fail
    go_region_held3 (fun w' => w'.cell? ⟨w4.heap.size, 0, none⟩ = some (.slice (some ⟨g4, 0, none⟩) len0 len0) ∧ w'.cell? ⟨W.heap.size, 0, none⟩ = some (.slice a0 len0 cap0))
      (first | exact ⟨cell_later (by assumption) (by assumption : _ ∧ _).1, cell_later (by assumption) (by assumption : _ ∧ _).2⟩ | go_keep)
      ((first
        | (go_at_call 24; refine (toStore_c W.heap.size _ _ _ F _ (by exact H1.out.keep (Below.drew l7)) (by show W.heap.size ≤ w7.heap.size; omega) hn).mono ?_; rintro e w8 ⟨g8, rfl, hg8, o8, b8⟩; have t8 := o8.rows; have b8' : Below w7.heap.size w7 w8 := andThen (Below.drew (Below.refl w7.heap.size w7)) b8; have t7' := (HH7.out.2.2.2.2.1.rows).keep b8'; have z8 := b8'.size; clear b8)
        | (go_at_call 26; refine (eqStore_c _ _ _ _ _ _ _ F _ (by exact t7') (by exact t8) (by omega) (by exact Nat.le_refl _) hn).mono ?_; rintro e w9 ⟨rfl, b9⟩)))
    have c9 := andThen b8' b9
    obtain ⟨LL7, t7, p7, y7, x7, o7⟩ := HH7.out
    have t9 := t7.keep (c9.mono (by omega))
    have p9 := cell_later c9 p7
    have q9 := cell_later c9 HQ7.out.1
    have s9 := cell_later c9 HQ7.out.2
    have y9 := cell_later c9 y7
    have x9 := OwnR.later x7 c9
    have o9 := o7.below c9
    have l9 := Below.trans l7 (c9.mono (by omega))
    have LL9 := Lib.hid (andThen LL7 c9)
    have z9 := c9.size
    clear c9 b8' b9 t7' t8 o8 LL7 t7 p7 y7 x7 o7 HH7 HQ7 l7 q7 s7
    go_wp2_with fail
    refine (markStore_c 1 g4 _ _ F _ (x9.ownV (Nat.le_refl _) (by unfold maxLen; omega)) (by omega) (by omega) (by omega)).mono ?_
    rintro e w10 ⟨rfl, om, gm⟩
    have t10 := t9.keep (gm.below (Below.refl (w3.heap.size) w9) (by omega) (by omega))
    have p10 := gm.cell p9 (fun j hj => by cases hj; show w3.heap.size ≠ g4; omega)
    have s10 := gm.cell s9 (fun j hj => by cases hj; show W.heap.size ≠ g4; omega)
    have y10 := gm.cell y9 (fun j hj => by cases hj; show w6.heap.size ≠ g4; omega)
    have o10 := o9.grew gm (fun j hj => by cases hj; show g4 < W4.heap.size; omega)
    have l10 := gm.below l9 (by omega) (by omega)
    have LL10 := Lib.hid (gm.below LL9.out (by omega) (by omega))
    have z10 := gm.size
    have d10 : decide ((1 : Int) + 5 * (len0 : Int) < 0) = false := decide_eq_false (by omega)
    clear gm x9 om l9 LL9 t9 p9 q9 s9 y9 o9
    obtain ⟨A6', c6', e6, u10⟩ := o10.tab
    obtain ⟨rfl, _, rfl⟩ : A6 = A6' ∧ q = q ∧ c6 = c6' := by injection e6 with x y z; exact ⟨x, rfl, z⟩
    clear e6
    go_wp2_with fail
    refine (eqStore_c _ _ _ _ _ _ _ G _ u10 t10 (Nat.le_refl _) (by omega) (by omega)).mono ?_
    rintro e w11 ⟨rfl, b11⟩
    have t11 := t10.keep (b11.mono (by omega))
    have p11 := cell_later b11 p10
    have s11 := cell_later b11 s10
    have y11 := cell_later b11 y10
    have o11 := o10.below b11
    have l11 := Below.trans l10 (b11.mono (by omega))
    have LL11 := Lib.hid (andThen LL10.out b11)
    have z11 := b11.size
    clear b11 t10 p10 s10 y10 o10 u10 l10 LL10
    go_wp2_with fail
    refine (markStore_c 1 W4.heap.size _ _ G _ o11 (by omega) (by omega) (by omega)).mono ?_
    rintro e w12 ⟨rfl, om, gm⟩
    have t12 := t11.keep (gm.below (Below.refl (w3.heap.size) w11) (by omega) (by omega))
    have p12 := gm.low (by show w3.heap.size < _; omega) p11
    have s12 := gm.low (by show W.heap.size < _; omega) s11
    have y12 := gm.cell y11 (fun j hj => by have := (own6 j hj).2; show w6.heap.size ≠ j; omega)
    have l12 := gm.below l11 (by omega) (by omega)
    have LL12 := Lib.hid (gm.below LL11.out (by omega) (by omega))
    have z12 := gm.size
    obtain ⟨A6', c6', e6, u12⟩ := om.tab
    obtain ⟨rfl, _, rfl⟩ : A6 = A6' ∧ q = q ∧ c6 = c6' := by injection e6 with x y z; exact ⟨x, rfl, z⟩
    clear gm om e6 l11 LL11 t11 p11 s11 y11 o11 own6
    go_wp2_with fail
    refine (heldStore_c 1 _ _ _ _ _ u12 (Nat.le_refl _) (by omega) (by omega) (by omega)).mono ?_
    rintro e w13 ⟨rfl, b13⟩
    have d13 : decide ((1 : Int) + 5 * (q : Int) < 0) = false := decide_eq_false (by omega)
    have t13 := t12.keep (b13.mono (by omega))
    have p13 := cell_later b13 p12
    have s13 := cell_later b13 s12
    have y13 := cell_later b13 y12
    have u13 := u12.keep b13
    have l13 := Below.trans l12 (b13.mono (by omega))
    have LL13 := Lib.hid (andThen LL12.out b13)
    have z13 := b13.size
    clear b13 t12 p12 s12 y12 u12 l12 LL12
    go_wp2_with fail
    refine (toStore_c W.heap.size _ _ _ F _ (H1.out.keep l13) (by omega) hn).mono ?_
    rintro e w14 ⟨g14, rfl, hg14, o14, b14⟩
    have t14 := t13.keep (b14.mono (by omega))
    have p14 := cell_later b14 p13
    have y14 := cell_later b14 y13
    have u14 := u13.keep (b14.mono (by omega))
    have LL14 := Lib.hid (andThen LL13.out b14)
    have z14 := b14.size
    clear b14 t13 p13 y13 u13 l13 LL13
    go_wp2_with fail
    refine (implStoreAsOf_c _ _ _ _ F kn _ o14.rows (Nat.le_refl _) (by omega)).mono ?_
    rintro e w15 ⟨A15, c15, rfl, o15, b15⟩
    rw [HQ.out.1, HQ.out.2] at o15
    rw [HQ.out.1]
    have b15 := andAlloc b15 (.cells #[.slice A15 q c15] 38)
    have o15 := o15.alloc (.cells #[.slice A15 q c15] 38)
    have S15 : (w15.alloc (.cells #[.slice A15 q c15] 38)).heap.size = w15.heap.size + 1 := by simp
    have X15 : (w15.alloc (.cells #[.slice A15 q c15] 38)).cell? ⟨w15.heap.size, 0, none⟩ = some (.slice A15 q c15) := by go_simp
    have t15 := t14.keep (b15.mono (by omega))
    have p15 := cell_later b15 p14
    have y15 := cell_later b15 y14
    have u15 := u14.keep (b15.mono (by omega))
    have LL15 := Lib.hid (andThen LL14.out b15)
    have z15 := b15.size
    obtain ⟨A16, c16, e16, v15⟩ := o15.tab
    obtain ⟨rfl, _, rfl⟩ : A15 = A16 ∧ q = q ∧ c15 = c16 := by injection e16 with x y z; exact ⟨x, rfl, z⟩
    clear b15 t14 p14 y14 u14 LL14 o14 o15 e16
    go_wp2_with fail
    generalize w15.alloc (.cells #[.slice A15 q c15] 38) = W15 at S15 X15 t15 p15 y15 u15 LL15 z15 v15 ⊢
    refine (eqStore_c _ _ _ _ _ _ _ G _ v15 t15 (Nat.le_refl _) (by omega) (by omega)).mono ?_
    rintro e w17 ⟨rfl, b17⟩
    have y17 := cell_later b17 y15
    have u17 := u15.keep (b17.mono (by omega))
    have LL17 := Lib.hid (andThen LL15.out b17)
    have z17 := b17.size
    clear b17 t15 p15 y15 u15 LL15 v15 X15
    go_wp2_with fail
    refine (heldStore_c 1 _ _ _ _ _ u17 (by omega) (by omega) (by omega) (by omega)).mono ?_
    rintro e w18 ⟨rfl, b18⟩
    have LL18 := Lib.hid (andThen LL17.out b18)
    clear b18
    go_wp2_with fail
    go_ret
    exact ⟨rfl, LL18.out⟩
  · have hs := szBox_no hn
    go_enter Try.func8, Try.ntmps8
    go_wp2_with fail
    refine (szStore_c _ _ _ _ hlen).mono ?_
    rintro e w' ⟨rfl, b1⟩
    rw [hs]
    go_wp2_with fail
    go_ret
    exact ⟨rfl, andThen L0 b1⟩

end Go.Proofs.Ytmehfclhmbhjaaa
