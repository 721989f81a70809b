/-
  The walk of the law FnExactPublish. Conditions: none.
-/
import Derived.Test.YtlpaicpjadkceaaPubSpec
import Derived.Test.YtlpaicpjadkceaaSeriesIn
import Derived.Test.YtlpaicpjadkceaaSeriesOkLaw
import Derived.Test.YtlpaicpjadkceaaPointMark
import Derived.Test.YtlpaicpjadkceaaOpenT
import Derived.Deep.RegionHeld3
import Derived.Deep.DeepCutAuto
namespace Go.Proofs.Ytlpaicpjadkceaa
open Go.RowKit
set_option linter.unusedVariables false
set_option maxRecDepth 4000

theorem addLen_max {n : Nat} (F : Nat → Nat → Int) (P : Nat → Int) (hn : n ≤ 1048576) : addLen n F P ≤ 1048576 := by
  unfold addLen
  split
  · rename_i h
    unfold addOk at h
    rw [Bool.and_eq_true] at h
    have := seriesB_len h.2
    omega
  · exact hn

set_option maxHeartbeats 8000000 in
theorem walkI_FnExactPublish (W : World) (a0 : Option Addr) (len0 cap0 : Nat) (F : Nat → Nat → Int) (h1' : Tab 3 W W.heap.size a0 len0 F ∧ len0 ≤ 9223372036854775807) (x0 x1 x2 : Int) (hI : I64 x0 ∧ I64 x1 ∧ I64 x2) :
    Calls Try.prog 6 #[.agg #[.slice a0 len0 cap0], .agg #[.int .i64 x0, .int .i64 x1, .int .i64 x2]] W fun e w' => e = .returned (.bool true) ∧ Below W.heap.size W w' := by
  obtain ⟨h1, hlen⟩ := h1'
  obtain ⟨W1, hW1⟩ : ∃ W1, (W.alloc (.cells #[.slice a0 len0 cap0] 24)).alloc (.cells #[.int .i64 x0, .int .i64 x1, .int .i64 x2] 43) = W1 := ⟨_, rfl⟩
  have L0 : Below W.heap.size W W1 := by rw [← hW1]; exact andAlloc (andAlloc (Below.refl _ _) _) _
  have S0 : W1.heap.size = W.heap.size + 1 + 1 := by rw [← hW1]; simp
  have BS : Blk W1 W.heap.size 24 #[.slice a0 len0 cap0] := by rw [← hW1]; exact (Blk.new _ _ _).alloc _
  have BF : Blk W1 (W.heap.size + 1) 43 #[.int .i64 x0, .int .i64 x1, .int .i64 x2] := by
    rw [← hW1]
    have := Blk.new (W.alloc (.cells #[.slice a0 len0 cap0] 24)) 43 #[.int .i64 x0, .int .i64 x1, .int .i64 x2]
    rwa [World.size_alloc] at this
  have B0 : W1.cell? ⟨W.heap.size, 0, none⟩ = some (.slice a0 len0 cap0) := BS.cell 0
  have H1 := Lib.hid (h1.keep L0)
  have HI := Lib.hid hI
  clear h1 hI
  by_cases hn : len0 ≤ 1048576
  · have hs := szBox_yes hn
    have k0 : decide ((1048576 : Int) - len0 < 0) = false := decide_eq_false (by omega)
    go_enter Try.func6, Try.ntmps6
    go_wp2_with fail
    clear hW1
    refine (szSeries_c _ _ _ _ hlen).mono ?_
    rintro e w1 ⟨rfl, b1⟩
    rw [hs]
    have BS1 := BS.later' b1
    have BF1 := BF.later' b1
    have T1 := Lib.hid (H1.out.keep (b1.mono (by omega)))
    have L1 := andThen L0 b1
    have HLE : Hid (W.heap.size ≤ w1.heap.size) := L1.size
    have HS0 : Hid (Below w1.heap.size w1 w1 ∧ w1.cell? ⟨W.heap.size, 0, none⟩ = some (.slice a0 len0 cap0) ∧ w1.cell? ⟨W.heap.size + 1, 0, none⟩ = some (.int .i64 x0) ∧ w1.cell? ⟨W.heap.size + 1, 1, none⟩ = some (.int .i64 x1) ∧ w1.cell? ⟨W.heap.size + 1, 2, none⟩ = some (.int .i64 x2)) := ⟨Below.refl _ _, BS1.cell 0, BF1.cell 0, BF1.cell 1, BF1.cell 2⟩
    have HBB := Lib.hid (And.intro BS1 (And.intro BF1 S0))
    have HL1 := Lib.hid L1
    clear BS BF BS1 BF1 B0 S0 L1 L0 b1 H1
    go_upto_region 5 with fail
    go_cut [6, 7] (fun s6 s7 wx => ∃ (g : Nat) (A4 : Option Addr) (c4 : Nat), s6 = .pointer (some ⟨g, 0, none⟩) ∧ s7 = .bool (addOk len0 F (oneF x0 x1 x2)) ∧ Blk wx g 30 #[.slice A4 (addLen len0 F (oneF x0 x1 x2)) c4] ∧ OwnV 3 46 wx w1.heap.size (.slice A4 (addLen len0 F (oneF x0 x1 x2)) c4) (addLen len0 F (oneF x0 x1 x2)) (addRow F len0 (oneF x0 x1 x2)) ∧ Below w1.heap.size w1 wx)
    case first =>
      go_region_held3 (fun w' => Below w1.heap.size w1 w' ∧ w'.cell? ⟨W.heap.size, 0, none⟩ = some (.slice a0 len0 cap0) ∧ w'.cell? ⟨W.heap.size + 1, 0, none⟩ = some (.int .i64 x0) ∧ w'.cell? ⟨W.heap.size + 1, 1, none⟩ = some (.int .i64 x1) ∧ w'.cell? ⟨W.heap.size + 1, 2, none⟩ = some (.int .i64 x2))
        (first | exact ks HS0.out (Below.refl _ _).drew | exact ks_drew (by assumption) | exact ks_call HS0.out (by assumption) (by assumption) | exact ks_alloc HS0.out (by assumption) | exact ks_set HS0.out (by dsimp only; omega) (by assumption) | go_keep)
  (first
          | (go_at_call 16; have hq := (by assumption : Below w1.heap.size w1 _ ∧ _); refine (toSeries_c W.heap.size a0 len0 cap0 F _ (T1.out.keep (hq.1.mono HLE.out)) (Nat.le_trans HLE.out hq.1.size) hn).mono ?_; rintro e w2 ⟨g2, rfl, hg2, o2, b2⟩; have zb2 := Nat.le_trans hq.1.size b2.size; (try have kb := Blk.later (t := 30) (cs := #[.slice none 0 0]) b2 (by (first | exact Blk.new _ _ _ | exact Blk.newAt (by simp) | assumption | exact Blk.alloc (Blk.new _ _ _) _ | exact Blk.alloc (Blk.newAt (by simp)) _ | exact Blk.alloc (by assumption) _ | exact Blk.alloc (Blk.alloc (Blk.new _ _ _) _) _ | exact Blk.alloc (Blk.alloc (Blk.newAt (by simp)) _) _ | exact Blk.alloc (Blk.alloc (by assumption) _) _))); (try simp at kb); (try have kc := kb.cell0); (try have kz := kb.frozen 0))
          | (go_at_call 28; have hqf := (by assumption : Below w1.heap.size w1 _ ∧ _); refine (toPoint_c _ _ _ _).mono ?_; rintro e w3 ⟨rfl, b3⟩; have zb3 := Nat.le_trans hqf.1.size b3.size; (try have kb := Blk.later (t := 30) (cs := #[.slice none 0 0]) b3 (by (first | exact Blk.new _ _ _ | exact Blk.newAt (by simp) | assumption | exact Blk.alloc (Blk.new _ _ _) _ | exact Blk.alloc (Blk.newAt (by simp)) _ | exact Blk.alloc (by assumption) _ | exact Blk.alloc (Blk.alloc (Blk.new _ _ _) _) _ | exact Blk.alloc (Blk.alloc (Blk.newAt (by simp)) _) _ | exact Blk.alloc (Blk.alloc (by assumption) _) _))); (try simp at kb); (try have kc := kb.cell0); (try have kz := kb.frozen 0))
          | (go_at_call 27; have hqa := (by assumption : Below w1.heap.size w1 _ ∧ _); refine (specPublish_c w2.heap.size (some ⟨g2, 0, none⟩) len0 len0 F x0 x1 x2 HI.out _ ?_ ?_ hn).mono ?_; (next => exact Tab.keep o2.rows (by (repeat (first | exact Below.refl _ _ | assumption | refine andAlloc ?_ _ | refine andThen ?_ (by assumption) | refine Below.drew ?_)))); (next => exact Below.size (by (repeat (first | exact Below.refl _ _ | assumption | refine andAlloc ?_ _ | refine andThen ?_ (by assumption) | refine Below.drew ?_)) : Below w2.heap.size w2 _)); rintro e w4 ⟨A4, c4, rfl, o4, b4⟩; have zb4 := Nat.le_trans hqa.1.size b4.size; have o4' := o4.more hqa.1.size; have hq6 := ks_call HS0.out b4 hqa; (try have kb := Blk.later (t := 30) (cs := #[.slice none 0 0]) b4 (by (first | exact Blk.new _ _ _ | exact Blk.newAt (by simp) | assumption | exact Blk.alloc (Blk.new _ _ _) _ | exact Blk.alloc (Blk.newAt (by simp)) _ | exact Blk.alloc (by assumption) _ | exact Blk.alloc (Blk.alloc (Blk.new _ _ _) _) _ | exact Blk.alloc (Blk.alloc (Blk.newAt (by simp)) _) _ | exact Blk.alloc (Blk.alloc (by assumption) _) _))); (try simp at kb); (try have kc := kb.cell0); (try have kz := kb.frozen 0))
          | fail)
      all_goals
        go_wp2_with fail
        go_meet
        refine ⟨_, A4, c4, rfl, rfl, ?_, ?_, ?_⟩
        · first | exact Blk.new _ _ _ | exact Blk.set1 (by assumption) _
        · first | exact o4'.alloc _ | exact o4'.setOther (o4'.apart (by assumption : Blk w4 _ 30 _) (by decide)) _
        · exact And.left (by assumption)
    case rest =>
      obtain ⟨gw, A3, c3, rfl, rfl, Bw, V3, b3⟩ := hcut
      obtain ⟨wa, rfl⟩ : ∃ wa : World, wa = wc := ⟨_, rfl⟩
      have hm := addLen_max F (oneF x0 x1 x2) hn
      obtain ⟨A3', c3', e3, t3⟩ := V3.tab
      obtain ⟨rfl, _, rfl⟩ : A3 = A3' ∧ c3 = c3 ∧ c3 = c3' := by injection e3 with x y z; exact ⟨x, rfl, z⟩
      have p3 : wa.cell? ⟨gw, 0, none⟩ = some (.slice A3 (addLen len0 F (oneF x0 x1 x2)) c3) := Bw.cell 0
      have zw := Bw.lt
      have zc := b3.size
      have zle := HLE.out
      have BS3 := HBB.out.1.below b3 (HBB.out.1.lt)
      have sl3 : wa.cell? ⟨W.heap.size, 0, none⟩ = some (.slice a0 len0 cap0) := BS3.cell 0
      have lx := b3
      clear V3 e3 Bw BS3 b3 HS0
      go_wp2_with fail
      refine (toSeries_c W.heap.size _ _ _ F _ (T1.out.keep (lx.mono (by omega))) (by omega) hn).mono ?_
      rintro e w4 ⟨g4, rfl, hg4, o4, b4⟩
      have lx4 := andThen lx b4
      have t4 := t3.keep (b4.mono (by omega))
      have p4 := cell_later b4 p3
      have zg4 := o4.lt
      have z4 := b4.size
      have X4 : Blk (w4.alloc (.cells #[.slice (some ⟨g4, 0, none⟩) len0 len0] 30)) w4.heap.size 30 #[.slice (some ⟨g4, 0, none⟩) len0 len0] := Blk.new _ _ _
      have n4 : Below w4.heap.size w4 (w4.alloc (.cells #[.slice (some ⟨g4, 0, none⟩) len0 len0] 30)) := andAlloc (Below.refl _ _) _
      have S4 : (w4.alloc (.cells #[.slice (some ⟨g4, 0, none⟩) len0 len0] 30)).heap.size = w4.heap.size + 1 := by simp
      have lx4 := andThen lx4 n4
      have t4 := t4.keep (n4.mono (by omega))
      have p4 := cell_later n4 p4
      have o4' := OwnR.later o4 n4
      have r4 := (o4.rows).keep n4
      clear n4 b4 t3 p3 sl3 lx
      go_upto_region 7 with fail
      generalize w4.alloc (.cells #[.slice (some ⟨g4, 0, none⟩) len0 len0] 30) = W4 at X4 S4 t4 lx4 p4 o4' r4 ⊢
      have R4 := Lib.hid r4
      have BF4 := HBB.out.2.1.below lx4 (HBB.out.2.1.lt)
      have HS0 : Hid (Below W4.heap.size W4 W4 ∧ W4.cell? ⟨w4.heap.size, 0, none⟩ = some (.slice (some ⟨g4, 0, none⟩) len0 len0) ∧ W4.cell? ⟨W.heap.size + 1, 0, none⟩ = some (.int .i64 x0) ∧ W4.cell? ⟨W.heap.size + 1, 1, none⟩ = some (.int .i64 x1) ∧ W4.cell? ⟨W.heap.size + 1, 2, none⟩ = some (.int .i64 x2)) := ⟨Below.refl _ _, X4.cell 0, BF4.cell 0, BF4.cell 1, BF4.cell 2⟩
      have HLE4 : Hid (w4.heap.size ≤ W4.heap.size) := (show w4.heap.size ≤ W4.heap.size by omega)
      have HH4 := Lib.hid (And.intro X4 (And.intro S4 (And.intro t4 (And.intro lx4 (And.intro p4 (And.intro o4' (And.intro z4 (And.intro zg4 hg4))))))))
      clear r4 BF4 X4 S4 t4 lx4 p4 o4' o4 z4 zg4 hg4
      go_cut [9, 10] (fun s6 s7 wx => ∃ (g : Nat) (A4 : Option Addr) (c4 : Nat), s6 = .pointer (some ⟨g, 0, none⟩) ∧ s7 = .bool (addOk len0 F (oneF x0 x1 x2)) ∧ Blk wx g 30 #[.slice A4 (addLen len0 F (oneF x0 x1 x2)) c4] ∧ OwnV 3 46 wx W4.heap.size (.slice A4 (addLen len0 F (oneF x0 x1 x2)) c4) (addLen len0 F (oneF x0 x1 x2)) (addRow F len0 (oneF x0 x1 x2)) ∧ Below W4.heap.size W4 wx)
      case first =>
        go_region_held3 (fun w' => Below W4.heap.size W4 w' ∧ w'.cell? ⟨w4.heap.size, 0, none⟩ = some (.slice (some ⟨g4, 0, none⟩) len0 len0) ∧ w'.cell? ⟨W.heap.size + 1, 0, none⟩ = some (.int .i64 x0) ∧ w'.cell? ⟨W.heap.size + 1, 1, none⟩ = some (.int .i64 x1) ∧ w'.cell? ⟨W.heap.size + 1, 2, none⟩ = some (.int .i64 x2))
          (first | exact ks HS0.out (Below.refl _ _).drew | exact ks_drew (by assumption) | exact ks_call HS0.out (by assumption) (by assumption) | exact ks_alloc HS0.out (by assumption) | exact ks_set HS0.out (by dsimp only; omega) (by assumption) | go_keep)
          (first
            | (go_at_call 28; have hqf := (by assumption : Below W4.heap.size W4 _ ∧ _); refine (toPoint_c _ _ _ _).mono ?_; rintro e w3 ⟨rfl, b3⟩; have zb3 := Nat.le_trans hqf.1.size b3.size; (try have kb := Blk.later (t := 30) (cs := #[.slice none 0 0]) b3 (by (first | exact Blk.new _ _ _ | exact Blk.newAt (by simp) | assumption | exact Blk.alloc (Blk.new _ _ _) _ | exact Blk.alloc (Blk.newAt (by simp)) _ | exact Blk.alloc (by assumption) _ | exact Blk.alloc (Blk.alloc (Blk.new _ _ _) _) _ | exact Blk.alloc (Blk.alloc (Blk.newAt (by simp)) _) _ | exact Blk.alloc (Blk.alloc (by assumption) _) _))); (try simp at kb); (try have kc := kb.cell0); (try have kz := kb.frozen 0))
            | (go_at_call 29; have hqa := (by assumption : Below W4.heap.size W4 _ ∧ _); refine (implPublish_c w4.heap.size (some ⟨g4, 0, none⟩) len0 len0 F x0 x1 x2 HI.out _ ?_ ?_ hn).mono ?_; (next => exact Tab.keep R4.out (hqa.1.mono HLE4.out)); (next => exact Nat.le_trans HLE4.out hqa.1.size); rintro e w4' ⟨A4, c4, rfl, o4, b4⟩; have zb4 := Nat.le_trans hqa.1.size b4.size; have o4' := o4.more hqa.1.size; have hq6 := ks_call HS0.out b4 hqa; (try have kb := Blk.later (t := 30) (cs := #[.slice none 0 0]) b4 (by (first | exact Blk.new _ _ _ | exact Blk.newAt (by simp) | assumption | exact Blk.alloc (Blk.new _ _ _) _ | exact Blk.alloc (Blk.newAt (by simp)) _ | exact Blk.alloc (by assumption) _ | exact Blk.alloc (Blk.alloc (Blk.new _ _ _) _) _ | exact Blk.alloc (Blk.alloc (Blk.newAt (by simp)) _) _ | exact Blk.alloc (Blk.alloc (by assumption) _) _))); (try simp at kb); (try have kc := kb.cell0); (try have kz := kb.frozen 0))
            | fail)
        all_goals
          go_wp2_with fail
          go_meet
          refine ⟨_, A4, c4, rfl, rfl, ?_, ?_, ?_⟩
          · first | exact Blk.new _ _ _ | exact Blk.set1 (by assumption) _
          · first | exact o4'.alloc _ | exact o4'.setOther (o4'.apart (by assumption : Blk w4' _ 30 _) (by decide)) _
          · exact And.left (by assumption)
      case rest =>
        obtain ⟨gy, A6, c6, rfl, rfl, Y6, o6, b6⟩ := hcut
        obtain ⟨X4, S4, t4, lx4, p4, o4', z4, zg4, hg4⟩ := HH4.out
        obtain ⟨A6', c6', e6, u6⟩ := o6.tab
        obtain ⟨rfl, _, rfl⟩ : A6 = A6' ∧ c6 = c6 ∧ c6 = c6' := by injection e6 with x y z; exact ⟨x, rfl, z⟩
        have lx6 := andThen lx4 b6
        have t6 := t4.keep (b6.mono (by omega))
        have p6 := cell_later b6 p4
        have x6 := OwnR.later o4' b6
        have X6 := X4.later' b6
        have q6 := X6.cell0
        have y6 := Y6.cell0
        have z6 := b6.size
        have HH6 := Lib.hid (And.intro X6 Y6)
        clear b6 lx4 t4 p4 o4' X4 e6 HS0 HH4 R4 X6 Y6
        go_wp2_with fail
        refine (eqSeries_c _ _ _ _ _ _ _ (addRow F len0 (oneF x0 x1 x2)) _ u6 t6 (Nat.le_refl _) (by omega) (by omega)).mono ?_
        rintro e w7 ⟨rfl, b7⟩
        have lx7 := andThen lx6 b7
        have t7 := t6.keep (b7.mono (by omega))
        have p7 := cell_later b7 p6
        have q7 := cell_later b7 q6
        have x7 := OwnR.later x6 b7
        have X7 := HH6.out.1.later' b7
        have Y7 := HH6.out.2.later' b7
        have o7 := o6.below b7
        have z7 := b7.size
        have sl7 : w7.cell? ⟨W.heap.size, 0, none⟩ = some (.slice a0 len0 cap0) := (HBB.out.1.below lx7 HBB.out.1.lt).cell0
        have t7' := x7.rows
        have HH7 := Lib.hid (And.intro lx7 (And.intro t7 (And.intro p7 (And.intro x7 (And.intro X7 (And.intro Y7 o7))))))
        have HQ7 := Lib.hid (And.intro q7 sl7)
        have l7 := HH7.out.1
        clear b7 t6 p6 q6 x6 o6 u6 lx6 y6 t7 p7 x7 X7 Y7 o7 lx7 HH6
        go_wp2_with fail
        go_region_held3 (fun w' => w'.cell? ⟨w4.heap.size, 0, none⟩ = some (.slice (some ⟨g4, 0, none⟩) len0 len0) ∧ w'.cell? ⟨W.heap.size, 0, none⟩ = some (.slice a0 len0 cap0))
          (first | exact ⟨cell_later (by assumption) (by assumption : _ ∧ _).1, cell_later (by assumption) (by assumption : _ ∧ _).2⟩ | go_keep)
          ((first
            | (go_at_call 16; refine (toSeries_c W.heap.size _ _ _ F _ (by exact T1.out.keep (Below.drew (l7.mono HLE.out))) (by show W.heap.size ≤ w7.heap.size; omega) hn).mono ?_; rintro e w8 ⟨g8, rfl, hg8, o8, b8⟩; have t8 := o8.rows; have b8' : Below w7.heap.size w7 w8 := andThen (Below.drew (Below.refl w7.heap.size w7)) b8; have t7' := (HH7.out.2.2.2.1.rows).keep b8'; have z8 := b8'.size; clear b8)
            | (go_at_call 18; refine (eqSeries_c _ _ _ _ _ _ _ F _ (by exact t7') (by exact t8) (by omega) (by exact Nat.le_refl _) hn).mono ?_; rintro e w9 ⟨rfl, b9⟩)))
        have c9 := andThen b8' b9
        obtain ⟨lx7, t7, p7, x7, X7, Y7, o7⟩ := HH7.out
        have t9 := t7.keep (c9.mono (by omega))
        have p9 := cell_later c9 p7
        have q9 := cell_later c9 HQ7.out.1
        have x9 := OwnR.later x7 c9
        have Y9 := Y7.later' c9
        have o9 := o7.below c9
        have lx9 := andThen lx7 c9
        have z9 := c9.size
        clear c9 b8' b9 t7' t8 o8 lx7 t7 p7 x7 X7 Y7 o7 HH7 HQ7 l7 q7 sl7
        go_wp2_with fail
        refine (markSeries_c 1 g4 _ _ F _ (x9.ownV (Nat.le_refl _) (by unfold maxLen; omega)) (by omega) (by omega) (by omega)).mono ?_
        rintro e w10 ⟨rfl, om, gm⟩
        have t10 := t9.keep (gm.below (Below.refl (wa.heap.size) w9) (by omega) (by omega))
        have p10 := gm.cell p9 (fun j hj => by cases hj; show gw ≠ g4; omega)
        have Y10 := gm.boxed (x9.ownV (Nat.le_refl _) (by unfold maxLen; omega)) Y9 (by decide)
        have o10 := o9.grew gm (fun j hj => by cases hj; show g4 < W4.heap.size; omega)
        have lx10 := gm.below lx9 (by omega) (by omega)
        have z10 := gm.size
        have d10 : decide ((1 : Int) + 3 * (len0 : Int) < 0) = false := decide_eq_false (by omega)
        clear gm x9 om lx9 t9 p9 q9 o9 Y9
        obtain ⟨A6', c6', e6, u10⟩ := o10.tab
        obtain ⟨rfl, _, rfl⟩ : A6 = A6' ∧ c6 = c6 ∧ c6 = c6' := by injection e6 with x y z; exact ⟨x, rfl, z⟩
        have y10 := Y10.cell0
        have HY10 := Lib.hid Y10
        clear e6 Y10
        go_wp2_with fail
        refine (eqSeries_c _ _ _ _ _ _ _ (addRow F len0 (oneF x0 x1 x2)) _ u10 t10 (Nat.le_refl _) (by omega) (by omega)).mono ?_
        rintro e w11 ⟨rfl, b11⟩
        have t11 := t10.keep (b11.mono (by omega))
        have p11 := cell_later b11 p10
        have Y11 := HY10.out.later' b11
        have o11 := o10.below b11
        have lx11 := andThen lx10 b11
        have z11 := b11.size
        have y11 := Y11.cell0
        have HY11 := Lib.hid Y11
        clear b11 t10 p10 o10 u10 lx10 y10 HY10 Y11
        go_wp2_with fail
        refine (markSeries_c 1 W4.heap.size _ _ (addRow F len0 (oneF x0 x1 x2)) _ o11 (by omega) (by omega) (by omega)).mono ?_
        rintro e w12 ⟨rfl, om, gm⟩
        have t12 := t11.keep (gm.below (Below.refl (wa.heap.size) w11) (by omega) (by omega))
        have p12 := gm.low (by show gw < _; omega) p11
        have Y12 := gm.boxed o11 HY11.out (by decide)
        have lx12 := gm.below lx11 (by omega) (by omega)
        have z12 := gm.size
        obtain ⟨A6', c6', e6, u12⟩ := om.tab
        obtain ⟨rfl, _, rfl⟩ : A6 = A6' ∧ c6 = c6 ∧ c6 = c6' := by injection e6 with x y z; exact ⟨x, rfl, z⟩
        have y12 := Y12.cell0
        have HY12 := Lib.hid Y12
        clear gm om e6 lx11 t11 p11 y11 o11 HY11 Y12
        go_wp2_with fail
        refine (heldSeries_c 1 _ _ _ _ _ u12 (Nat.le_refl _) (by omega) (by omega) (by omega)).mono ?_
        rintro e w13 ⟨rfl, b13⟩
        have d13 : decide ((1 : Int) + 3 * (addLen len0 F (oneF x0 x1 x2) : Int) < 0) = false := decide_eq_false (by omega)
        have lx13 := andThen lx12 b13
        have z13 := b13.size
        have BS13 := HBB.out.1.below lx13 HBB.out.1.lt
        have BF13 := HBB.out.2.1.below lx13 HBB.out.2.1.lt
        have HS0 : Hid (Below w13.heap.size w13 w13 ∧ w13.cell? ⟨W.heap.size, 0, none⟩ = some (.slice a0 len0 cap0) ∧ w13.cell? ⟨W.heap.size + 1, 0, none⟩ = some (.int .i64 x0) ∧ w13.cell? ⟨W.heap.size + 1, 1, none⟩ = some (.int .i64 x1) ∧ w13.cell? ⟨W.heap.size + 1, 2, none⟩ = some (.int .i64 x2)) := ⟨Below.refl _ _, BS13.cell 0, BF13.cell 0, BF13.cell 1, BF13.cell 2⟩
        have T13 := Lib.hid (T1.out.keep (lx13.mono HLE.out))
        have HLE13 : Hid (W.heap.size ≤ w13.heap.size) := (show W.heap.size ≤ w13.heap.size by omega)
        have HH13 := Lib.hid (And.intro lx13 (And.intro (t12.keep (b13.mono (by omega))) (And.intro (cell_later b13 p12) (And.intro (HY12.out.later' b13) (u12.keep b13)))))
        clear b13 t12 p12 y12 u12 lx12 HY12 BS13 BF13 lx13
        go_upto_region 24 with fail
        go_cut [14, 15] (fun s6 s7 wx => ∃ (g : Nat) (A4 : Option Addr) (c4 : Nat), s6 = .pointer (some ⟨g, 0, none⟩) ∧ s7 = .bool (addOk len0 F (oneF x0 x1 x2)) ∧ Blk wx g 30 #[.slice A4 (addLen len0 F (oneF x0 x1 x2)) c4] ∧ OwnV 3 46 wx w13.heap.size (.slice A4 (addLen len0 F (oneF x0 x1 x2)) c4) (addLen len0 F (oneF x0 x1 x2)) (addRow F len0 (oneF x0 x1 x2)) ∧ Below w13.heap.size w13 wx)
        case first =>
          go_region_held3 (fun w' => Below w13.heap.size w13 w' ∧ w'.cell? ⟨W.heap.size, 0, none⟩ = some (.slice a0 len0 cap0) ∧ w'.cell? ⟨W.heap.size + 1, 0, none⟩ = some (.int .i64 x0) ∧ w'.cell? ⟨W.heap.size + 1, 1, none⟩ = some (.int .i64 x1) ∧ w'.cell? ⟨W.heap.size + 1, 2, none⟩ = some (.int .i64 x2))
            (first | exact ks HS0.out (Below.refl _ _).drew | exact ks_drew (by assumption) | exact ks_call HS0.out (by assumption) (by assumption) | exact ks_alloc HS0.out (by assumption) | exact ks_set HS0.out (by dsimp only; omega) (by assumption) | go_keep)
            (first
              | (go_at_call 16; have hq := (by assumption : Below w13.heap.size w13 _ ∧ _); refine (toSeries_c W.heap.size a0 len0 cap0 F _ (T13.out.keep (hq.1.mono HLE13.out)) (Nat.le_trans HLE13.out hq.1.size) hn).mono ?_; rintro e w2 ⟨g2, rfl, hg2, o2, b2⟩; have zb2 := Nat.le_trans hq.1.size b2.size; (try have kb := Blk.later (t := 30) (cs := #[.slice none 0 0]) b2 (by (first | exact Blk.new _ _ _ | exact Blk.newAt (by simp) | assumption | exact Blk.alloc (Blk.new _ _ _) _ | exact Blk.alloc (Blk.newAt (by simp)) _ | exact Blk.alloc (by assumption) _ | exact Blk.alloc (Blk.alloc (Blk.new _ _ _) _) _ | exact Blk.alloc (Blk.alloc (Blk.newAt (by simp)) _) _ | exact Blk.alloc (Blk.alloc (by assumption) _) _))); (try simp at kb); (try have kc := kb.cell0); (try have kz := kb.frozen 0))
              | (go_at_call 28; have hqf := (by assumption : Below w13.heap.size w13 _ ∧ _); refine (toPoint_c _ _ _ _).mono ?_; rintro e w3 ⟨rfl, b3⟩; have zb3 := Nat.le_trans hqf.1.size b3.size; (try have kb := Blk.later (t := 30) (cs := #[.slice none 0 0]) b3 (by (first | exact Blk.new _ _ _ | exact Blk.newAt (by simp) | assumption | exact Blk.alloc (Blk.new _ _ _) _ | exact Blk.alloc (Blk.newAt (by simp)) _ | exact Blk.alloc (by assumption) _ | exact Blk.alloc (Blk.alloc (Blk.new _ _ _) _) _ | exact Blk.alloc (Blk.alloc (Blk.newAt (by simp)) _) _ | exact Blk.alloc (Blk.alloc (by assumption) _) _))); (try simp at kb); (try have kc := kb.cell0); (try have kz := kb.frozen 0))
              | (go_at_call 29; have hqa := (by assumption : Below w13.heap.size w13 _ ∧ _); refine (implPublish_c w2.heap.size (some ⟨g2, 0, none⟩) len0 len0 F x0 x1 x2 HI.out _ ?_ ?_ hn).mono ?_; (next => exact Tab.keep o2.rows (by (repeat (first | exact Below.refl _ _ | assumption | refine andAlloc ?_ _ | refine andThen ?_ (by assumption) | refine Below.drew ?_)))); (next => exact Below.size (by (repeat (first | exact Below.refl _ _ | assumption | refine andAlloc ?_ _ | refine andThen ?_ (by assumption) | refine Below.drew ?_)) : Below w2.heap.size w2 _)); rintro e w4 ⟨A4, c4, rfl, o4, b4⟩; have zb4 := Nat.le_trans hqa.1.size b4.size; have o4' := o4.more hqa.1.size; have hq6 := ks_call HS0.out b4 hqa; (try have kb := Blk.later (t := 30) (cs := #[.slice none 0 0]) b4 (by (first | exact Blk.new _ _ _ | exact Blk.newAt (by simp) | assumption | exact Blk.alloc (Blk.new _ _ _) _ | exact Blk.alloc (Blk.newAt (by simp)) _ | exact Blk.alloc (by assumption) _ | exact Blk.alloc (Blk.alloc (Blk.new _ _ _) _) _ | exact Blk.alloc (Blk.alloc (Blk.newAt (by simp)) _) _ | exact Blk.alloc (Blk.alloc (by assumption) _) _))); (try simp at kb); (try have kc := kb.cell0); (try have kz := kb.frozen 0))
              | fail)
          all_goals
            go_wp2_with fail
            go_meet
            refine ⟨_, A4, c4, rfl, rfl, ?_, ?_, ?_⟩
            · first | exact Blk.new _ _ _ | exact Blk.set1 (by assumption) _
            · first | exact o4'.alloc _ | exact o4'.setOther (o4'.apart (by assumption : Blk w4 _ 30 _) (by decide)) _
            · exact And.left (by assumption)
        case rest =>
          obtain ⟨gz, A15, c15, rfl, rfl, Z15, o15, b15⟩ := hcut
          obtain ⟨lx13, t13, p13, Y13, u13⟩ := HH13.out
          obtain ⟨A15', c15', e15, v15⟩ := o15.tab
          obtain ⟨rfl, _, rfl⟩ : A15 = A15' ∧ c15 = c15 ∧ c15 = c15' := by injection e15 with x y z; exact ⟨x, rfl, z⟩
          have lx15 := andThen lx13 b15
          have t15 := t13.keep (b15.mono (by omega))
          have p15 := cell_later b15 p13
          have Y15 := Lib.hid (Y13.later' b15)
          have y15 := Y15.out.cell0
          have u15 := u13.keep (b15.mono (by omega))
          have zz15 := Z15.cell0
          have z15 := b15.size
          clear b15 t13 p13 Y13 u13 lx13 HH13 HS0 o15 e15 Z15
          go_wp2_with fail
          refine (eqSeries_c _ _ _ _ _ _ _ (addRow F len0 (oneF x0 x1 x2)) _ v15 t15 (Nat.le_refl _) (by omega) (by omega)).mono ?_
          rintro e w17 ⟨rfl, b17⟩
          have y17 := cell_later b17 y15
          have u17 := u15.keep (b17.mono (by omega))
          have lx17 := andThen lx15 b17
          have z17 := b17.size
          clear b17 t15 p15 y15 u15 lx15 v15 zz15
          go_wp2_with fail
          refine (heldSeries_c 1 _ _ _ _ _ u17 (by omega) (by omega) (by omega) (by omega)).mono ?_
          rintro e w18 ⟨rfl, b18⟩
          have LL18 := Lib.hid (HL1.out.trans ((andThen lx17 b18).mono HL1.out.size))
          clear b18 u17 lx17
          go_wp2_with fail
          go_ret
          exact ⟨rfl, LL18.out⟩
  · have hs := szBox_no hn
    go_enter Try.func6, Try.ntmps6
    go_wp2_with fail
    refine (szSeries_c _ _ _ _ hlen).mono ?_
    rintro e w' ⟨rfl, b1⟩
    rw [hs]
    go_wp2_with fail
    go_ret
    exact ⟨rfl, andThen L0 b1⟩

theorem walk_FnExactPublish (W : World) (a0 : Option Addr) (len0 cap0 : Nat) (F : Nat → Nat → Int) (h1' : Tab 3 W W.heap.size a0 len0 F ∧ len0 ≤ 9223372036854775807) (x0 x1 x2 : Int) (hI : (Lit.int .i64 x0).wf = true ∧ (Lit.int .i64 x1).wf = true ∧ (Lit.int .i64 x2).wf = true) :
    Calls Try.prog 6 #[.agg #[.slice a0 len0 cap0], .agg #[.int .i64 x0, .int .i64 x1, .int .i64 x2]] W fun e w' => e = .returned (.bool true) ∧ Below W.heap.size W w' :=
  walkI_FnExactPublish W a0 len0 cap0 F h1' x0 x1 x2 ⟨bounds_i64 hI.1, bounds_i64 hI.2.1, bounds_i64 hI.2.2⟩

end Go.Proofs.Ytlpaicpjadkceaa
