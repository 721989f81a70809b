/-
  The walk of the law FnIndexes: a revision changes the index from its month to the next published month, and only from then on that it is known. Conditions: none.
-/
import Derived.Test.YtlpaicpjadkceaaDrawSeries
import Derived.Test.YtlpaicpjadkceaaIndexAt
import Derived.Test.YtlpaicpjadkceaaRevisionsOf
import Derived.Test.YtlpaicpjadkceaaSeriesOk
import Derived.Test.YtlpaicpjadkceaaLater
import Derived.Test.YtlpaicpjadkceaaPlaces
import Derived.BigRegion
namespace Go.Proofs.Ytlpaicpjadkceaa
open Go.RowKit
set_option linter.unusedVariables false
set_option maxRecDepth 4000

theorem bytes_mono' {w : World} {base base' : Nat} {A : Option Addr} {n : Nat} (h : Bytes w base A n) (hb : base ≤ base') : Bytes w base' A n := fun j hj => by
  obtain ⟨b, off, y, h1, h2, h3⟩ := h j hj
  exact ⟨b, off, y, h1, Nat.lt_of_lt_of_le h2 hb, h3⟩
theorem bestI_old {F : Nat → Nat → Int} {P : Nat → Int} {n : Nat} {m kn : Int} : ∀ k, k ≤ n → bestI (addRow F n P) m kn k = bestI F m kn k
  | 0, _ => rfl
  | k + 1, h => by
    have ih := bestI_old (F := F) (P := P) (n := n) (m := m) (kn := kn) k (by omega)
    have hb : ∀ b, bestI F m kn k = some b → addRow F n P b 0 = F b 0 := fun b hb => addRow_old (by have := bestI_lt F m kn k b hb; omega)
    have ht : takeB (addRow F n P) m kn (bestI F m kn k) k = takeB F m kn (bestI F m kn k) k := by
      unfold takeB
      rw [addRow_old (by omega), addRow_old (by omega)]
      cases hc : bestI F m kn k with
      | none => rfl
      | some b => simp only [hb b hc]
    cases hv : takeB F m kn (bestI F m kn k) k
    · rw [bestI_no (by rw [ih, ht, hv]), bestI_no hv, ih]
    · rw [bestI_yes (by rw [ih, ht, hv]), bestI_yes hv]
theorem bestI_le {F : Nat → Nat → Int} {m kn : Int} : ∀ k b, bestI F m kn k = some b → F b 0 ≤ m
  | 0, b, h => by cases h
  | k + 1, b, h => by
    cases hv : takeB F m kn (bestI F m kn k) k
    · rw [bestI_no hv] at h
      exact bestI_le k b h
    · rw [bestI_yes hv] at h
      injection h with h
      subst h
      unfold takeB at hv
      rw [Bool.and_eq_true, Bool.and_eq_true] at hv
      exact of_decide_eq_true hv.1.1
/-- What is not known yet changes nothing. -/
theorem indexAt_old {F : Nat → Nat → Int} {n : Nat} {x0 x1 x2 m kn : Int} (h : kn < x1) : indexAt (addRow F n (oneF x0 x1 x2)) (n + 1) m kn = indexAt F n m kn := by
  have hb : bestI (addRow F n (oneF x0 x1 x2)) m kn (n + 1) = bestI F m kn n := by
    rw [bestI_no, bestI_old n (Nat.le_refl _)]
    unfold takeB
    rw [addRow_new, addRow_new]
    have : decide (oneF x0 x1 x2 1 ≤ kn) = false := decide_eq_false (by show ¬ x1 ≤ kn; omega)
    rw [this, Bool.and_false]
    rfl
  unfold indexAt
  rw [hb]
  cases hc : bestI F m kn n with
  | none => rfl
  | some b => simp only [addRow_old (bestI_lt F m kn n b hc)]
/-- The new point holds in its month. -/
theorem indexAt_new {F : Nat → Nat → Int} {n : Nat} {x0 x1 x2 : Int} : indexAt (addRow F n (oneF x0 x1 x2)) (n + 1) x0 x1 = (x2, true) := by
  have hb : bestI (addRow F n (oneF x0 x1 x2)) x0 x1 (n + 1) = some n := by
    rw [bestI_yes]
    have ho := bestI_old (F := F) (P := oneF x0 x1 x2) (m := x0) (kn := x1) n (Nat.le_refl n)
    unfold takeB
    rw [addRow_new, addRow_new, ho]
    have h0 : decide (oneF x0 x1 x2 0 ≤ x0) = true := decide_eq_true (Int.le_refl _)
    have h1 : decide (oneF x0 x1 x2 1 ≤ x1) = true := decide_eq_true (Int.le_refl _)
    rw [h0, h1]
    cases hc : bestI F x0 x1 n with
    | none => rfl
    | some b =>
      have := bestI_le n b hc
      simp only [addRow_old (bestI_lt F x0 x1 n b hc)]
      have h2 : decide (F b 0 ≤ oneF x0 x1 x2 0) = true := decide_eq_true this
      rw [h2]
      rfl
  unfold indexAt
  rw [hb]
  simp only [addRow_new]
  rfl
theorem revs_new {F : Nat → Nat → Int} {n : Nat} {x0 x1 x2 : Int} : ∃ L : List Int, revs (addRow F n (oneF x0 x1 x2)) x0 (n + 1) = L ++ [x2] ∧ L.length ≤ n := by
  refine ⟨_, by rw [revs_yes (by rw [addRow_new]; exact beq_self_eq_true _), addRow_new]; rfl, revs_len _ _ _⟩

set_option maxHeartbeats 8000000 in
theorem walk_FnIndexes (w : World) (A : Option Addr) (n cap : Nat) (z : List Int) (hr : IsRow .u8 w A n cap z) :
    Calls Try.prog 7 #[.slice A n cap] w fun e w' => e = .returned (.bool true) ∧ Below w.heap.size w w' := by
  have hb := bytes0_of_row hr
  clear hr
  cases hbig : decide (1048576 < n)
  case true =>
    go_enter Try.func7, Try.ntmps7
    go_wp2_with (go_at_call 31; refine (big_c _ _ _ _).mono ?_; rintro e w' ⟨rfl, rfl⟩)
    go_ret
    exact ⟨rfl, Below.refl _ _⟩
  case false =>
    have hn : n ≤ 2000000 := by have := of_decide_eq_false hbig; omega
    have HB := Lib.hid hb
    clear hb
    go_enter Try.func7, Try.ntmps7
    go_wp2_with fail
    refine (big_c _ _ _ _).mono ?_
    rintro e w' ⟨rfl, rfl⟩
    go_wp2_with fail
    refine (drawSeries_c _ _ _ _ HB.out hn).mono ?_
    rintro e w1 ⟨A1, n1, c1, F, hn1, hd, rfl, V1, b1⟩
    obtain ⟨A1', c1', e1, t1⟩ := V1.tab
    obtain ⟨rfl, _, rfl⟩ : A1 = A1' ∧ n1 = n1 ∧ c1 = c1' := by injection e1 with x y z; exact ⟨x, rfl, z⟩
    have HD := Lib.hid hd
    have l1 : Below w1.heap.size w1 (w1.alloc (.cells #[.slice A1 n1 c1] 30)) := andAlloc (Below.refl _ _) _
    have s1 : (w1.alloc (.cells #[.slice A1 n1 c1] 30)).cell? ⟨w1.heap.size, 0, none⟩ = some (.slice A1 n1 c1) := by go_simp
    have z1 : (w1.alloc (.cells #[.slice A1 n1 c1] 30)).heap.size = w1.heap.size + 1 := by simp
    have H1 := Lib.hid (t1.keep l1)
    have bb := andThen b1 l1
    have hle := b1.size
    have HBB := Lib.hid (HB.out.below bb)
    clear hd V1 e1 t1 b1 l1
    go_wp2_with fail
    generalize w1.alloc (.cells #[.slice A1 n1 c1] 30) = W1 at *
    refine (drawPlaces_c _ _ _ _ (bytes_mono' HBB.out (by omega)) hn).mono ?_
    rintro e w2 ⟨v, zs, rfl, hl, hp, hown, hbel⟩
    obtain ⟨g, cp, rfl, hg1, hg2, hcp, hc⟩ := hown.form (by omega)
    have c0 := hc 0 (by omega)
    have c1' := hc 1 (by omega)
    have q0 := hp zs[0] (List.getElem_mem _)
    have q1 := hp zs[1] (List.getElem_mem _)
    generalize zs[0] = p0 at *
    generalize zs[1] = p1 at *
    obtain ⟨q00, q01⟩ := q0
    obtain ⟨q10, q11⟩ := q1
    rw [hl] at hcp ⊢
    clear hc hown hp hl
    have a0 := Int.emod_nonneg p0 (show (100 : Int) ≠ 0 by decide)
    have a1 := Int.emod_lt_of_pos p0 (show (0 : Int) < 100 by decide)
    have b0 := Int.emod_nonneg p1 (show (4000 : Int) ≠ 0 by decide)
    have b1 := Int.emod_lt_of_pos p1 (show (0 : Int) < 4000 by decide)
    have s2 := cell_later hbel s1
    have H2 := Lib.hid (H1.out.keep (hbel.mono (by omega)))
    have bb2 := andThen bb hbel
    have zz2 := hbel.size
    have HLE := Lib.hid (And.intro hle (And.intro z1 zz2))
    have HB2 := Lib.hid bb2
    clear H1 s1 bb hbel HBB HB bb2
    go_upto_region 6 with fail
    go_cut [6] (fun s6 wx => ∃ g6 : Nat, s6 = .pointer (some ⟨g6, 0, none⟩) ∧ Blk wx g6 46 #[.int .i64 (p0 % 100), .int .i64 130, .int .i64 (9000 + p1 % 4000)] ∧ Below w2.heap.size w2 wx)
    case first =>
      go_region
      all_goals
        go_wp2_with fail
        go_meet
        refine ⟨_, rfl, ?_, ?_⟩
        · exact Blk.new _ _ _
        · exact andAlloc (Below.drew (Below.refl _ _)) _
    case rest =>
      obtain ⟨g6, rfl, B6, b6⟩ := hcut
      have s3 := cell_later b6 s2
      have H3 := Lib.hid (H2.out.keep (b6.mono (by omega)))
      have bb3 := andThen HB2.out b6
      have zz3 := b6.size
      obtain ⟨x0, hx0⟩ : ∃ x0 : Int, p0 % 100 = x0 := ⟨_, rfl⟩
      obtain ⟨x2, hx2⟩ : ∃ x2 : Int, 9000 + p1 % 4000 = x2 := ⟨_, rfl⟩
      rw [hx0] at B6 a0 a1
      rw [hx2] at B6
      have hI : I64 x0 ∧ I64 130 ∧ I64 x2 := by refine ⟨⟨?_, ?_⟩, ⟨?_, ?_⟩, ⟨?_, ?_⟩⟩ <;> omega
      have hs : seriesB n1 F = true := seriesB_drawn HD.out (by omega) (by omega)
      have hs2 : seriesB (n1 + 1) (addRow F n1 (oneF x0 130 x2)) = true := seriesB_drawn (drawnP_add HD.out (by omega) a0 (by omega) (by omega) (by omega)) (by omega) (show (130 : Int) ≤ 3599 by omega)
      have hok : addOk n1 F (oneF x0 130 x2) = true := by unfold addOk; rw [hs, hs2]; rfl
      have hlen : addLen n1 F (oneF x0 130 x2) = n1 + 1 := by unfold addLen; rw [hok]; rfl
      have HOK := Lib.hid (And.intro hok hlen)
      have HS2 := Lib.hid hs2
      have f0 : wc.cell? ⟨g6, 0, none⟩ = some (.int .i64 x0) := B6.cell 0
      have f1 : wc.cell? ⟨g6, 1, none⟩ = some (.int .i64 130) := B6.cell 1
      have f2 : wc.cell? ⟨g6, 2, none⟩ = some (.int .i64 x2) := B6.cell 2
      have HB6 := Lib.hid B6
      clear hok hlen hx0 hx2 B6 b6 s2 H2 c0 c1' q00 q01 q10 q11 b0 b1 hs hs2
      go_wp2_with fail
      refine (implPublish_c w1.heap.size A1 n1 c1 F x0 130 x2 hI _ H3.out (by omega) (by omega)).mono ?_
      rintro e w6 ⟨A6, c6, rfl, o6, b6⟩
      rw [HOK.out.1, HOK.out.2]
      rw [HOK.out.2] at o6
      obtain ⟨A6', c6', e6, t6⟩ := o6.tab
      obtain ⟨rfl, _, rfl⟩ : A6 = A6' ∧ n1 + 1 = n1 + 1 ∧ c6 = c6' := by injection e6 with x y z; exact ⟨x, rfl, z⟩
      have l6 : Below w6.heap.size w6 (w6.alloc (.cells #[.slice A6 (n1 + 1) c6] 30)) := andAlloc (Below.refl _ _) _
      have x6 : (w6.alloc (.cells #[.slice A6 (n1 + 1) c6] 30)).cell? ⟨w6.heap.size, 0, none⟩ = some (.slice A6 (n1 + 1) c6) := by go_simp
      have z6 : (w6.alloc (.cells #[.slice A6 (n1 + 1) c6] 30)).heap.size = w6.heap.size + 1 := by simp
      have HT6 := Lib.hid (t6.keep l6)
      have bl6 := andThen b6 l6
      have s6 := cell_later bl6 s3
      have HS6 := Lib.hid (H3.out.keep (bl6.mono (by omega)))
      have bb6 := andThen bb3 bl6
      have f0' := cell_later bl6 f0
      have f2' := cell_later bl6 f2
      have zz6 := b6.size
      have g6lt := HB6.out.lt
      have HZ6 := Lib.hid (And.intro z6 (And.intro zz6 g6lt))
      have HOLD := Lib.hid (fun m => indexAt_old (F := F) (n := n1) (x0 := x0) (x1 := 130) (x2 := x2) (m := m) (kn := 129) (by omega))
      have HNEW := Lib.hid (indexAt_new (F := F) (n := n1) (x0 := x0) (x1 := 130) (x2 := x2))
      obtain ⟨R, hR, hRl⟩ := revs_new (F := F) (n := n1) (x0 := x0) (x1 := 130) (x2 := x2)
      have HR := Lib.hid hR
      generalize addRow F n1 (oneF x0 130 x2) = G at *
      clear o6 e6 t6 l6 b6 s3 H3 bb3 f0 f1 f2 HB6 bl6 HOK z6 zz6 hR
      go_wp2_with fail
      generalize w6.alloc (.cells #[.slice A6 (n1 + 1) c6] 30) = W6 at *
      go_loopw [9] (fun m wr => ∃ M : Int, 0 ≤ M ∧ M ≤ 112 ∧ m = .int .i64 M ∧ Below W6.heap.size W6 wr) (fun m _ => (113 - intOf m).toNat)
      case atStart => exact ⟨0, by omega, by omega, rfl, Below.refl _ _⟩
      case round =>
        obtain ⟨M, hM0, hM1, rfl, hbl⟩ := hrel
        have hzl : w6.heap.size ≤ W6.heap.size := by have := HZ6.out; omega
        have hzl1 : w1.heap.size ≤ W6.heap.size := by have := HZ6.out; have := HLE.out; omega
        have x7 : wr.cell? ⟨w6.heap.size, 0, none⟩ = some (.slice A6 (n1 + 1) c6) := (hbl.cell (p := ⟨w6.heap.size, 0, none⟩) (by have := HZ6.out; show w6.heap.size < _; omega)).trans x6
        by_cases hM : M < 110
        · have s7 : wr.cell? ⟨w1.heap.size, 0, none⟩ = some (.slice A1 n1 c1) := (hbl.cell (p := ⟨w1.heap.size, 0, none⟩) (by have := HZ6.out; have := HLE.out; show w1.heap.size < _; omega)).trans s6
          have hsz := hbl.size
          obtain ⟨x, o, hv⟩ : ∃ x o, indexAt F n1 M 129 = (x, o) := ⟨_, _, rfl⟩
          have hk := HOLD.out M
          rw [hv] at hk
          have HV := Lib.hid (And.intro hv hk)
          clear hv hk
          go_wp2_with fail
          refine (implIndexAt_c W6.heap.size _ _ _ G M 129 _ ((HT6.out.more hzl).keep hbl) hsz (by omega)).mono ?_
          rintro e w7 ⟨rfl, b7⟩
          rw [HV.out.2]
          have s8 := cell_later b7 s7
          have hb7 := Below.trans hbl (b7.mono hsz)
          have hs7 := hb7.size
          clear b7 s7 x7 hbl
          go_wp2_with fail
          refine (specIndexAt_c W6.heap.size _ _ _ F M 129 _ ((HS6.out.more hzl1).keep hb7) hs7 (by omega)).mono ?_
          rintro e w8 ⟨rfl, b8⟩
          rw [HV.out.1]
          have hb8 := Below.trans hb7 (b8.mono hs7)
          clear b8 hb7 s8
          cases o
          all_goals
            go_wp2_with fail
            go_roundw
            case rel => exact ⟨M + 3, by omega, by omega, rfl, hb8⟩
            case measure => simp [intOf]; omega
        · have y0 : wr.cell? ⟨g6, 0, none⟩ = some (.int .i64 x0) := (hbl.cell (p := ⟨g6, 0, none⟩) (by have := HZ6.out; show g6 < _; omega)).trans f0'
          have y2 : wr.cell? ⟨g6, 2, none⟩ = some (.int .i64 x2) := (hbl.cell (p := ⟨g6, 2, none⟩) (by have := HZ6.out; show g6 < _; omega)).trans f2'
          have hsz := hbl.size
          have hb6 := bb6.trans (hbl.mono bb6.size)
          go_wp2_with fail
          refine (implIndexAt_c W6.heap.size _ _ _ G x0 130 _ ((HT6.out.more hzl).keep hbl) hsz (by omega)).mono ?_
          rintro e w7 ⟨rfl, b7⟩
          rw [HNEW.out]
          have x8 := cell_later b7 x7
          have y0' := cell_later b7 y0
          have y2' := cell_later b7 y2
          have hb7 := Below.trans hbl (b7.mono hsz)
          have hs7 := hb7.size
          have l7 := andThen hb6 b7
          clear b7 x7 y0 y2 hbl hb6
          go_wp2_with fail
          refine (implRevisionsOf_c W6.heap.size _ _ _ G x0 _ ((HT6.out.more hzl).keep hb7) hs7 (by omega)).mono ?_
          rintro e w8 ⟨v8, rfl, o8, b8⟩
          rw [HR.out] at o8
          obtain ⟨g8, cp8, rfl, hg81, hg82, hcp8, hc8⟩ := o8.form (by simp)
          have r8 := hc8 R.length (by simp)
          have hlen8 : (R ++ [x2]).length = R.length + 1 := by simp
          rw [List.getElem_append_right (Nat.le_refl _)] at r8
          simp only [Nat.sub_self, List.getElem_cons_zero] at r8
          rw [hlen8]
          have x9 := cell_later b8 x8
          have y2b := cell_later b8 y2'
          have hb8 := Below.trans hb7 (b8.mono hs7)
          have hs8 := hb8.size
          have l8 := andThen l7 b8
          have hkk : IntKind.i64.wrap (((R.length + 1 : Nat) : Int) - 1) = (R.length : Int) := by
            rw [show ((R.length + 1 : Nat) : Int) - 1 = (R.length : Int) by omega]
            exact IntWalk.i64_in _ ⟨by omega, by omega⟩
          clear o8 hc8 hlen8 b8 x8 y0' y2' l7
          have q1 : ∀ s : Later w8, s.w.cell? ⟨w6.heap.size, 0, none⟩ = some (.slice A6 (n1 + 1) c6) := fun s => s.cell x9
          have q2 : ∀ s : Later w8, s.w.cell? ⟨g6, 2, none⟩ = some (.int .i64 x2) := fun s => s.cell y2b
          have q3 : ∀ s : Later w8, s.w.cell? ⟨g8, R.length, none⟩ = some (.int .i64 x2) := fun s => s.cell r8
          have HM := Lib.hid (fun (s : Later w8) => later_bool (s := s) HS2.out (implSeriesOk_c W6.heap.size A6 (n1 + 1) c6 G s.w ((HT6.out.more hzl).keep (Below.trans hb8 (s.h.mono hs8))) (Nat.le_trans hs8 s.h.size) (by omega)))
          have hge : decide ((1 : Int) ≤ (R.length : Int) + 1) = true := decide_eq_true (by omega)
          have hr0 : (0 : Int) ≤ (R.length : Int) := by omega
          have hr1 : (R.length : Int) < (R.length : Int) + 1 := by omega
          go_upto_region 17 with fail
          refine wp_region_later (by kernel_rfl) (by kernel_rfl) ?_
          repeat (any_goals (first | go_big_quiet_step (((go_at_call 20; exact HM.out _))) | quiet_step (((go_at_call 20; exact HM.out _)))))
          refine wpQuiet_nil ?_
          rintro _ ⟨s, rfl⟩
          have hbs := andThen l8 s.h
          go_wp2_with fail
          go_ret
          exact ⟨rfl, hbs⟩

end Go.Proofs.Ytlpaicpjadkceaa
