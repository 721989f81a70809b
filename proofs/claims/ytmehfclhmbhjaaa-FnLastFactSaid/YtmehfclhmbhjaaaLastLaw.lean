/-
  The walk of the law FnLastFact: a new fact holds in its months, and nothing else changes. Conditions: none.
-/
import Derived.Test.YtmehfclhmbhjaaaDrawStore
import Derived.Test.YtmehfclhmbhjaaaAddImpl
import Derived.Test.YtmehfclhmbhjaaaValueAt2
import Derived.Test.YtmehfclhmbhjaaaPlaces
import Derived.BigRegion
namespace Go.Proofs.Ytmehfclhmbhjaaa
open Go.RowKit
set_option linter.unusedVariables false
set_option maxRecDepth 4000

theorem bytes_mono' {w : World} {base base' : Nat} {A : Option Addr} {n : Nat} (h : Bytes w base A n) (hb : base ≤ base') : Bytes w base' A n := fun j hj => by
  obtain ⟨b, off, y, h1, h2, h3⟩ := h j hj
  exact ⟨b, off, y, h1, Nat.lt_of_lt_of_le h2 hb, h3⟩

theorem valueAt_old {F G : Nat → Nat → Int} {key m kn : Int} : ∀ n, (∀ i, i < n → ∀ j, F i j = G i j) → valueAt F key m kn n = valueAt G key m kn n
  | 0, _ => rfl
  | n + 1, h => by
    unfold valueAt vaB
    rw [h n (by omega) 0, h n (by omega) 1, h n (by omega) 2, h n (by omega) 3, h n (by omega) 4, valueAt_old n fun i hi j => h i (by omega) j]
/-- What the store says behind the new fact. -/
theorem lastFact {F : Nat → Nat → Int} {n : Nat} {x0 x1 x2 k3 x4 kn : Int} (hk : k3 ≤ kn) (key m : Int) :
    valueAt (addRow F n (oneF x0 x1 x2 k3 x4)) key m kn (n + 1) = if x0 = key ∧ x1 ≤ m ∧ m < x2 then (x4, true) else valueAt F key m kn n := by
  have hb : vaB (addRow F n (oneF x0 x1 x2 k3 x4)) key m kn n = ((x0 == key) && (decide (x1 ≤ m) && (decide (m < x2) && decide (k3 ≤ kn)))) := by
    unfold vaB
    rw [addRow_new, addRow_new, addRow_new, addRow_new]
    rfl
  rw [decide_eq_true hk, Bool.and_true] at hb
  by_cases h : x0 = key ∧ x1 ≤ m ∧ m < x2
  · rw [if_pos h, valueAt_yes, addRow_new]
    · rfl
    · rw [hb, beq_iff_eq.2 h.1, decide_eq_true h.2.1, decide_eq_true h.2.2]; rfl
  · rw [if_neg h, valueAt_no]
    · exact valueAt_old n fun i hi j => addRow_old hi
    · rw [hb, ← Bool.not_eq_true]
      intro h2
      rw [Bool.and_eq_true, Bool.and_eq_true] at h2
      exact h ⟨beq_iff_eq.1 h2.1, of_decide_eq_true h2.2.1, of_decide_eq_true h2.2.2⟩

set_option maxHeartbeats 4000000 in
theorem walk_FnLastFact (w : World) (A : Option Addr) (n cap : Nat) (z : List Int) (hr : IsRow .u8 w A n cap z) :
    Calls Try.prog 13 #[.slice A n cap] w fun e w' => e = .returned (.bool true) ∧ Below w.heap.size w w' := by
  have hb := bytes0_of_row hr
  clear hr
  cases hbig : decide (1048576 < n)
  case true =>
    go_enter Try.func13, Try.ntmps13
    go_wp2_with (go_at_call 47; refine (big_c _ _ _ _).mono ?_; rintro e w' ⟨rfl, rfl⟩)
    go_ret
    exact ⟨rfl, Below.refl _ _⟩
  case false =>
    have hn : n ≤ 2000000 := by have := of_decide_eq_false hbig; omega
    have HB := Lib.hid hb
    clear hb
    go_enter Try.func13, Try.ntmps13
    go_wp2_with fail
    refine (big_c _ _ _ _).mono ?_
    rintro e w' ⟨rfl, rfl⟩
    go_wp2_with fail
    refine (drawStore_c _ _ _ _ HB.out hn).mono ?_
    rintro e w1 ⟨A1, n1, c1, F, hn1, hd, rfl, V1, b1⟩
    obtain ⟨A1', c1', e1, t1⟩ := V1.tab
    obtain ⟨rfl, _, rfl⟩ : A1 = A1' ∧ n1 = n1 ∧ c1 = c1' := by injection e1 with x y z; exact ⟨x, rfl, z⟩
    have HD := Lib.hid hd
    have l1 : Below w1.heap.size w1 (w1.alloc (.cells #[.slice A1 n1 c1] 38)) := andAlloc (Below.refl _ _) _
    have s1 : (w1.alloc (.cells #[.slice A1 n1 c1] 38)).cell? ⟨w1.heap.size, 0, none⟩ = some (.slice A1 n1 c1) := by go_simp
    have z1 : (w1.alloc (.cells #[.slice A1 n1 c1] 38)).heap.size = w1.heap.size + 1 := by simp
    have H1 := Lib.hid (t1.keep l1)
    have bb := andThen b1 l1
    have HBB := Lib.hid (HB.out.below (bb.mono (Nat.le_refl _)))
    have hle := b1.size
    clear hd V1 e1 t1 b1 l1
    go_wp2_with fail
    generalize w1.alloc (.cells #[.slice A1 n1 c1] 38) = W1 at *
    refine (drawPlaces_c _ _ _ _ (bytes_mono' HBB.out (by omega)) hn).mono ?_
    rintro e w2 ⟨v, zs, rfl, hl, hp, hown, hbel⟩
    obtain ⟨g, cp, rfl, hg1, hg2, hcp, hc⟩ := hown.form (by omega)
    have c0 := hc 0 (by omega)
    have c1' := hc 1 (by omega)
    have c2' := hc 2 (by omega)
    have c3' := hc 3 (by omega)
    have q0 := hp zs[0] (List.getElem_mem _)
    have q1 := hp zs[1] (List.getElem_mem _)
    have q2 := hp zs[2] (List.getElem_mem _)
    have q3 := hp zs[3] (List.getElem_mem _)
    generalize zs[0] = p0 at *
    generalize zs[1] = p1 at *
    generalize zs[2] = p2 at *
    generalize zs[3] = p3 at *
    obtain ⟨q00, q01⟩ := q0
    obtain ⟨q10, q11⟩ := q1
    obtain ⟨q20, q21⟩ := q2
    obtain ⟨q30, q31⟩ := q3
    rw [hl] at hcp ⊢
    clear hc hown hp hl
    have a0 := Int.emod_nonneg p0 (show (4 : Int) ≠ 0 by decide)
    have a1 := Int.emod_lt_of_pos p0 (show (0 : Int) < 4 by decide)
    have b0 := Int.emod_nonneg p1 (show (60 : Int) ≠ 0 by decide)
    have b1 := Int.emod_lt_of_pos p1 (show (0 : Int) < 60 by decide)
    have k0 := Int.emod_nonneg p2 (show (40 : Int) ≠ 0 by decide)
    have k1 := Int.emod_lt_of_pos p2 (show (0 : Int) < 40 by decide)
    have s2 := cell_later hbel s1
    have H2 := Lib.hid (H1.out.keep (hbel.mono (by omega)))
    have bb2 := andThen bb hbel
    have zz2 := hbel.size
    have HLE := Lib.hid (And.intro hle (And.intro z1 zz2))
    have HB2 := Lib.hid bb2
    clear H1 s1 bb hbel HBB HB bb2
    go_upto_region 5 with fail
    go_cut [5] (fun s5 wx => ∃ g5 : Nat, s5 = .pointer (some ⟨g5, 0, none⟩) ∧ Blk wx g5 54 #[.int .i64 (1 + p0 % 4), .int .i64 (p1 % 60), .int .i64 (p1 % 60 + 1 + p2 % 40), .int .i64 200, .int .i64 p3] ∧ Below w2.heap.size w2 wx)
    case first =>
      go_region
      all_goals
        go_wp2_with fail
        go_meet
        refine ⟨_, rfl, ?_, ?_⟩
        · first | exact Blk.new _ _ _ | trace_state
        · exact andAlloc (Below.drew (Below.refl _ _)) _
    case rest =>
      obtain ⟨g5, rfl, B5, b5⟩ := hcut
      have s3 := cell_later b5 s2
      have H3 := Lib.hid (H2.out.keep (b5.mono (by omega)))
      have bb3 := andThen HB2.out b5
      have zz3 := b5.size
      obtain ⟨x0, hx0⟩ : ∃ x0 : Int, 1 + p0 % 4 = x0 := ⟨_, rfl⟩
      obtain ⟨x1, hx1⟩ : ∃ x1 : Int, p1 % 60 = x1 := ⟨_, rfl⟩
      obtain ⟨x2, hx2⟩ : ∃ x2 : Int, x1 + 1 + p2 % 40 = x2 := ⟨_, rfl⟩
      rw [hx1] at B5 b0 b1
      rw [hx0, hx2] at B5
      have hf : factD x0 x1 x2 p3 := ⟨by omega, by omega, by omega, by omega, by omega, by omega, by omega, by omega⟩
      have hI : I64 x0 ∧ I64 x1 ∧ I64 x2 ∧ I64 200 ∧ I64 p3 := by
        refine ⟨⟨?_, ?_⟩, ⟨?_, ?_⟩, ⟨?_, ?_⟩, ⟨?_, ?_⟩, ⟨?_, ?_⟩⟩ <;> omega
      have hok : addOk n1 F (oneF x0 x1 x2 200 p3) = true := by
        have e1 := storeB_drawn HD.out (by omega) (by omega)
        have e2 : storeB (n1 + 1) (addRow F n1 (oneF x0 x1 x2 200 p3)) = true := storeB_drawn (drawnF_add HD.out (by omega) (by omega) hf) (by omega) (show (200 : Int) ≤ 3599 by omega)
        unfold addOk
        rw [e1, e2]
        rfl
      have hlen : addLen n1 F (oneF x0 x1 x2 200 p3) = n1 + 1 := by unfold addLen; rw [hok]; rfl
      have HOK := Lib.hid (And.intro hok hlen)
      have f0 : wc.cell? ⟨g5, 0, none⟩ = some (.int .i64 x0) := B5.cell 0
      have f1 : wc.cell? ⟨g5, 1, none⟩ = some (.int .i64 x1) := B5.cell 1
      have f2 : wc.cell? ⟨g5, 2, none⟩ = some (.int .i64 x2) := B5.cell 2
      have f3 : wc.cell? ⟨g5, 3, none⟩ = some (.int .i64 200) := B5.cell 3
      have f4 : wc.cell? ⟨g5, 4, none⟩ = some (.int .i64 p3) := B5.cell 4
      have HB5 := Lib.hid B5
      clear hok hlen hx0 hx1 hx2 B5 b5 s2 H2 c0 c1' c2' c3' q00 q01 q10 q11 q20 q21 a0 a1 k0 k1
      go_wp2_with fail
      refine (implAddFact_c w1.heap.size A1 n1 c1 F x0 x1 x2 200 p3 hI _ H3.out (by omega) (by omega)).mono ?_
      rintro e w6 ⟨A6, c6, rfl, o6, b6⟩
      rw [HOK.out.1, HOK.out.2]
      rw [HOK.out.2] at o6
      obtain ⟨A6', c6', e6, t6⟩ := o6.tab
      obtain ⟨rfl, _, rfl⟩ : A6 = A6' ∧ n1 + 1 = n1 + 1 ∧ c6 = c6' := by injection e6 with x y z; exact ⟨x, rfl, z⟩
      have l6 : Below w6.heap.size w6 (w6.alloc (.cells #[.slice A6 (n1 + 1) c6] 38)) := andAlloc (Below.refl _ _) _
      have x6 : (w6.alloc (.cells #[.slice A6 (n1 + 1) c6] 38)).cell? ⟨w6.heap.size, 0, none⟩ = some (.slice A6 (n1 + 1) c6) := by go_simp
      have z6 : (w6.alloc (.cells #[.slice A6 (n1 + 1) c6] 38)).heap.size = w6.heap.size + 1 := by simp
      have HT6 := Lib.hid (t6.keep l6)
      have bl6 := andThen b6 l6
      have s6 := cell_later bl6 s3
      have HS6 := Lib.hid (H3.out.keep (bl6.mono (by omega)))
      have bb6 := andThen bb3 bl6
      have HB6 := HB5.out.later' bl6
      have hv6 := lastFact (F := F) (n := n1) (x0 := x0) (x1 := x1) (x2 := x2) (x4 := p3) (kn := 200) (k3 := 200) (Int.le_refl _)
      have HV6 := Lib.hid hv6
      have f0' := cell_later bl6 f0
      have f1' := cell_later bl6 f1
      have f2' := cell_later bl6 f2
      have f4' := cell_later bl6 f4
      have zz6 := b6.size
      have g5lt := HB5.out.lt
      have HZ6 := Lib.hid (And.intro z6 (And.intro zz6 g5lt))
      clear o6 e6 t6 l6 b6 s3 H3 bb3 hv6 f0 f1 f2 f3 f4 HB5 HB6 bl6 HOK z6 zz6
      go_wp2_with fail
      generalize w6.alloc (.cells #[.slice A6 (n1 + 1) c6] 38) = W6 at *
      go_loopw [8] (fun m wr => ∃ M : Int, 0 ≤ M ∧ M ≤ 110 ∧ m = .int .i64 M ∧ Below W6.heap.size W6 wr) (fun m _ => (110 - intOf m).toNat)
      case atStart => exact ⟨0, by omega, by omega, rfl, Below.refl _ _⟩
      case round =>
        obtain ⟨M, hM0, hM1, rfl, hbl⟩ := hrel
        by_cases hM : M < 110
        · obtain ⟨wo, rfl⟩ : ∃ wo : World, wo = wr := ⟨_, rfl⟩
          go_wp2_with fail
          go_loopw [9] (fun k wr => ∃ y : Int, 1 ≤ y ∧ y ≤ 5 ∧ k = .int .i64 y ∧ Below W6.heap.size W6 wr) (fun k _ => (5 - intOf k).toNat)
          case atStart => exact ⟨1, by omega, by omega, rfl, hbl⟩
          case round =>
            clear hbl
            obtain ⟨y, hy0, hy1, rfl, hbl⟩ := hrel
            by_cases hy : y < 5
            · have hy4 : decide (y ≤ 4) = true := decide_eq_true (by omega)
              have s7 : wr.cell? ⟨w1.heap.size, 0, none⟩ = some (.slice A1 n1 c1) := (hbl.cell (p := ⟨w1.heap.size, 0, none⟩) (by have := HZ6.out; have := HLE.out; show w1.heap.size < _; omega)).trans s6
              have x7 : wr.cell? ⟨w6.heap.size, 0, none⟩ = some (.slice A6 (n1 + 1) c6) := (hbl.cell (p := ⟨w6.heap.size, 0, none⟩) (by have := HZ6.out; show w6.heap.size < _; omega)).trans x6
              have y0 : wr.cell? ⟨g5, 0, none⟩ = some (.int .i64 x0) := (hbl.cell (p := ⟨g5, 0, none⟩) (by have := HZ6.out; show g5 < _; omega)).trans f0'
              have y1 : wr.cell? ⟨g5, 1, none⟩ = some (.int .i64 x1) := (hbl.cell (p := ⟨g5, 1, none⟩) (by have := HZ6.out; show g5 < _; omega)).trans f1'
              have y2 : wr.cell? ⟨g5, 2, none⟩ = some (.int .i64 x2) := (hbl.cell (p := ⟨g5, 2, none⟩) (by have := HZ6.out; show g5 < _; omega)).trans f2'
              have y4 : wr.cell? ⟨g5, 4, none⟩ = some (.int .i64 p3) := (hbl.cell (p := ⟨g5, 4, none⟩) (by have := HZ6.out; show g5 < _; omega)).trans f4'
              have hsz := hbl.size
              obtain ⟨x, o, hv⟩ : ∃ x o, valueAt F y M 200 n1 = (x, o) := ⟨_, _, rfl⟩
              have hk := HV6.out y M
              rw [hv] at hk
              have HV := Lib.hid (And.intro hv hk)
              clear hv hk
              have hzl : w6.heap.size ≤ W6.heap.size := by have := HZ6.out; omega
              have hzl1 : w1.heap.size ≤ W6.heap.size := by have := HZ6.out; have := HLE.out; omega
              go_wp2_with fail
              refine (implValueAt_c W6.heap.size _ _ _ _ y M 200 _ ((HT6.out.more hzl).keep hbl) hsz (by omega)).mono ?_
              rintro e w7 ⟨rfl, b7⟩
              have s8 := cell_later b7 s7
              have w0' := cell_later b7 y0
              have w1' := cell_later b7 y1
              have w2' := cell_later b7 y2
              have w4' := cell_later b7 y4
              have hb7 := Below.trans hbl (b7.mono hsz)
              have hs7 := hb7.size
              clear b7 s7 y0 y1 y2 y4 x7 hbl
              rw [HV.out.2]
              by_cases hin : x0 = y ∧ x1 ≤ M ∧ M < x2
              · rw [if_pos hin]
                obtain ⟨rfl, i1, i2⟩ := hin
                have d1 : decide (x1 ≤ M) = true := decide_eq_true i1
                have d2 : decide (M < x2) = true := decide_eq_true i2
                go_wp2_with fail
                refine (specValueAt_c W6.heap.size _ _ _ F x0 M 200 _ ((HS6.out.more hzl1).keep hb7) hs7 (by omega)).mono ?_
                rintro e w8 ⟨rfl, b8⟩
                have v0 := cell_later b8 w0'
                have v1 := cell_later b8 w1'
                have v2 := cell_later b8 w2'
                have v4 := cell_later b8 w4'
                have hb8 := Below.trans hb7 (b8.mono hs7)
                clear b8 w0' w1' w2' w4' hb7 s8
                rw [HV.out.1]
                go_wp2_with fail
                go_roundw
                case rel => exact ⟨x0 + 1, by omega, by omega, rfl, hb8⟩
                case measure => simp [intOf]; omega
              · rw [if_neg hin]
                go_wp2_with fail
                refine (specValueAt_c W6.heap.size _ _ _ F y M 200 _ ((HS6.out.more hzl1).keep hb7) hs7 (by omega)).mono ?_
                rintro e w8 ⟨rfl, b8⟩
                have v0 := cell_later b8 w0'
                have v1 := cell_later b8 w1'
                have v2 := cell_later b8 w2'
                have v4 := cell_later b8 w4'
                have hb8 := Below.trans hb7 (b8.mono hs7)
                clear b8 w0' w1' w2' w4' hb7 s8
                rw [HV.out.1]
                by_cases j0 : y = x0
                · by_cases j1 : x1 ≤ M
                  · have j2 : ¬ M < x2 := fun h => hin ⟨j0.symm, j1, h⟩
                    have d0 : (y == x0) = true := beq_iff_eq.2 j0
                    have d1 : decide (x1 ≤ M) = true := decide_eq_true j1
                    have d2 : decide (M < x2) = false := decide_eq_false j2
                    clear hin j0
                    cases o
                    all_goals
                      go_wp2_with fail
                      go_roundw
                      case rel => exact ⟨y + 1, by omega, by omega, rfl, hb8⟩
                      case measure => simp [intOf]; omega
                  · have d0 : (y == x0) = true := beq_iff_eq.2 j0
                    have d1 : decide (x1 ≤ M) = false := decide_eq_false j1
                    clear hin j0
                    cases o
                    all_goals
                      go_wp2_with fail
                      go_roundw
                      case rel => exact ⟨y + 1, by omega, by omega, rfl, hb8⟩
                      case measure => simp [intOf]; omega
                · have d0 : (y == x0) = false := beq_eq_false_iff_ne.2 j0
                  clear hin
                  cases o
                  all_goals
                    go_wp2_with fail
                    go_roundw
                    case rel => exact ⟨y + 1, by omega, by omega, rfl, hb8⟩
                    case measure => simp [intOf]; omega
            · have hy4 : decide (y ≤ 4) = false := decide_eq_false (by omega)
              go_wp2_with fail
              go_roundw
              case rel => exact ⟨M + 1, by omega, by omega, rfl, hbl⟩
              case measure => simp [intOf]; omega
        · have s7 : wr.cell? ⟨w1.heap.size, 0, none⟩ = some (.slice A1 n1 c1) := (hbl.cell (p := ⟨w1.heap.size, 0, none⟩) (by have := HZ6.out; have := HLE.out; show w1.heap.size < _; omega)).trans s6
          have x7 : wr.cell? ⟨w6.heap.size, 0, none⟩ = some (.slice A6 (n1 + 1) c6) := (hbl.cell (p := ⟨w6.heap.size, 0, none⟩) (by have := HZ6.out; show w6.heap.size < _; omega)).trans x6
          have hb6 := bb6.trans (hbl.mono bb6.size)
          clear hbl
          go_wp2_with fail
          go_ret
          exact ⟨rfl, hb6⟩

end Go.Proofs.Ytmehfclhmbhjaaa
