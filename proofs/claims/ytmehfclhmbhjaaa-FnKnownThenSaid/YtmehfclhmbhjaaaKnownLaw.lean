/-
  The walk of the law FnKnownThen: what was known at some time does not change when more becomes known. Conditions: none.
-/
import Derived.Test.YtmehfclhmbhjaaaDrawStore
import Derived.Test.YtmehfclhmbhjaaaStoreAsOf2
import Derived.Test.YtmehfclhmbhjaaaValueAt2
import Derived.Test.YtmehfclhmbhjaaaPlaces
namespace Go.Proofs.Ytmehfclhmbhjaaa
open Go.RowKit
set_option linter.unusedVariables false
set_option maxRecDepth 4000

theorem bytes_mono {w : World} {base base' : Nat} {A : Option Addr} {n : Nat} (h : Bytes w base A n) (hb : base ≤ base') : Bytes w base' A n := fun j hj => by
  obtain ⟨b, off, y, h1, h2, h3⟩ := h j hj
  exact ⟨b, off, y, h1, Nat.lt_of_lt_of_le h2 hb, h3⟩
theorem selL_mem {F : Nat → Nat → Int} {kn : Int} {n i : Nat} (hi : i < (selL F kn n).length) : (selL F kn n).getD i 0 < n ∧ (∀ j, j < i → (selL F kn n).getD j 0 < (selL F kn n).getD i 0) := by
  have h1 : ∀ i (hi : i < (selL F kn n).length), (selL F kn n).getD i 0 = (selL F kn n)[i] := fun i hi => by rw [List.getD_eq_getElem?_getD, List.getElem?_eq_getElem hi]; rfl
  rw [h1 i hi]
  have hm : (selL F kn n)[i] ∈ selL F kn n := List.getElem_mem _
  have hs : List.Pairwise (· < ·) (selL F kn n) := List.Pairwise.filter _ List.pairwise_lt_range
  refine ⟨?_, fun j hj => ?_⟩
  · unfold selL at hm
    exact List.mem_range.1 (List.mem_filter.1 hm).1
  · rw [h1 j (by omega)]
    exact (List.pairwise_iff_getElem.1 hs) j i (by omega) hi hj
theorem drawnF_pick {F : Nat → Nat → Int} {n : Nat} {kn x : Int} (h : drawnF F n kn) : drawnF (pickF F (selL F x n)) (selL F x n).length kn := by
  intro i hi
  obtain ⟨a, b⟩ := selL_mem hi
  obtain ⟨h1, h2, h3, h4⟩ := h _ a
  exact ⟨h1, h2, h3, fun j hj => h4 _ (b j hj)⟩
theorem valueAt_congr {F G : Nat → Nat → Int} {key m kn : Int} : ∀ n, (∀ i, i < n → ∀ j, F i j = G i j) → valueAt F key m kn n = valueAt G key m kn n
  | 0, _ => rfl
  | n + 1, h => by
    unfold valueAt vaB
    rw [h n (by omega) 0, h n (by omega) 1, h n (by omega) 2, h n (by omega) 3, h n (by omega) 4, valueAt_congr n fun i hi j => h i (by omega) j]
theorem knownThen {F : Nat → Nat → Int} {key m kn top : Int} : ∀ n, (∀ i, i < n → F i 3 ≤ top) → valueAt (pickF F (selL F kn n)) key m top (selL F kn n).length = valueAt F key m kn n
  | 0, _ => rfl
  | n + 1, h => by
    have ih := knownThen (F := F) (key := key) (m := m) (kn := kn) n fun i hi => h i (by omega)
    cases hk : keepB F kn n
    · rw [selL_no hk, ih]
      refine (valueAt_no ?_).symm
      unfold keepB at hk
      unfold vaB
      rw [hk]; simp
    · rw [selL_yes hk, List.length_append]
      show valueAt _ key m top ((selL F kn n).length + 1) = _
      have hc : valueAt (pickF F (selL F kn n ++ [n])) key m top (selL F kn n).length = valueAt F key m kn n := by
        rw [← ih]
        exact valueAt_congr _ fun i hi j => pickF_old hi
      have hb : vaB (pickF F (selL F kn n ++ [n])) key m top (selL F kn n).length = vaB F key m kn n := by
        unfold keepB at hk
        unfold vaB
        rw [pickF_new, pickF_new, pickF_new, pickF_new, hk, decide_eq_true (h n (by omega))]
      cases hv : vaB F key m kn n
      · rw [valueAt_no (hb.trans hv), valueAt_no hv, hc]
      · rw [valueAt_yes (hb.trans hv), valueAt_yes hv, pickF_new]

set_option maxHeartbeats 4000000 in
theorem walk_FnKnownThen (w : World) (A : Option Addr) (n cap : Nat) (z : List Int) (hr : IsRow .u8 w A n cap z) :
    Calls Try.prog 14 #[.slice A n cap] w fun e w' => e = .returned (.bool true) ∧ Below w.heap.size w w' := by
  have hb := bytes0_of_row hr
  clear hr
  cases hbig : decide (1048576 < n)
  case true =>
    go_enter Try.func14, Try.ntmps14
    go_wp2_with (go_at_call 47; refine (big_c _ _ _ _).mono ?_; rintro e w' ⟨rfl, rfl⟩)
    go_ret
    exact ⟨rfl, Below.refl _ _⟩
  case false =>
    have hn : n ≤ 2000000 := by have := of_decide_eq_false hbig; omega
    have HB := Lib.hid hb
    clear hb
    go_enter Try.func14, Try.ntmps14
    go_wp2_with fail
    refine (big_c _ _ _ _).mono ?_
    rintro e w' ⟨rfl, rfl⟩
    go_wp2_with fail
    refine (drawStore_c _ _ _ _ HB.out hn).mono ?_
    rintro e w1 ⟨A1, n1, c1, F, hn1, hd, rfl, V1, b1⟩
    obtain ⟨A1', c1', e1, t1⟩ := V1.tab
    obtain ⟨rfl, _, rfl⟩ : A1 = A1' ∧ n1 = n1 ∧ c1 = c1' := by injection e1 with x y z; exact ⟨x, rfl, z⟩
    have HD := Lib.hid hd
    have l1 : Below w1.heap.size w1 (w1.alloc (.cells #[.slice A1 n1 c1] 38)) := andAlloc (Below.refl _ _) _
    have s1 : (w1.alloc (.cells #[.slice A1 n1 c1] 38)).cell? ⟨w1.heap.size, 0, none⟩ = some (.slice A1 n1 c1) := by go_simp
    have z1 : (w1.alloc (.cells #[.slice A1 n1 c1] 38)).heap.size = w1.heap.size + 1 := by simp
    have H1 := Lib.hid (t1.keep l1)
    have bb := andThen b1 l1
    have HBB := Lib.hid (HB.out.below (bb.mono (Nat.le_refl _)))
    have hle := b1.size
    clear hd V1 e1 t1 b1 l1
    go_wp2_with fail
    generalize w1.alloc (.cells #[.slice A1 n1 c1] 38) = W1 at *
    refine (drawPlaces_c _ _ _ _ (bytes_mono HBB.out (by omega)) hn).mono ?_
    rintro e w2 ⟨v, zs, rfl, hl, hp, hown, hbel⟩
    obtain ⟨g, cp, rfl, hg1, hg2, hcp, hc⟩ := hown.form (by omega)
    have c0 := hc 0 (by omega)
    have q0 := hp zs[0] (List.getElem_mem _)
    generalize zs[0] = p0 at *
    obtain ⟨q00, q01⟩ := q0
    rw [hl] at hcp ⊢
    clear hc hown hp hl
    have a0 := Int.emod_nonneg p0 (show (120 : Int) ≠ 0 by decide)
    have a1 := Int.emod_lt_of_pos p0 (show (0 : Int) < 120 by decide)
    have s2 := cell_later hbel s1
    have H2 := Lib.hid (H1.out.keep (hbel.mono (by omega)))
    have bb2 := andThen bb hbel
    have zz2 := hbel.size
    have HLE := Lib.hid (And.intro hle (And.intro z1 zz2))
    clear H1 s1 bb hbel HBB HB
    go_wp2_with fail
    generalize p0 % 120 = kn at *
    clear c0 q00 q01
    refine (implStoreAsOf_c _ _ _ _ F kn _ H2.out (by omega) (by omega)).mono ?_
    rintro e w3 ⟨A3, c3, rfl, V3, b3⟩
    have hsl := selL_len F kn n1
    have hst : storeB (selL F kn n1).length (pickF F (selL F kn n1)) = true := storeB_drawn (drawnF_pick HD.out) (by omega) (by omega)
    have hkt : ∀ key m, valueAt (pickF F (selL F kn n1)) key m 3599 (selL F kn n1).length = valueAt F key m kn n1 := fun key m => knownThen n1 fun i hi => by have := (HD.out i hi).2.2.1; omega
    generalize (selL F kn n1).length = q3 at *
    generalize pickF F (selL F kn n1) = G at *
    obtain ⟨A3', c3', e3, t3⟩ := V3.tab
    obtain ⟨rfl, _, rfl⟩ : A3 = A3' ∧ q3 = q3 ∧ c3 = c3' := by injection e3 with x y z; exact ⟨x, rfl, z⟩
    have l3 : Below w3.heap.size w3 (w3.alloc (.cells #[.slice A3 q3 c3] 38)) := andAlloc (Below.refl _ _) _
    have x3 : (w3.alloc (.cells #[.slice A3 q3 c3] 38)).cell? ⟨w3.heap.size, 0, none⟩ = some (.slice A3 q3 c3) := by go_simp
    have z3 : (w3.alloc (.cells #[.slice A3 q3 c3] 38)).heap.size = w3.heap.size + 1 := by simp
    have H3 := Lib.hid (t3.keep l3)
    have bl3 := andThen b3 l3
    have s3 := cell_later bl3 s2
    have H4 := Lib.hid (H2.out.keep (bl3.mono (by omega)))
    have bb3 := andThen bb2 bl3
    have HS := Lib.hid hst
    have HK := Lib.hid hkt
    have zz3 := b3.size
    clear V3 e3 t3 l3 b3 H2 s2 bb2 hst hkt
    go_wp2_with fail
    generalize w3.alloc (.cells #[.slice A3 q3 c3] 38) = W3 at *
    go_loopw [7] (fun k wr => ∃ y : Int, 1 ≤ y ∧ y ≤ 5 ∧ k = .int .i64 y ∧ Below W3.heap.size W3 wr) (fun k _ => (5 - intOf k).toNat)
    case atStart => exact ⟨1, by omega, by omega, rfl, Below.refl _ _⟩
    case round =>
      obtain ⟨y, hy0, hy1, rfl, hbl⟩ := hrel
      by_cases hy : y < 5
      · obtain ⟨wo, rfl⟩ : ∃ wo : World, wo = wr := ⟨_, rfl⟩
        have hy4 : decide (y ≤ 4) = true := decide_eq_true (by omega)
        go_wp2_with fail
        go_loopw [8] (fun m wr => ∃ M : Int, 0 ≤ M ∧ M ≤ 106 ∧ m = .int .i64 M ∧ Below W3.heap.size W3 wr) (fun m _ => (107 - intOf m).toNat)
        case atStart => exact ⟨0, by omega, by omega, rfl, hbl⟩
        case round =>
          clear hbl
          obtain ⟨M, hM0, hM1, rfl, hbl⟩ := hrel
          by_cases hlt : M < 100
          · have s4 : wr.cell? ⟨w1.heap.size, 0, none⟩ = some (.slice A1 n1 c1) := (hbl.cell (p := ⟨w1.heap.size, 0, none⟩) (by have := HLE.out; show w1.heap.size < _; omega)).trans s3
            have x4 : wr.cell? ⟨w3.heap.size, 0, none⟩ = some (.slice A3 q3 c3) := (hbl.cell (p := ⟨w3.heap.size, 0, none⟩) (by show w3.heap.size < _; omega)).trans x3
            have hsz := hbl.size
            have hk1 := HK.out y M
            obtain ⟨x, o, hv⟩ : ∃ x o, valueAt F y M kn n1 = (x, o) := ⟨_, _, rfl⟩
            rw [hv] at hk1
            have HV := Lib.hid (And.intro hv hk1)
            clear hv hk1
            go_wp2_with fail
            refine (implValueAt_c w1.heap.size _ _ _ F y M kn _ (H4.out.keep (hbl.mono (by omega))) (by omega) (by omega)).mono ?_
            rintro e w4 ⟨rfl, b4⟩
            rw [HV.out.1]
            have x5 := cell_later b4 x4
            have hb5 := Below.trans hbl (b4.mono hsz)
            have hs5 := hb5.size
            clear b4 s4 x4 hbl
            cases o
            all_goals
              go_wp2_with fail
              refine (implValueAt_c W3.heap.size _ _ _ G y M 3599 _ ((H3.out.more (by omega)).keep (hb5.mono (by omega))) (by omega) (by omega)).mono ?_
              rintro e w5 ⟨rfl, b5⟩
              rw [HV.out.2]
              have hb6 := Below.trans hb5 (b5.mono hs5)
              clear b5 x5 hb5
              go_wp2_with fail
              go_roundw
              case rel => exact ⟨M + 7, by omega, by omega, rfl, hb6⟩
              case measure => simp [intOf]; omega
          · go_wp2_with fail
            go_roundw
            case rel => exact ⟨y + 1, by omega, by omega, rfl, hbl⟩
            case measure => simp [intOf]; omega
      · obtain rfl : y = 5 := by omega
        have x4 : wr.cell? ⟨w3.heap.size, 0, none⟩ = some (.slice A3 q3 c3) := (hbl.cell (p := ⟨w3.heap.size, 0, none⟩) (by show w3.heap.size < _; omega)).trans x3
        have hsz := hbl.size
        go_wp2_with fail
        refine (implStoreOk_c W3.heap.size _ _ _ G _ ((H3.out.more (by omega)).keep hbl) (by omega) (by omega)).mono ?_
        rintro e w5 ⟨rfl, b5⟩
        rw [HS.out]
        have hb6 := bb3.trans ((Below.trans hbl (b5.mono hsz)).mono bb3.size)
        clear hbl b5 x4
        go_wp2_with fail
        go_ret
        exact ⟨rfl, hb6⟩

end Go.Proofs.Ytmehfclhmbhjaaa
