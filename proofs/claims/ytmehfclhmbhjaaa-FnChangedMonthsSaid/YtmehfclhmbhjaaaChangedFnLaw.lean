/-
  The walk of the law FnChangedMonths: the changed months are exactly those in which the values differ. Conditions: none.
-/
import Derived.Test.YtmehfclhmbhjaaaDrawStore
import Derived.Test.YtmehfclhmbhjaaaChanged
import Derived.Test.YtmehfclhmbhjaaaPlaces
namespace Go.Proofs.Ytmehfclhmbhjaaa
open Go.RowKit
set_option linter.unusedVariables false
set_option maxRecDepth 4000

theorem bytes_mono' {w : World} {base base' : Nat} {A : Option Addr} {n : Nat} (h : Bytes w base A n) (hb : base ≤ base') : Bytes w base' A n := fun j hj => by
  obtain ⟨b, off, y, h1, h2, h3⟩ := h j hj
  exact ⟨b, off, y, h1, Nat.lt_of_lt_of_le h2 hb, h3⟩
theorem valueAt_late {F : Nat → Nat → Int} {n : Nat} {kn key m x : Int} (h : drawnF F n kn) (hm : 100 ≤ m) : valueAt F key m x n = (0, false) := by
  rw [valueAt_skip (k := 0) n (Nat.zero_le _) fun i _ hi => by
    obtain ⟨⟨a1, a2, a3, a4, a5, a6, a7, a8⟩, _⟩ := h i hi
    unfold vaB
    rw [decide_eq_false (show ¬ m < F i 2 by omega)]
    simp]
  rfl
theorem chB_late {F : Nat → Nat → Int} {n : Nat} {kn key a b : Int} {m : Nat} (h : drawnF F n kn) (hm : 100 ≤ m) : chB F n key a b m = false := by
  unfold chB
  rw [valueAt_late h (by omega), valueAt_late h (by omega)]
  rfl
theorem chB_same {F : Nat → Nat → Int} {n : Nat} {key a : Int} {m : Nat} : chB F n key a a m = false := by
  unfold chB
  simp
theorem chL_same {F : Nat → Nat → Int} {n : Nat} {key a : Int} : ∀ m, chL F n key a a m = []
  | 0 => rfl
  | m + 1 => by rw [chL_no chB_same, chL_same m]
theorem chL_flat {F : Nat → Nat → Int} {n : Nat} {kn key a b : Int} (h : drawnF F n kn) : ∀ d, chL F n key a b (120 + d) = chL F n key a b 120
  | 0 => rfl
  | d + 1 => by
    show chL F n key a b (120 + d + 1) = _
    rw [chL_no (chB_late h (by omega)), chL_flat h d]
theorem chL_prefix {F : Nat → Nat → Int} {n : Nat} {key a b : Int} (m : Nat) : ∀ d, chL F n key a b m <+: chL F n key a b (m + d)
  | 0 => List.prefix_rfl
  | d + 1 => by
    show _ <+: chL F n key a b (m + d + 1)
    refine (chL_prefix m d).trans ?_
    cases hc : chB F n key a b (m + d)
    · rw [chL_no hc]; exact List.prefix_rfl
    · rw [chL_yes hc]; exact List.prefix_append _ _
theorem chL_le {F : Nat → Nat → Int} {n : Nat} {key a b : Int} {m M : Nat} (h : m ≤ M) : (chL F n key a b m).length ≤ (chL F n key a b M).length := by
  have := (chL_prefix (F := F) (n := n) (key := key) (a := a) (b := b) m (M - m)).length_le
  rw [show m + (M - m) = M by omega] at this
  exact this
theorem chL_at {F : Nat → Nat → Int} {n : Nat} {key a b : Int} {m M : Nat} (h : m < M) (hc : chB F n key a b m = true) :
    ∃ hl : (chL F n key a b m).length < (chL F n key a b M).length, (chL F n key a b M)[(chL F n key a b m).length] = (m : Int) := by
  have h1 := chL_prefix (F := F) (n := n) (key := key) (a := a) (b := b) (m + 1) (M - (m + 1))
  rw [show m + 1 + (M - (m + 1)) = M by omega, chL_yes hc] at h1
  have h2 := h1.length_le
  rw [List.length_append] at h2
  have h3 : (chL F n key a b m).length < (chL F n key a b M).length := by simp at h2; omega
  refine ⟨h3, ?_⟩
  rw [← h1.getElem (by simp)]
  simp
theorem changed_drawn {F : Nat → Nat → Int} {n : Nat} {kn key a b : Int} (h : drawnF F n kn) (hn : n ≤ 9) (hk : kn ≤ 3599) (h1 : 1 ≤ key ∧ key ≤ 4) (h2 : 0 ≤ a ∧ a < 100) (h3 : 0 ≤ b ∧ b < 100) : changed F n key a b = chL F n key a b 120 := by
  unfold changed
  rw [storeB_drawn h (by omega) hk, inB_true h1.1 (by omega), inB_true h2.1 (by omega), inB_true h3.1 (by omega)]
  exact chL_flat h 3480

set_option maxHeartbeats 4000000 in
theorem walk_FnChangedMonths (w : World) (A : Option Addr) (n cap : Nat) (z : List Int) (hr : IsRow .u8 w A n cap z) :
    Calls Try.prog 12 #[.slice A n cap] w fun e w' => e = .returned (.bool true) ∧ Below w.heap.size w w' := by
  have hb := bytes0_of_row hr
  clear hr
  cases hbig : decide (1048576 < n)
  case true =>
    go_enter Try.func12, Try.ntmps12
    go_wp2_with (go_at_call 47; refine (big_c _ _ _ _).mono ?_; rintro e w' ⟨rfl, rfl⟩)
    go_ret
    exact ⟨rfl, Below.refl _ _⟩
  case false =>
    have hn : n ≤ 2000000 := by have := of_decide_eq_false hbig; omega
    have HB := Lib.hid hb
    clear hb
    go_enter Try.func12, Try.ntmps12
    go_wp2_with fail
    refine (big_c _ _ _ _).mono ?_
    rintro e w' ⟨rfl, rfl⟩
    go_wp2_with fail
    refine (drawStore_c _ _ _ _ HB.out hn).mono ?_
    rintro e w1 ⟨A1, n1, c1, F, hn1, hd, rfl, V1, b1⟩
    obtain ⟨A1', c1', e1, t1⟩ := V1.tab
    obtain ⟨rfl, _, rfl⟩ : A1 = A1' ∧ n1 = n1 ∧ c1 = c1' := by injection e1 with x y z; exact ⟨x, rfl, z⟩
    have HD := Lib.hid hd
    have l1 : Below w1.heap.size w1 (w1.alloc (.cells #[.slice A1 n1 c1] 38)) := andAlloc (Below.refl _ _) _
    have s1 : (w1.alloc (.cells #[.slice A1 n1 c1] 38)).cell? ⟨w1.heap.size, 0, none⟩ = some (.slice A1 n1 c1) := by go_simp
    have z1 : (w1.alloc (.cells #[.slice A1 n1 c1] 38)).heap.size = w1.heap.size + 1 := by simp
    have H1 := Lib.hid (t1.keep l1)
    have bb := andThen b1 l1
    have HBB := Lib.hid (HB.out.below (bb.mono (Nat.le_refl _)))
    have hle := b1.size
    clear hd V1 e1 t1 b1 l1
    go_wp2_with fail
    generalize w1.alloc (.cells #[.slice A1 n1 c1] 38) = W1 at *
    refine (drawPlaces_c _ _ _ _ (bytes_mono' HBB.out (by omega)) hn).mono ?_
    rintro e w2 ⟨v, zs, rfl, hl, hp, hown, hbel⟩
    obtain ⟨g, cp, rfl, hg1, hg2, hcp, hc⟩ := hown.form (by omega)
    have c0 := hc 0 (by omega)
    have c1' := hc 1 (by omega)
    have c2' := hc 2 (by omega)
    have q0 := hp zs[0] (List.getElem_mem _)
    have q1 := hp zs[1] (List.getElem_mem _)
    have q2 := hp zs[2] (List.getElem_mem _)
    generalize zs[0] = p0 at *
    generalize zs[1] = p1 at *
    generalize zs[2] = p2 at *
    obtain ⟨q00, q01⟩ := q0
    obtain ⟨q10, q11⟩ := q1
    obtain ⟨q20, q21⟩ := q2
    rw [hl] at hcp ⊢
    clear hc hown hp hl
    have a0 := Int.emod_nonneg p0 (show (100 : Int) ≠ 0 by decide)
    have a1 := Int.emod_lt_of_pos p0 (show (0 : Int) < 100 by decide)
    have b0 := Int.emod_nonneg p1 (show (100 : Int) ≠ 0 by decide)
    have b1 := Int.emod_lt_of_pos p1 (show (0 : Int) < 100 by decide)
    have k0 := Int.emod_nonneg p2 (show (4 : Int) ≠ 0 by decide)
    have k1 := Int.emod_lt_of_pos p2 (show (0 : Int) < 4 by decide)
    have s2 := cell_later hbel s1
    have H2 := Lib.hid (H1.out.keep (hbel.mono (by omega)))
    have bb2 := andThen bb hbel
    have zz2 := hbel.size
    have HLE := Lib.hid (And.intro hle (And.intro z1 zz2))
    clear H1 s1 bb hbel HBB HB
    go_wp2_with fail
    obtain ⟨key, hkey⟩ : ∃ key : Int, 1 + p2 % 4 = key := ⟨_, rfl⟩
    rw [hkey]
    have hk1 : 1 ≤ key := by omega
    have hk4 : key ≤ 4 := by omega
    clear hkey k0 k1
    generalize p0 % 100 = a at *
    generalize p1 % 100 = b at *
    clear c0 q00 q01 c1' q10 q11 c2' q20 q21
    refine (implChanged_c _ _ _ _ F key a b _ H2.out (by omega) (by omega)).mono ?_
    rintro e w3 ⟨v3, rfl, o3, b3⟩
    have r3 := o3.reads
    rw [changed_drawn HD.out hn1 (by omega) ⟨hk1, hk4⟩ ⟨a0, a1⟩ ⟨b0, b1⟩] at r3
    have hlen := chL_len F n1 key a b 120
    obtain ⟨A3, c3, rfl, hr3⟩ := r3
    have hat : ∀ M, M < 120 → chB F n1 key a b M = true → (chL F n1 key a b M).length < (chL F n1 key a b 120).length ∧ ∃ (g off : Nat), A3 = some ⟨g, off, none⟩ ∧ g < w3.heap.size ∧ w3.cell? ⟨g, off + (chL F n1 key a b M).length, none⟩ = some (.int .i64 (M : Int)) := by
      intro M hM hc
      obtain ⟨hl, he⟩ := chL_at hM hc
      obtain ⟨g, off, e1, e2, e3⟩ := hr3 _ hl
      exact ⟨hl, g, off, e1, e2, by rw [e3, he]⟩
    have hle2 : ∀ M, M ≤ 120 → (chL F n1 key a b M).length ≤ M ∧ (chL F n1 key a b M).length ≤ (chL F n1 key a b 120).length := fun M hM => ⟨chL_len _ _ _ _ _ _, chL_le hM⟩
    have h0 : (chL F n1 key a b 0).length = 0 := rfl
    clear hr3 o3
    generalize hT : (chL F n1 key a b 120).length = T at *
    have HT := Lib.hid hT
    have HA := Lib.hid hat
    have HL := Lib.hid hle2
    have H0 := Lib.hid h0
    have s3 := cell_later b3 s2
    have H3 := Lib.hid (H2.out.keep (b3.mono (by omega)))
    have bb3 := andThen bb2 b3
    have zz3 := b3.size
    clear hT hat hle2 h0 H2 s2 bb2 b3
    go_wp2_with fail
    go_loopw [9, 10] (fun k m wr => ∃ M : Nat, M ≤ 120 ∧ m = .int .i64 M ∧ k = .int .i64 ((chL F n1 key a b M).length : Int) ∧ Below w3.heap.size w3 wr) (fun _ m _ => (120 - intOf m).toNat)
    case atStart => exact ⟨0, by omega, rfl, by rw [H0.out]; rfl, Below.refl _ _⟩
    case round =>
      obtain ⟨M, hM, rfl, rfl, hbl⟩ := hrel
      have s4 : wr.cell? ⟨w1.heap.size, 0, none⟩ = some (.slice A1 n1 c1) := (hbl.cell (p := ⟨w1.heap.size, 0, none⟩) (by have := HLE.out; show w1.heap.size < _; omega)).trans s3
      have hsz := hbl.size
      by_cases hlt : M < 120
      · obtain ⟨x, o1, hx⟩ : ∃ x o, valueAt F key M a n1 = (x, o) := ⟨_, _, rfl⟩
        obtain ⟨y, o2, hy⟩ : ∃ x o, valueAt F key M b n1 = (x, o) := ⟨_, _, rfl⟩
        have HB : Hid (chB F n1 key a b M = (!(x == y) || !(o1 == o2))) := by show _ = _; unfold chB; rw [hx, hy]
        have HX := Lib.hid hx
        have HY := Lib.hid hy
        clear hx hy
        go_wp2_with fail
        refine (specValueAt_c w1.heap.size _ _ _ F key M a _ (H3.out.keep (hbl.mono (by omega))) (by omega) (by omega)).mono ?_
        rintro e w4 ⟨rfl, b4⟩
        rw [HX.out]
        have s5 := cell_later b4 s4
        have hb5 := Below.trans hbl (b4.mono hsz)
        have hs5 := hb5.size
        clear b4 s4 hbl
        go_wp2_with fail
        refine (specValueAt_c w1.heap.size _ _ _ F key M b _ (H3.out.keep (hb5.mono (by omega))) (by omega) (by omega)).mono ?_
        rintro e w5 ⟨rfl, b5⟩
        rw [HY.out]
        have hb6 := Below.trans hb5 (b5.mono hs5)
        clear b5 s5 hb5
        cases e0 : (x == y) <;> cases e1 : o1 <;> cases e2 : o2
        all_goals
          rw [e0, e1, e2] at HB
          clear e1 e2
          first
          | (have HN := Lib.hid (chL_no HB.out)
             go_wp2_with fail
             go_roundw
             case rel => exact ⟨M + 1, by omega, by go_num, by rw [HN.out], hb6⟩
             case measure => simp [intOf]; omega)
          | (have HN := Lib.hid (chL_yes HB.out)
             obtain ⟨hq, gL, off, rfl, hgL, hcL⟩ := HA.out M hlt HB.out
             have hcL5 := (hb6.cell (p := ⟨gL, off + (chL F n1 key a b M).length, none⟩) hgL).trans hcL
             have hq1 := (HL.out M hM).1
             generalize hQ : (chL F n1 key a b M).length = q at *
             have HQ := Lib.hid hQ
             clear hQ hcL
             go_wp2_with fail
             go_roundw
             case rel => exact ⟨M + 1, by omega, by go_num, by rw [HN.out, List.length_append, HQ.out]; rfl, hb6⟩
             case measure => simp [intOf]; omega)
      · obtain rfl : M = 120 := by omega
        have hq : (chL F n1 key a b 120).length = T := HT.out
        rw [hq]
        clear hq
        have hcs : changed F n1 key a a = [] := by rw [changed_drawn HD.out hn1 (by omega) ⟨hk1, hk4⟩ ⟨a0, a1⟩ ⟨a0, a1⟩, chL_same]
        have HCS := Lib.hid hcs
        clear hcs
        go_wp2_with fail
        refine (implChanged_c w1.heap.size _ _ _ F key a a _ (H3.out.keep (hbl.mono (by omega))) (by omega) (by omega)).mono ?_
        rintro e w4 ⟨v4, rfl, o4, b4⟩
        rw [HCS.out] at o4
        obtain ⟨A4, c4, rfl, _⟩ := o4.reads
        have hb6 := bb3.trans ((Below.trans hbl (b4.mono hsz)).mono bb3.size)
        clear hbl b4 s4 o4
        go_wp2_with fail
        go_ret
        exact ⟨rfl, hb6⟩

end Go.Proofs.Ytmehfclhmbhjaaa
