/-
  ChangedMonths of both packages returns the months in which two states of knowledge differ, in a new row. Conditions: the facts can be read.
-/
import Derived.Test.YtmehfclhmbhjaaaStoreOk
import Derived.Test.YtmehfclhmbhjaaaValueAt2
import Derived.Test.YtmehfclhmbhjaaaInts
namespace Go.Proofs.Ytmehfclhmbhjaaa
open Go.RowKit
set_option linter.unusedVariables false
set_option maxRecDepth 4000

def chB (F : Nat → Nat → Int) (n : Nat) (key a b : Int) (m : Nat) : Bool := !((valueAt F key m a n).1 == (valueAt F key m b n).1) || !((valueAt F key m a n).2 == (valueAt F key m b n).2)
def chL (F : Nat → Nat → Int) (n : Nat) (key a b : Int) : Nat → List Int
  | 0 => []
  | k + 1 => if chB F n key a b k = true then chL F n key a b k ++ [(k : Int)] else chL F n key a b k
theorem chL_len (F : Nat → Nat → Int) (n : Nat) (key a b : Int) : ∀ k, (chL F n key a b k).length ≤ k
  | 0 => by simp [chL]
  | k + 1 => by
    have := chL_len F n key a b k
    unfold chL
    split
    · rw [List.length_append]; simp; omega
    · omega
theorem chL_yes {F : Nat → Nat → Int} {n : Nat} {key a b : Int} {k : Nat} (h : chB F n key a b k = true) : chL F n key a b (k + 1) = chL F n key a b k ++ [(k : Int)] := by
  conv => lhs; unfold chL
  rw [if_pos h]
theorem chL_no {F : Nat → Nat → Int} {n : Nat} {key a b : Int} {k : Nat} (h : chB F n key a b k = false) : chL F n key a b (k + 1) = chL F n key a b k := by
  conv => lhs; unfold chL
  rw [if_neg (by simp [h])]
def changed (F : Nat → Nat → Int) (n : Nat) (key a b : Int) : List Int := if (storeB n F && (inB key 1 50 && (inB a 0 3599 && inB b 0 3599))) = true then chL F n key a b 3600 else []
theorem changed_len (F : Nat → Nat → Int) (n : Nat) (key a b : Int) : (changed F n key a b).length ≤ 3600 := by
  unfold changed
  split
  · exact chL_len _ _ _ _ _ _
  · simp

theorem own_lit {w : World} {g base : Nat} (hg : w.heap.size = g) (hb : base ≤ g) : OwnInts (w.alloc (.cells #[] 3)) base (.slice (some ⟨g, 0, none⟩) 0 0) [] := by
  subst hg
  exact World.ownsRow_lit (base := base) (e := 3) (size := 1) w #[] 0 hb (by decide) rfl
theorem OwnInts.less {w : World} {base b : Nat} {v : Value} {zs : List Int} (h : OwnInts w base v zs) (hb : b ≤ base) : OwnInts w b v zs := by
  obtain ⟨hl, hor⟩ := h
  refine ⟨hl, ?_⟩
  rcases hor with hor | ⟨g, cp, cur, e1, e2, e3⟩
  · exact .inl hor
  · exact .inr ⟨g, cp, cur, e1, by omega, e3⟩

/-- A result that is a new row of integers. -/
def RowEnd (zs : List Int) (w : World) (e : Ending) (w' : World) : Prop := ∃ v, e = .returned v ∧ OwnInts w' w.heap.size v zs ∧ Below w.heap.size w w'

theorem implMO (m : Int) (w : World) : Calls Try.prog 75 #[.int .i64 m] w fun e w' => e = .returned (.bool (inB m 0 3599)) ∧ w = w' := implMonthOk_c m w


set_option maxRecDepth 20000 in
set_option maxHeartbeats 8000000 in
theorem implChanged_c (L : Nat) (A : Option Addr) (n cap : Nat) (F : Nat → Nat → Int) (key a b : Int) (w : World) (h1 : Tab 5 w L A n F) (hL : L ≤ w.heap.size) (hn : n ≤ 1048577) :
    Calls Try.prog 39 #[.agg #[.slice A n cap], .int .i64 key, .int .i64 a, .int .i64 b] w (RowEnd (changed F n key a b) w) := by
  obtain ⟨i0, hi, hz0, hz1, hz2⟩ := info_parts info_int
  have L0 : Below w.heap.size w (w.alloc (.cells #[.slice A n cap] 38)) := andAlloc (Below.refl _ _) _
  have B0 : (w.alloc (.cells #[.slice A n cap] 38)).cell? ⟨w.heap.size, 0, none⟩ = some (.slice A n cap) := by go_simp
  have S0 := Lib.hid (show (w.alloc (.cells #[.slice A n cap] 38)).heap.size = w.heap.size + 1 by simp)
  have H1 := Lib.hid (h1.keep (L0.mono hL))
  have HC := Lib.hid (implStoreOk_c L A n cap F _ (H1.out) (by have := S0.out; omega) hn)
  clear h1
  cases q1 : storeB n F <;> cases q2 : inB key 1 50 <;> cases q3 : inB a 0 3599 <;> cases q4 : inB b 0 3599
  case true.true.true.true =>
    obtain ⟨N, hN⟩ : ∃ N : Nat, N = 3600 := ⟨_, rfl⟩
    have HS : Hid (changed F n key a b = chL F n key a b N) := by show _ = _; unfold changed; rw [q1, q2, q3, q4, hN]; rfl
    have HN3 := Lib.hid hN
    clear hN
    rw [q1] at HC
    clear q1
    go_enter Try.func39, Try.ntmps39
    go_wp2_with fail
    generalize w.alloc (.cells #[.slice A n cap] 38) = W1 at L0 B0 S0 H1 HC ⊢
    go_wp2_with (first
      | (go_at_call 25; refine HC.out.mono ?_; rintro e w1 ⟨rfl, b1⟩; have sl1 := cell_later b1 B0)
      | (go_at_call 65; refine (within_c _ _ _ _).mono ?_; rintro e w' ⟨rfl, rfl⟩)
      | (go_at_call 75; refine (implMonthOk_c _ _).mono ?_; rintro e w' ⟨rfl, rfl⟩))
    have hw1 : w.heap.size ≤ W1.heap.size := by have := S0.out; omega
    have hL1 : L ≤ W1.heap.size := by omega
    clear q2 q3 q4 sl1
    go_loopw [9, 34] (fun v i wr => ∃ k : Nat, k ≤ 3600 ∧ i = .int .i64 k ∧ OwnInts wr W1.heap.size v (chL F n key a b k) ∧ Below W1.heap.size W1 wr) (fun _ i _ => 3600 - (intOf i).toNat)
    case atStart => exact ⟨0, by omega, rfl, own_lit rfl (b1.size), andAlloc b1 _⟩
    case round =>
      obtain ⟨k, hk, rfl, hown, hbl⟩ := hrel
      have sl : wr.cell? ⟨w.heap.size, 0, none⟩ = some (.slice A n cap) := (hbl.cell (p := ⟨w.heap.size, 0, none⟩) (by have := S0.out; show w.heap.size < _; omega)).trans B0
      have hcl := chL_len F n key a b k
      have hbz := hbl.size
      by_cases hlt : k < 3600
      · obtain ⟨x, o1, hx⟩ : ∃ x o, valueAt F key k a n = (x, o) := ⟨_, _, rfl⟩
        obtain ⟨y, o2, hy⟩ : ∃ x o, valueAt F key k b n = (x, o) := ⟨_, _, rfl⟩
        have HX := Lib.hid hx
        have HY := Lib.hid hy
        have HB : Hid (chB F n key a b k = (!(x == y) || !(o1 == o2))) := by show _ = _; unfold chB; rw [hx, hy]
        have k0 : (0 : Int) ≤ (k : Int) := by omega
        have k1 : (k : Int) < 3600 := by omega
        have k2 : (k : Int) ≤ 3599 := by omega
        have HO := Lib.hid hown
        clear hx hy hown
        cases e0 : (x == y) <;> cases e1 : o1 <;> cases e2 : o2
        all_goals
          rw [e1] at HX
          rw [e2] at HY
          rw [e0, e1, e2] at HB
          have e3 : (x != y) = !(x == y) := rfl
          rw [e0] at e3
          clear e1 e2
          go_wp2_with fail
          refine (implValueAt_c L _ _ _ F key k a _ (H1.out.keep (hbl.mono (by omega))) (by omega) hn).mono ?_
          rintro e w2 ⟨rfl, b2⟩
          rw [HX.out]
          have sl2 := cell_later b2 sl
          have hb2 := Below.trans hbl (b2.mono (by omega))
          have hs2 := b2.size
          have HO2 := Lib.hid (HO.out.below b2)
          clear b2
          go_wp2_with fail
          refine (implValueAt_c L _ _ _ F key k b _ (H1.out.keep (hb2.mono (by omega))) (by omega) hn).mono ?_
          rintro e w3 ⟨rfl, b3⟩
          rw [HY.out]
          have hb3 := Below.trans hb2 (b3.mono (by omega))
          have hs3 := b3.size
          have hown3 := HO2.out.below b3
          clear b3 hb2 HO2 HO sl sl2
          first
          | (have HN := Lib.hid (chL_no HB.out)
             have HOO := Lib.hid hown3
             clear hown3
             go_wp2_with fail
             go_roundw
             case rel => exact ⟨k + 1, by omega, by go_num, by rw [HN.out]; exact HOO.out, hb3⟩
             case measure => simp [intOf]; omega)
          | (have HN := Lib.hid (chL_yes HB.out)
             have hlt3 := World.ownsRow.lt hown3
             go_wp2_with (at_builtin; refine wpList_append_own _ rfl _ _ 57 rfl W1.heap.size 3 i0 (.int .i64 0) 1 8 Try.underlying57 hi hz0 hz1 hz2 rfl (by decide) _ _ _ rfl (hown3.alloc _) ⟨w3.heap.size, 0, none⟩ 1 1 [.int .i64 (k : Int)] rfl rfl (one_news w3 (.int .i64 (k : Int)) 3) (one_cell (k : Int)) (by unfold maxLen; omega) (by omega) (by simp; omega) ?_)
             intro v' w4 hown4 hg4 _
             have hown5 := own_push hown4
             have hbl5 := (hb3.alloc (by omega) (.cells #[.int .i64 (k : Int)] 3)).grown hg4 (by simp; omega) (fun j hj => (hlt3 j hj).1)
             clear hown4 hg4 hlt3 hown3 hb3
             go_wp2
             go_roundw
             case rel => exact ⟨k + 1, by omega, by go_num, by rw [HN.out]; exact hown5, hbl5⟩
             case measure => simp [intOf]; omega)
      · obtain rfl : k = N := by have := HN3.out; omega
        go_wp2
        go_ret
        exact ⟨_, rfl, by rw [HS.out]; exact hown.less (by omega), L0.trans (hbl.mono (by omega))⟩
  all_goals
    have HS : Hid (changed F n key a b = []) := by show _ = _; unfold changed; rw [q1, q2, q3, q4]; rfl
    rw [q1] at HC
    clear q1
    go_enter Try.func39, Try.ntmps39
    go_wp2_with fail
    generalize w.alloc (.cells #[.slice A n cap] 38) = W1 at L0 B0 S0 H1 HC ⊢
    go_wp2_with (first
      | (go_at_call 25; refine HC.out.mono ?_; rintro e w1 ⟨rfl, b1⟩; have sl1 := cell_later b1 B0)
      | (go_at_call 65; refine (within_c _ _ _ _).mono ?_; rintro e w' ⟨rfl, rfl⟩)
      | (go_at_call 75; refine (implMonthOk_c _ _).mono ?_; rintro e w' ⟨rfl, rfl⟩))
    go_ret
    exact ⟨_, rfl, by rw [HS.out]; exact World.ownsRow_nil _ _ _ _, andThen L0 b1⟩


set_option maxRecDepth 20000 in
set_option maxHeartbeats 8000000 in
theorem specChanged_c (L : Nat) (A : Option Addr) (n cap : Nat) (F : Nat → Nat → Int) (key a b : Int) (w : World) (h1 : Tab 5 w L A n F) (hL : L ≤ w.heap.size) (hn : n ≤ 1048577) :
    Calls Try.prog 38 #[.agg #[.slice A n cap], .int .i64 key, .int .i64 a, .int .i64 b] w (RowEnd (changed F n key a b) w) := by
  obtain ⟨i0, hi, hz0, hz1, hz2⟩ := info_parts info_int
  have L0 : Below w.heap.size w ((w.alloc (.cells #[.slice A n cap] 38)).alloc (.cells #[] 3)) := andAlloc (andAlloc (Below.refl _ _) _) _
  have B0 : ((w.alloc (.cells #[.slice A n cap] 38)).alloc (.cells #[] 3)).cell? ⟨w.heap.size, 0, none⟩ = some (.slice A n cap) := by go_simp
  have S0 := Lib.hid (show ((w.alloc (.cells #[.slice A n cap] 38)).alloc (.cells #[] 3)).heap.size = w.heap.size + 1 + 1 by simp)
  have O0 : OwnInts ((w.alloc (.cells #[.slice A n cap] 38)).alloc (.cells #[] 3)) (w.heap.size + 1) (.slice (some ⟨w.heap.size + 1, 0, none⟩) 0 0) [] := own_lit (by simp) (Nat.le_refl _)
  have H1 := Lib.hid (h1.keep (L0.mono hL))
  have HC := Lib.hid (specStoreOk_c L A n cap F _ (H1.out) (by have := S0.out; omega) hn)
  clear h1
  cases q1 : storeB n F <;> cases q2 : inB key 1 50 <;> cases q3 : inB a 0 3599 <;> cases q4 : inB b 0 3599
  case true.true.true.true =>
    obtain ⟨N, hN⟩ : ∃ N : Nat, N = 3600 := ⟨_, rfl⟩
    have HS : Hid (changed F n key a b = chL F n key a b N) := by show _ = _; unfold changed; rw [q1, q2, q3, q4, hN]; rfl
    have HN3 := Lib.hid hN
    clear hN
    rw [q1] at HC
    clear q1
    go_enter Try.func38, Try.ntmps38
    go_wp2_with fail
    generalize (w.alloc (.cells #[.slice A n cap] 38)).alloc (.cells #[] 3) = W1 at L0 B0 S0 O0 H1 HC ⊢
    go_wp2_with (first
      | (go_at_call 23; refine HC.out.mono ?_; rintro e w1 ⟨rfl, b1⟩; have sl1 := cell_later b1 B0)
      | (go_at_call 62; refine (l01In_c _ _ _ _).mono ?_; rintro e w' ⟨rfl, rfl⟩)
      | (go_at_call 74; refine (specMonthOk_c _ _).mono ?_; rintro e w' ⟨rfl, rfl⟩))
    have hw1 : w.heap.size ≤ W1.heap.size := by have := S0.out; omega
    have hw2 : w.heap.size + 1 ≤ W1.heap.size := by have := S0.out; omega
    have hL1 : L ≤ W1.heap.size := by omega
    have hB1 : Below (w.heap.size + 1) W1 w1 := b1.mono hw2
    have O1 := O0.below b1
    clear q2 q3 q4 sl1 O0
    go_loopw [9, 10] (fun v i wr => ∃ k : Nat, k ≤ 3600 ∧ i = .int .i64 k ∧ OwnInts wr (w.heap.size + 1) v (chL F n key a b k) ∧ Below (w.heap.size + 1) W1 wr) (fun _ i _ => 3600 - (intOf i).toNat)
    case atStart => exact ⟨0, by omega, rfl, O1, hB1⟩
    case round =>
      obtain ⟨k, hk, rfl, hown, hbl⟩ := hrel
      have sl : wr.cell? ⟨w.heap.size, 0, none⟩ = some (.slice A n cap) := (hbl.cell (p := ⟨w.heap.size, 0, none⟩) (by have := S0.out; show w.heap.size < _; omega)).trans B0
      have hcl := chL_len F n key a b k
      have hbz := hbl.size
      by_cases hlt : k < 3600
      · obtain ⟨x, o1, hx⟩ : ∃ x o, valueAt F key k a n = (x, o) := ⟨_, _, rfl⟩
        obtain ⟨y, o2, hy⟩ : ∃ x o, valueAt F key k b n = (x, o) := ⟨_, _, rfl⟩
        have HX := Lib.hid hx
        have HY := Lib.hid hy
        have HB : Hid (chB F n key a b k = (!(x == y) || !(o1 == o2))) := by show _ = _; unfold chB; rw [hx, hy]
        have k0 : (0 : Int) ≤ (k : Int) := by omega
        have k1 : (k : Int) < 3600 := by omega
        have k2 : (k : Int) ≤ 3599 := by omega
        have HO := Lib.hid hown
        clear hx hy hown
        cases e0 : (x == y) <;> cases e1 : o1 <;> cases e2 : o2
        all_goals
          rw [e1] at HX
          rw [e2] at HY
          rw [e0, e1, e2] at HB
          have e3 : (x != y) = !(x == y) := rfl
          rw [e0] at e3
          clear e1 e2
          go_wp2_with fail
          refine (specValueAt_c L _ _ _ F key k a _ (H1.out.keep (hbl.mono (by omega))) (by omega) hn).mono ?_
          rintro e w2 ⟨rfl, b2⟩
          rw [HX.out]
          have sl2 := cell_later b2 sl
          have hb2 := Below.trans hbl (b2.mono (by omega))
          have hs2 := b2.size
          have HO2 := Lib.hid (HO.out.below b2)
          clear b2
          go_wp2_with fail
          refine (specValueAt_c L _ _ _ F key k b _ (H1.out.keep (hb2.mono (by omega))) (by omega) hn).mono ?_
          rintro e w3 ⟨rfl, b3⟩
          rw [HY.out]
          have hb3 := Below.trans hb2 (b3.mono (by omega))
          have hs3 := b3.size
          have hown3 := HO2.out.below b3
          clear b3 hb2 HO2 HO sl sl2
          first
          | (have HN := Lib.hid (chL_no HB.out)
             have HOO := Lib.hid hown3
             clear hown3
             go_wp2_with fail
             go_roundw
             case rel => exact ⟨k + 1, by omega, by go_num, by rw [HN.out]; exact HOO.out, hb3⟩
             case measure => simp [intOf]; omega)
          | (have HN := Lib.hid (chL_yes HB.out)
             have hlt3 := World.ownsRow.lt hown3
             go_wp2_with (at_builtin; refine wpList_append_own _ rfl _ _ 57 rfl (w.heap.size + 1) 3 i0 (.int .i64 0) 1 8 Try.underlying57 hi hz0 hz1 hz2 rfl (by decide) _ _ _ rfl (hown3.alloc _) ⟨w3.heap.size, 0, none⟩ 1 1 [.int .i64 (k : Int)] rfl rfl (one_news w3 (.int .i64 (k : Int)) 3) (one_cell (k : Int)) (by unfold maxLen; omega) (by omega) (by simp; omega) ?_)
             intro v' w4 hown4 hg4 _
             have hown5 := own_push hown4
             have hbl5 := (hb3.alloc (by omega) (.cells #[.int .i64 (k : Int)] 3)).grown hg4 (by simp; omega) (fun j hj => (hlt3 j hj).1)
             clear hown4 hg4 hlt3 hown3 hb3
             go_wp2
             go_roundw
             case rel => exact ⟨k + 1, by omega, by go_num, by rw [HN.out]; exact hown5, hbl5⟩
             case measure => simp [intOf]; omega)
      · obtain rfl : k = N := by have := HN3.out; omega
        go_wp2
        go_ret
        exact ⟨_, rfl, by rw [HS.out]; exact hown.less (by omega), L0.trans (hbl.mono (by omega))⟩
  all_goals
    have HS : Hid (changed F n key a b = []) := by show _ = _; unfold changed; rw [q1, q2, q3, q4]; rfl
    rw [q1] at HC
    clear q1
    go_enter Try.func38, Try.ntmps38
    go_wp2_with fail
    generalize (w.alloc (.cells #[.slice A n cap] 38)).alloc (.cells #[] 3) = W1 at L0 B0 S0 O0 H1 HC ⊢
    go_wp2_with (first
      | (go_at_call 23; refine HC.out.mono ?_; rintro e w1 ⟨rfl, b1⟩; have sl1 := cell_later b1 B0)
      | (go_at_call 62; refine (l01In_c _ _ _ _).mono ?_; rintro e w' ⟨rfl, rfl⟩)
      | (go_at_call 74; refine (specMonthOk_c _ _).mono ?_; rintro e w' ⟨rfl, rfl⟩))
    go_ret
    exact ⟨_, rfl, by rw [HS.out]; exact (O0.below b1).less (by omega), andThen L0 b1⟩

end Go.Proofs.Ytmehfclhmbhjaaa
