/-
  The conversion of a slice of Nodes: a new row of the same numbers; eqNodeS of two equal rows; szNodeS. Conditions: the rows can be read, at most 1048576 elements.
-/
import Derived.Test.YtlpaicpjadkceaaTab
import Derived.Test.YtlpaicpjadkceaaNodeOk3
import Derived.RegionTactic
namespace Go.Proofs.Ytlpaicpjadkceaa
open Go.RowKit
set_option linter.unusedVariables false
set_option maxRecDepth 4000

theorem Tab.at6 {w : World} {L : Nat} {A : Option Addr} {n : Nat} {F : Nat → Nat → Int} (h : Tab 6 w L A n F) {i : Nat} (hi : i < n) :
    ∃ b off, A = some ⟨b, off, none⟩ ∧ b < L ∧ (w.cell? ⟨b, off + i * 6, none⟩ = some (.int .i64 (F i 0)) ∧ w.cell? ⟨b, off + i * 6 + 1, none⟩ = some (.int .i64 (F i 1)) ∧ w.cell? ⟨b, off + i * 6 + 2, none⟩ = some (.int .i64 (F i 2)) ∧ w.cell? ⟨b, off + i * 6 + 3, none⟩ = some (.int .i64 (F i 3)) ∧ w.cell? ⟨b, off + i * 6 + 4, none⟩ = some (.int .i64 (F i 4)) ∧ w.cell? ⟨b, off + i * 6 + 5, none⟩ = some (.int .i64 (F i 5))) ∧ (I64 (F i 0) ∧ I64 (F i 1) ∧ I64 (F i 2) ∧ I64 (F i 3) ∧ I64 (F i 4) ∧ I64 (F i 5)) := by
  obtain ⟨b, off, e, hb, hc⟩ := h i hi
  exact ⟨b, off, e, hb, ⟨by have := (hc 0 (by omega)).1; simpa using this, by have := (hc 1 (by omega)).1; rw [← Nat.add_assoc] at this; exact this, by have := (hc 2 (by omega)).1; rw [← Nat.add_assoc] at this; exact this, by have := (hc 3 (by omega)).1; rw [← Nat.add_assoc] at this; exact this, by have := (hc 4 (by omega)).1; rw [← Nat.add_assoc] at this; exact this, by have := (hc 5 (by omega)).1; rw [← Nat.add_assoc] at this; exact this⟩, ⟨(hc 0 (by omega)).2, (hc 1 (by omega)).2, (hc 2 (by omega)).2, (hc 3 (by omega)).2, (hc 4 (by omega)).2, (hc 5 (by omega)).2⟩⟩
theorem OwnC.put6 {t : TypeId} {w : World} {g N m : Nat} {f : Nat → Value} {F : Nat → Nat → Int} {x0 x1 x2 x3 x4 x5 : Int} (h : OwnC t w g N f) (hk : ∀ i, i < m → ∀ j, j < 6 → f (i * 6 + j) = .int .i64 (F i j) ∧ I64 (F i j)) (e0 : F m 0 = x0 ∧ I64 x0) (e1 : F m 1 = x1 ∧ I64 x1) (e2 : F m 2 = x2 ∧ I64 x2) (e3 : F m 3 = x3 ∧ I64 x3) (e4 : F m 4 = x4 ∧ I64 x4) (e5 : F m 5 = x5 ∧ I64 x5) :
    ∃ f', OwnC t ((((((w.setCell ⟨g, m * 6, none⟩ (.int .i64 x0)).setCell ⟨g, m * 6 + 1, none⟩ (.int .i64 x1)).setCell ⟨g, m * 6 + 2, none⟩ (.int .i64 x2)).setCell ⟨g, m * 6 + 3, none⟩ (.int .i64 x3)).setCell ⟨g, m * 6 + 4, none⟩ (.int .i64 x4)).setCell ⟨g, m * 6 + 5, none⟩ (.int .i64 x5)) g N f' ∧ ∀ i, i < m + 1 → ∀ j, j < 6 → f' (i * 6 + j) = .int .i64 (F i j) ∧ I64 (F i j) := by
  refine ⟨_, ((((((h.set (m * 6) (.int .i64 x0)).set (m * 6 + 1) (.int .i64 x1)).set (m * 6 + 2) (.int .i64 x2)).set (m * 6 + 3) (.int .i64 x3)).set (m * 6 + 4) (.int .i64 x4)).set (m * 6 + 5) (.int .i64 x5)), fun i hi j hj => ?_⟩
  rcases Nat.lt_or_ge i m with hm | hm
  · have := hk i hm j hj
    simp only [show ¬ (i * 6 + j = m * 6 + 1) by omega, show ¬ (i * 6 + j = m * 6 + 2) by omega, show ¬ (i * 6 + j = m * 6 + 3) by omega, show ¬ (i * 6 + j = m * 6 + 4) by omega, show ¬ (i * 6 + j = m * 6 + 5) by omega, show ¬ (i * 6 + j = m * 6) by omega, if_false]
    exact this
  · obtain rfl : i = m := by omega
    rcases (show j = 0 ∨ j = 1 ∨ j = 2 ∨ j = 3 ∨ j = 4 ∨ j = 5 by omega) with rfl | rfl | rfl | rfl | rfl | rfl
    · rw [e0.1]; exact ⟨by simp, e0.2⟩
    · rw [e1.1]; exact ⟨by simp, e1.2⟩
    · rw [e2.1]; exact ⟨by simp, e2.2⟩
    · rw [e3.1]; exact ⟨by simp, e3.2⟩
    · rw [e4.1]; exact ⟨by simp, e4.2⟩
    · rw [e5.1]; exact ⟨by simp, e5.2⟩

set_option maxHeartbeats 400000 in
theorem eqFracs_c (a b : Int) (w : World) :
    Calls Try.prog 36 #[.agg #[.int .i64 a, .int .i64 b], .agg #[.int .i64 a, .int .i64 b]] w fun e w' => e = .returned (.bool true) ∧ Below w.heap.size w w' := by
  go_enter Try.func36, Try.ntmps36
  go_wp2
  go_ret
  exact ⟨rfl, by go_grown⟩

theorem info_Node : (Try.prog.info? 70).map (fun i => (i.zero, i.size, i.bytes)) = some (some (.agg #[.int .i64 0, .int .i64 0, .int .i64 0, .int .i64 0, .int .i64 0, .int .i64 0]), 6, 48) := by kernel_rfl

/-- What the conversion leaves: a new row. -/
def NodeS (n : Nat) (F : Nat → Nat → Int) (w : World) (e : Ending) (w' : World) : Prop :=
  e = .returned (.slice (some ⟨w.heap.size, 0, none⟩) n n) ∧ OwnR 6 70 w' w.heap.size n F ∧ Below w.heap.size w w'

set_option maxHeartbeats 1000000 in
theorem toNodeS_c (L : Nat) (A : Option Addr) (n cap : Nat) (F : Nat → Nat → Int) (w : World) (hr : Tab 6 w L A n F) (hL : L ≤ w.heap.size) (hn : n ≤ 1048576) :
    Calls Try.prog 44 #[.slice A n cap] w (NodeS n F w) := by
  obtain ⟨i0, hi, hz0, hz1, hz2⟩ := info_parts info_Node
  have HR := Lib.hid hr
  clear hr
  go_enter Try.func44, Try.ntmps44
  go_wp2_with (at_make; refine wpList_make_full _ rfl _ _ 76 rfl w.heap.size 70 i0 (.agg #[.int .i64 0, .int .i64 0, .int .i64 0, .int .i64 0, .int .i64 0, .int .i64 0]) 6 Try.underlying76 hi hz0 hz1 .i64 .i64 _ _ n rfl rfl rfl rfl (by rw [hz2]; omega) (by unfold maxLen; omega) (Nat.le_refl _) ?_)
  intro w1 hown hg
  obtain ⟨f0, hf0, _⟩ := ownC_of_owns hown
  have hb1 : Below w.heap.size w w1 := (Below.refl _ _).grown hg (Nat.le_refl _) (fun j hj => by cases hj)
  clear hown hg hz0 hz1 hz2 hi
  go_wp2_with fail
  go_loopw [4] (fun i wr => ∃ m : Nat, m ≤ n ∧ i = .int .i64 m ∧ (∃ f, OwnC 70 wr w.heap.size (n * 6) f ∧ ∀ i, i < m → ∀ j, j < 6 → f (i * 6 + j) = .int .i64 (F i j) ∧ I64 (F i j)) ∧ Below w.heap.size w wr) (fun i _ => n - (intOf i).toNat)
  case atStart => exact ⟨0, Nat.zero_le _, rfl, ⟨f0, hf0, fun i hi => by omega⟩, hb1⟩
  case round =>
    obtain ⟨m, hm, rfl, ⟨f, hf, hk⟩, hbl⟩ := hrel
    have HK := Lib.hid hk
    clear hk
    by_cases hlt : m < n
    · obtain ⟨b, off, rfl, hb, ⟨c0, c1, c2, c3, c4, c5⟩, ⟨d0, d1, d2, d3, d4, d5⟩⟩ := (HR.out.keep (hbl.mono hL)).at6 hlt
      generalize hx0 : F m 0 = x0 at *
      generalize hx1 : F m 1 = x1 at *
      generalize hx2 : F m 2 = x2 at *
      generalize hx3 : F m 3 = x3 at *
      generalize hx4 : F m 4 = x4 at *
      generalize hx5 : F m 5 = x5 at *
      go_wp2_with fail
      refine (toNode_c _ _ _ _ _ _ _).mono ?_
      rintro e w2 ⟨rfl, b2⟩
      have hf2 := hf.later b2
      have hl2 := hbl.trans (b2.mono hbl.size)
      have e0 := hf2.cell (m * 6) (by omega)
      have e1 := hf2.cell (m * 6 + 1) (by omega)
      have e2 := hf2.cell (m * 6 + 2) (by omega)
      have e3 := hf2.cell (m * 6 + 3) (by omega)
      have e4 := hf2.cell (m * 6 + 4) (by omega)
      have e5 := hf2.cell (m * 6 + 5) (by omega)
      have g0 := hf2.frozen (m * 6)
      have g1 := hf2.frozen (m * 6 + 1)
      have g2 := hf2.frozen (m * 6 + 2)
      have g3 := hf2.frozen (m * 6 + 3)
      have g4 := hf2.frozen (m * 6 + 4)
      have g5 := hf2.frozen (m * 6 + 5)
      clear b2 hf hbl
      go_wp2_with fail
      go_roundw
      case rel =>
        obtain ⟨f', hf', hk'⟩ := hf2.put6 HK.out ⟨hx0, d0⟩ ⟨hx1, d1⟩ ⟨hx2, d2⟩ ⟨hx3, d3⟩ ⟨hx4, d4⟩ ⟨hx5, d5⟩
        exact ⟨m + 1, by omega, by go_num, ⟨f', hf', hk'⟩, below_put (below_put (below_put (below_put (below_put (below_put hl2 (Nat.le_refl _) _ _) (Nat.le_refl _) _ _) (Nat.le_refl _) _ _) (Nat.le_refl _) _ _) (Nat.le_refl _) _ _) (Nat.le_refl _) _ _⟩
      case measure => simp [intOf]; omega
    · go_wp2_with fail
      go_ret
      obtain rfl : m = n := by omega
      exact ⟨rfl, ⟨f, hf, HK.out⟩, hbl⟩

set_option maxHeartbeats 400000 in
theorem eqNode_c (a0 a1 a2 a3 a4 a5 : Int) (w : World) :
    Calls Try.prog 78 #[.agg #[.int .i64 a0, .int .i64 a1, .int .i64 a2, .int .i64 a3, .int .i64 a4, .int .i64 a5], .agg #[.int .i64 a0, .int .i64 a1, .int .i64 a2, .int .i64 a3, .int .i64 a4, .int .i64 a5]] w fun e w' => e = .returned (.bool true) ∧ Below w.heap.size w w' := by
  go_enter Try.func78, Try.ntmps78
  go_wp2_with fail
  refine (eqFracs_c _ _ _).mono ?_
  rintro e w1 ⟨rfl, b1⟩
  go_wp2_with fail
  go_ret
  exact ⟨rfl, andThen (andAlloc (andAlloc (Below.refl _ _) _) _) b1⟩

set_option maxHeartbeats 4000000 in
theorem eqNodeS_c (L L' : Nat) (A A' : Option Addr) (n cap cap' : Nat) (F : Nat → Nat → Int) (w : World) (h1 : Tab 6 w L A n F) (h2 : Tab 6 w L' A' n F) (hL : L ≤ w.heap.size) (hL' : L' ≤ w.heap.size) (hn : n ≤ 1048576) :
    Calls Try.prog 46 #[.slice A n cap, .slice A' n cap'] w fun e w' => e = .returned (.bool true) ∧ Below w.heap.size w w' := by
  have H1 := Lib.hid h1
  have H2 := Lib.hid h2
  clear h1 h2
  go_enter Try.func46, Try.ntmps46
  go_wp2_with fail
  go_loopw [5] (fun i wr => ∃ m : Nat, m ≤ n ∧ i = .int .i64 m ∧ Below w.heap.size w wr) (fun i _ => n - (intOf i).toNat)
  case atStart => exact ⟨0, Nat.zero_le _, rfl, Below.refl _ _⟩
  case round =>
    obtain ⟨m, hm, rfl, hbl⟩ := hrel
    by_cases hlt : m < n
    · obtain ⟨b, off, rfl, hb, ⟨c0, c1, c2, c3, c4, c5⟩, _⟩ := (H1.out.keep (hbl.mono hL)).at6 hlt
      obtain ⟨b', off', rfl, hb', ⟨c0', c1', c2', c3', c4', c5'⟩, _⟩ := (H2.out.keep (hbl.mono hL')).at6 hlt
      generalize F m 0 = x0 at *
      generalize F m 1 = x1 at *
      generalize F m 2 = x2 at *
      generalize F m 3 = x3 at *
      generalize F m 4 = x4 at *
      generalize F m 5 = x5 at *
      have k0 : (0 : Int) ≤ (m : Int) := by omega
      have k1 : (m : Int) < (n : Int) := by omega
      go_wp2_with fail
      go_region_with (go_at_call 78; refine (eqNode_c _ _ _ _ _ _ _).mono ?_; rintro e w2 ⟨rfl, b2⟩)
      all_goals
        go_wp2_with fail
        go_roundw
        case rel => exact ⟨m + 1, by omega, by go_num, by repeat (first | (with_reducible assumption) | refine Below.drew ?_ | refine andThen ?_ (by assumption))⟩
        case measure => simp [intOf]; omega
    · go_wp2_with fail
      go_ret
      exact ⟨rfl, hbl⟩

end Go.Proofs.Ytlpaicpjadkceaa
