/-
  The conversion of a slice of Points: a new row of the same numbers; eqPointS of two equal rows; szPointS. Conditions: the rows can be read, at most 1048576 elements.
-/
import Derived.Test.YtlpaicpjadkceaaTab
namespace Go.Proofs.Ytlpaicpjadkceaa
open Go.RowKit
set_option linter.unusedVariables false
set_option maxRecDepth 4000

set_option maxHeartbeats 400000 in
theorem toPoint_c (a0 a1 a2 : Int) (w : World) :
    Calls Try.prog 28 #[.agg #[.int .i64 a0, .int .i64 a1, .int .i64 a2]] w fun e w' => e = .returned (.agg #[.int .i64 a0, .int .i64 a1, .int .i64 a2]) ∧ Below w.heap.size w w' := by
  go_enter Try.func28, Try.ntmps28
  go_wp2
  go_returns
  exact ⟨rfl, by go_grown⟩

theorem info_Point : (Try.prog.info? 46).map (fun i => (i.zero, i.size, i.bytes)) = some (some (.agg #[.int .i64 0, .int .i64 0, .int .i64 0]), 3, 24) := by kernel_rfl

/-- What the conversion leaves: a new row. -/
def PointS (n : Nat) (F : Nat → Nat → Int) (w : World) (e : Ending) (w' : World) : Prop :=
  e = .returned (.slice (some ⟨w.heap.size, 0, none⟩) n n) ∧ OwnR 3 46 w' w.heap.size n F ∧ Below w.heap.size w w'

set_option maxHeartbeats 1000000 in
theorem toPointS_c (L : Nat) (A : Option Addr) (n cap : Nat) (F : Nat → Nat → Int) (w : World) (hr : Tab 3 w L A n F) (hL : L ≤ w.heap.size) (hn : n ≤ 1048576) :
    Calls Try.prog 55 #[.slice A n cap] w (PointS n F w) := by
  obtain ⟨i0, hi, hz0, hz1, hz2⟩ := info_parts info_Point
  have HR := Lib.hid hr
  clear hr
  go_enter Try.func55, Try.ntmps55
  go_wp2_with (at_make; refine wpList_make_full _ rfl _ _ 28 rfl w.heap.size 46 i0 (.agg #[.int .i64 0, .int .i64 0, .int .i64 0]) 3 Try.underlying28 hi hz0 hz1 .i64 .i64 _ _ n rfl rfl rfl rfl (by rw [hz2]; omega) (by unfold maxLen; omega) (Nat.le_refl _) ?_)
  intro w1 hown hg
  obtain ⟨f0, hf0, _⟩ := ownC_of_owns hown
  have hb1 : Below w.heap.size w w1 := (Below.refl _ _).grown hg (Nat.le_refl _) (fun j hj => by cases hj)
  clear hown hg hz0 hz1 hz2 hi
  go_wp2_with fail
  go_loopw [4] (fun i wr => ∃ m : Nat, m ≤ n ∧ i = .int .i64 m ∧ (∃ f, OwnC 46 wr w.heap.size (n * 3) f ∧ ∀ i, i < m → ∀ j, j < 3 → f (i * 3 + j) = .int .i64 (F i j) ∧ I64 (F i j)) ∧ Below w.heap.size w wr) (fun i _ => n - (intOf i).toNat)
  case atStart => exact ⟨0, Nat.zero_le _, rfl, ⟨f0, hf0, fun i hi => by omega⟩, hb1⟩
  case round =>
    obtain ⟨m, hm, rfl, ⟨f, hf, hk⟩, hbl⟩ := hrel
    have HK := Lib.hid hk
    clear hk
    by_cases hlt : m < n
    · obtain ⟨b, off, rfl, hb, ⟨c0, c1, c2⟩, ⟨d0, d1, d2⟩⟩ := (HR.out.keep (hbl.mono hL)).at3 hlt
      generalize hx0 : F m 0 = x0 at *
      generalize hx1 : F m 1 = x1 at *
      generalize hx2 : F m 2 = x2 at *
      go_wp2_with fail
      refine (toPoint_c _ _ _ _).mono ?_
      rintro e w2 ⟨rfl, b2⟩
      have hf2 := hf.later b2
      have hl2 := hbl.trans (b2.mono hbl.size)
      have e0 := hf2.cell (m * 3) (by omega)
      have e1 := hf2.cell (m * 3 + 1) (by omega)
      have e2 := hf2.cell (m * 3 + 2) (by omega)
      have g0 := hf2.frozen (m * 3)
      have g1 := hf2.frozen (m * 3 + 1)
      have g2 := hf2.frozen (m * 3 + 2)
      clear b2 hf hbl
      go_wp2_with fail
      go_roundw
      case rel =>
        obtain ⟨f', hf', hk'⟩ := hf2.put3 HK.out ⟨hx0, d0⟩ ⟨hx1, d1⟩ ⟨hx2, d2⟩
        exact ⟨m + 1, by omega, by go_num, ⟨f', hf', hk'⟩, below_put (below_put (below_put hl2 (Nat.le_refl _) _ _) (Nat.le_refl _) _ _) (Nat.le_refl _) _ _⟩
      case measure => simp [intOf]; omega
    · go_wp2_with fail
      go_ret
      obtain rfl : m = n := by omega
      exact ⟨rfl, ⟨f, hf, HK.out⟩, hbl⟩

set_option maxHeartbeats 400000 in
theorem eqPoint_c (a0 a1 a2 : Int) (w : World) :
    Calls Try.prog 81 #[.agg #[.int .i64 a0, .int .i64 a1, .int .i64 a2], .agg #[.int .i64 a0, .int .i64 a1, .int .i64 a2]] w fun e w' => e = .returned (.bool true) ∧ Below w.heap.size w w' := by
  go_enter Try.func81, Try.ntmps81
  go_wp2
  go_ret
  exact ⟨rfl, andAlloc (andAlloc (Below.refl _ _) _) _⟩

set_option maxHeartbeats 4000000 in
theorem eqPointS_c (L L' : Nat) (A A' : Option Addr) (n cap cap' : Nat) (F : Nat → Nat → Int) (w : World) (h1 : Tab 3 w L A n F) (h2 : Tab 3 w L' A' n F) (hL : L ≤ w.heap.size) (hL' : L' ≤ w.heap.size) (hn : n ≤ 1048576) :
    Calls Try.prog 56 #[.slice A n cap, .slice A' n cap'] w fun e w' => e = .returned (.bool true) ∧ Below w.heap.size w w' := by
  have H1 := Lib.hid h1
  have H2 := Lib.hid h2
  clear h1 h2
  go_enter Try.func56, Try.ntmps56
  go_wp2_with fail
  go_loopw [5] (fun i wr => ∃ m : Nat, m ≤ n ∧ i = .int .i64 m ∧ Below w.heap.size w wr) (fun i _ => n - (intOf i).toNat)
  case atStart => exact ⟨0, Nat.zero_le _, rfl, Below.refl _ _⟩
  case round =>
    obtain ⟨m, hm, rfl, hbl⟩ := hrel
    by_cases hlt : m < n
    · obtain ⟨b, off, rfl, hb, ⟨c0, c1, c2⟩, _⟩ := (H1.out.keep (hbl.mono hL)).at3 hlt
      obtain ⟨b', off', rfl, hb', ⟨c0', c1', c2'⟩, _⟩ := (H2.out.keep (hbl.mono hL')).at3 hlt
      generalize F m 0 = x0 at *
      generalize F m 1 = x1 at *
      generalize F m 2 = x2 at *
      have k0 : (0 : Int) ≤ (m : Int) := by omega
      have k1 : (m : Int) < (n : Int) := by omega
      go_wp2_with fail
      go_region_with (go_at_call 81; refine (eqPoint_c _ _ _ _).mono ?_; rintro e w2 ⟨rfl, b2⟩)
      all_goals
        go_wp2_with fail
        go_roundw
        case rel => exact ⟨m + 1, by omega, by go_num, by repeat (first | (with_reducible assumption) | refine Below.drew ?_ | refine andThen ?_ (by assumption))⟩
        case measure => simp [intOf]; omega
    · go_wp2_with fail
      go_ret
      exact ⟨rfl, hbl⟩

end Go.Proofs.Ytlpaicpjadkceaa
