/-
  The conversion of a Series: a new row of the same numbers; eqSeries of two equal ones; szSeries. Conditions: the rows can be read, at most 1048576 elements.
-/
import Derived.Test.YtlpaicpjadkceaaPointIn
namespace Go.Proofs.Ytlpaicpjadkceaa
open Go.RowKit
set_option linter.unusedVariables false
set_option maxRecDepth 4000

/-- What the conversion leaves: a new row. -/
def SeriesEnd (n : Nat) (F : Nat → Nat → Int) (w : World) (e : Ending) (w' : World) : Prop :=
  ∃ g, e = .returned (.agg #[.slice (some ⟨g, 0, none⟩) n n]) ∧ w.heap.size ≤ g ∧ OwnR 3 46 w' g n F ∧ Below w.heap.size w w'

set_option maxHeartbeats 1000000 in
theorem toSeries_c (L : Nat) (A : Option Addr) (n cap : Nat) (F : Nat → Nat → Int) (w : World) (hr : Tab 3 w L A n F) (hL : L ≤ w.heap.size) (hn : n ≤ 1048576) :
    Calls Try.prog 16 #[.agg #[.slice A n cap]] w (SeriesEnd n F w) := by
  have HR := Lib.hid hr
  clear hr
  have l0 : Below w.heap.size w (((w.alloc (.cells #[.slice A n cap] 24)).alloc (.cells #[.slice none 0 0] 30)).alloc (.cells #[.slice none 0 0] 30)) := andAlloc (andAlloc (andAlloc (Below.refl _ _) _) _) _
  go_enter Try.func16, Try.ntmps16
  go_wp2_with fail
  refine (toPointS_c L A n cap F _ (HR.out.keep (l0.mono hL)) (by simp; omega) hn).mono ?_
  rintro e w1 ⟨rfl, o1, b1⟩
  have e1 : w1.cell? ⟨w.heap.size + 1 + 1, 0, none⟩ = some (.slice none 0 0) := cell_later b1 (by go_simp)
  have e2 : w1.cell? ⟨w.heap.size + 1, 0, none⟩ = some (.slice none 0 0) := cell_later b1 (by go_simp)
  have f1 : w1.frozen? ⟨w.heap.size + 1 + 1, 0, none⟩ = false := (b1.frozen (by simp)).trans (by go_simp)
  have f2 : w1.frozen? ⟨w.heap.size + 1, 0, none⟩ = false := (b1.frozen (by simp)).trans (by go_simp)
  have l1 := andThen l0 b1
  simp only [World.size_alloc] at o1
  have hsz : w.heap.size + 1 + 1 + 1 < w1.heap.size := o1.lt
  clear b1 l0
  have r0 : ((w1.setCell ⟨w.heap.size + 1 + 1, 0, none⟩ (.slice (some ⟨w.heap.size + 1 + 1 + 1, 0, none⟩) n n)).setCell ⟨w.heap.size + 1, 0, none⟩ (.slice (some ⟨w.heap.size + 1 + 1 + 1, 0, none⟩) n n)).cell? ⟨w.heap.size + 1, 0, none⟩ = some (.slice (some ⟨w.heap.size + 1 + 1 + 1, 0, none⟩) n n) :=
    World.cell?_setCell_same' _ _ _ (by rw [World.cell?_setCell_far _ _ _ _ (by show w.heap.size + 1 + 1 ≠ w.heap.size + 1; omega), e2]; rfl)
  go_wp2_with fail
  refine bodyPost_ret (v := .agg #[.slice (some ⟨w.heap.size + 1 + 1 + 1, 0, none⟩) n n]) (by simp [results, Try.results16, go_sem, r0]) rfl ?_
  have hk : OwnR 3 46 ((w1.setCell ⟨w.heap.size + 1 + 1, 0, none⟩ (.slice (some ⟨w.heap.size + 1 + 1 + 1, 0, none⟩) n n)).setCell ⟨w.heap.size + 1, 0, none⟩ (.slice (some ⟨w.heap.size + 1 + 1 + 1, 0, none⟩) n n)) (w.heap.size + 1 + 1 + 1) n F := by
    obtain ⟨f, hf, hk⟩ := o1
    exact ⟨f, (hf.far (by show w.heap.size + 1 + 1 + 1 ≠ w.heap.size + 1 + 1; omega) _).far (by show w.heap.size + 1 + 1 + 1 ≠ w.heap.size + 1; omega) _, hk⟩
  exact ⟨_, rfl, by omega, hk, below_put (below_put l1 (by omega) _ _) (by omega) _ _⟩

set_option maxHeartbeats 1000000 in
theorem eqSeries_c (L L' : Nat) (A A' : Option Addr) (n cap cap' : Nat) (F : Nat → Nat → Int) (w : World) (h1 : Tab 3 w L A n F) (h2 : Tab 3 w L' A' n F) (hL : L ≤ w.heap.size) (hL' : L' ≤ w.heap.size) (hn : n ≤ 1048576) :
    Calls Try.prog 18 #[.agg #[.slice A n cap], .agg #[.slice A' n cap']] w fun e w' => e = .returned (.bool true) ∧ Below w.heap.size w w' := by
  have l0 : Below w.heap.size w ((w.alloc (.cells #[.slice A n cap] 30)).alloc (.cells #[.slice A' n cap'] 30)) := andAlloc (andAlloc (Below.refl _ _) _) _
  have H1 := Lib.hid (h1.keep (l0.mono hL))
  have H2 := Lib.hid (h2.keep (l0.mono hL'))
  clear h1 h2
  go_enter Try.func18, Try.ntmps18
  go_wp2_with fail
  refine (eqPointS_c L L' A A' n cap cap' F _ H1.out H2.out (by simp; omega) (by simp; omega) hn).mono ?_
  rintro e w1 ⟨rfl, b1⟩
  go_wp2_with fail
  go_ret
  exact ⟨rfl, andThen l0 b1⟩

def szBox (n : Nat) (l : Int) : Int := if l - n < 0 then -1 else l - n
theorem szBox_no {n : Nat} (h : ¬ n ≤ 1048576) : szBox n 1048576 = -1 := if_pos (by omega)
theorem szBox_yes {n : Nat} (h : n ≤ 1048576) : szBox n 1048576 = 1048576 - n := if_neg (by omega)
set_option maxHeartbeats 400000 in
theorem szPointS_c (A : Option Addr) (n cap : Nat) (w : World) (hn : n ≤ 9223372036854775807) :
    Calls Try.prog 54 #[.slice A n cap, .int .i64 1048576] w fun e w' => e = .returned (.int .i64 (szBox n 1048576)) ∧ w = w' := by
  cases h : decide ((1048576 : Int) - n < 0)
  · have HS : Hid (szBox n 1048576 = 1048576 - n) := if_neg (of_decide_eq_false h)
    go_enter Try.func54, Try.ntmps54
    go_wp2
    go_ret
    exact ⟨ret_int HS.out.symm, rfl⟩
  · have HS : Hid (szBox n 1048576 = -1) := if_pos (of_decide_eq_true h)
    go_enter Try.func54, Try.ntmps54
    go_wp2
    go_ret
    exact ⟨ret_int HS.out.symm, rfl⟩

set_option maxHeartbeats 400000 in
theorem szSeries_c (A : Option Addr) (n cap : Nat) (w : World) (hn : n ≤ 9223372036854775807) :
    Calls Try.prog 14 #[.agg #[.slice A n cap], .int .i64 1048576] w fun e w' => e = .returned (.int .i64 (szBox n 1048576)) ∧ Below w.heap.size w w' := by
  by_cases h : n ≤ 1048576
  · have HS := szBox_yes h
    have k0 : decide ((1048576 : Int) - n < 0) = false := decide_eq_false (by omega)
    go_enter Try.func14, Try.ntmps14
    go_wp2_with fail
    refine (szPointS_c _ _ _ _ hn).mono ?_
    rintro e w' ⟨rfl, rfl⟩
    rw [HS]
    go_wp2_with fail
    go_ret
    exact ⟨ret_int HS.symm, andAlloc (Below.refl _ _) _⟩
  · have HS := szBox_no h
    go_enter Try.func14, Try.ntmps14
    go_wp2_with fail
    refine (szPointS_c _ _ _ _ hn).mono ?_
    rintro e w' ⟨rfl, rfl⟩
    rw [HS]
    go_wp2_with fail
    go_ret
    exact ⟨ret_int HS.symm, andAlloc (Below.refl _ _) _⟩

end Go.Proofs.Ytlpaicpjadkceaa
