/-
  slices.SortStableFunc at fewer than 20 numbers: one insertion sort. Conditions: as in XSortIns.
-/
import Derived.Test.YtcibffmhlamcdaaSortIns
namespace Go.Proofs.Ytcibffmhlamcdaa
open Go.RowKit
set_option linter.unusedVariables false
set_option maxRecDepth 4000

/-- SortStableFunc puts rows of n numbers in order. -/
def SortsAt (n : Nat) : Prop := ∀ (key : Nat → Int) (g N cap : Nat) (d : Nat → Nat) (c0 c1 c2 : Value) (w : World), IntR w g N n d → (∀ p, p < n → d p < n) → CmpOk w g n key c0 c1 c2 → SS key d 0 n →
    Calls Try.prog 21 #[.slice (some ⟨g, 0, none⟩) n cap, .func (.func 22) #[] #[c0, c1, c2]] w fun e w' =>
      e = .returned (.tuple #[]) ∧ ∃ d', IntR w' g N n d' ∧ WP 0 n d d' ∧ SR key d' 0 n ∧ w.grownBy w' (some g)
def StablesAt (n : Nat) : Prop := ∀ (key : Nat → Int) (g N cap : Nat) (d : Nat → Nat) (c0 c1 c2 : Value) (w : World), IntR w g N n d → (∀ p, p < n → d p < n) → CmpOk w g n key c0 c1 c2 → SS key d 0 n →
    Calls Try.prog 30 #[.slice (some ⟨g, 0, none⟩) n cap, .int .i64 n, .func (.func 22) #[] #[c0, c1, c2]] w fun e w' =>
      e = .returned (.tuple #[]) ∧ ∃ d', IntR w' g N n d' ∧ WP 0 n d d' ∧ SR key d' 0 n ∧ w.grownBy w' (some g)
set_option maxHeartbeats 1000000 in
theorem sorts_of {n : Nat} (h : StablesAt n) (hn : n ≤ 40) : SortsAt n := by
  intro key g N cap d c0 c1 c2 w hr hd hC hss
  have HS := Lib.hid (h key g N cap d c0 c1 c2 w hr hd hC hss)
  clear hr hd hC hss h
  go_enter Try.func21, Try.ntmps21
  go_wp2_with fail
  refine HS.out.mono ?_
  rintro e w1 ⟨rfl, h1⟩
  have H1 := Lib.hid h1
  clear h1
  go_wp2_with fail
  go_end0
  exact ⟨rfl, H1.out⟩

set_option maxHeartbeats 2000000 in
theorem stable_small {n : Nat} (hn : n < 20) : StablesAt n := by
  intro key g N cap d c0 c1 c2 w hr hd hC hss
  have HI := Lib.hid (insertion_c key g N n cap 0 n d c0 c1 c2 w hr hd hC hss (Nat.zero_le _) (Nat.le_refl _) (by omega))
  clear hr hd hC hss
  have k0 : ¬ (20 : Int) ≤ (n : Int) := by omega
  have k1 : ¬ (20 : Int) < (n : Int) := by omega
  go_enter Try.func30, Try.ntmps30
  go_wp2_with fail
  refine wp_loop_rounds 1 ?_
  rw [rounds_succ]
  go_wp2_with (go_at_call 34; refine HI.out.mono ?_; rintro e w1 ⟨rfl, h1⟩)
  have H1 := Lib.hid h1
  clear h1
  go_wp2_with fail
  refine wp_loop_rounds 1 ?_
  rw [rounds_succ]
  go_wp2_with fail
  go_end0
  exact ⟨rfl, H1.out⟩

end Go.Proofs.Ytcibffmhlamcdaa
