/-
  ValueAt: the plain function; spec.ValueAt computes it. Conditions: the facts can be read.
-/
import Derived.Test.YtmehfclhmbhjaaaStoreIn
namespace Go.Proofs.Ytmehfclhmbhjaaa
open Go.RowKit
set_option linter.unusedVariables false
set_option maxRecDepth 4000

def vaB (F : Nat → Nat → Int) (key m kn : Int) (i : Nat) : Bool := (F i 0 == key) && (decide (F i 1 ≤ m) && (decide (m < F i 2) && decide (F i 3 ≤ kn)))
def valueAt (F : Nat → Nat → Int) (key m kn : Int) : Nat → Int × Bool
  | 0 => (0, false)
  | k + 1 => if vaB F key m kn k = true then (F k 4, true) else valueAt F key m kn k
theorem valueAt_yes {F : Nat → Nat → Int} {key m kn : Int} {k : Nat} (h : vaB F key m kn k = true) : valueAt F key m kn (k + 1) = (F k 4, true) := by
  conv => lhs; unfold valueAt
  rw [if_pos h]
theorem valueAt_no {F : Nat → Nat → Int} {key m kn : Int} {k : Nat} (h : vaB F key m kn k = false) : valueAt F key m kn (k + 1) = valueAt F key m kn k := by
  conv => lhs; unfold valueAt
  rw [if_neg (by simp [h])]
theorem valueAt_skip {F : Nat → Nat → Int} {key m kn : Int} {k : Nat} : ∀ n, k ≤ n → (∀ i, k ≤ i → i < n → vaB F key m kn i = false) → valueAt F key m kn n = valueAt F key m kn k
  | 0, h, _ => by
    obtain rfl : k = 0 := by omega
    rfl
  | n + 1, h, hs => by
    rcases Nat.lt_or_ge n k with hk | hk
    · obtain rfl : k = n + 1 := by omega
      rfl
    · rw [valueAt_no (hs n hk (by omega))]
      exact valueAt_skip n hk fun i h1 h2 => hs i h1 (by omega)

set_option maxHeartbeats 4000000 in
theorem specValueAt_c (L : Nat) (A : Option Addr) (n cap : Nat) (F : Nat → Nat → Int) (key m kn : Int) (w : World) (h1 : Tab 5 w L A n F) (hL : L ≤ w.heap.size) (hn : n ≤ 1048577) :
    Calls Try.prog 27 #[.agg #[.slice A n cap], .int .i64 key, .int .i64 m, .int .i64 kn] w fun e w' => e = .returned (.tuple #[.int .i64 (valueAt F key m kn n).1, .bool (valueAt F key m kn n).2]) ∧ Below w.heap.size w w' := by
  have L0 : Below w.heap.size w (w.alloc (.cells #[.slice A n cap] 38)) := andAlloc (Below.refl _ _) _
  have B0 : (w.alloc (.cells #[.slice A n cap] 38)).cell? ⟨w.heap.size, 0, none⟩ = some (.slice A n cap) := by go_simp
  have S0 : (w.alloc (.cells #[.slice A n cap] 38)).heap.size = w.heap.size + 1 := by simp
  have H1 := Lib.hid (h1.keep (L0.mono hL))
  clear h1
  go_enter Try.func27, Try.ntmps27
  go_wp2_with fail
  generalize w.alloc (.cells #[.slice A n cap] 38) = W1 at L0 B0 S0 H1 ⊢
  have hL1 : L ≤ W1.heap.size := by omega
  go_loopw [10] (fun i wr => ∃ k : Nat, k ≤ n ∧ i = .int .i64 ((k : Int) - 1) ∧ Hid (valueAt F key m kn n = valueAt F key m kn k) ∧ Below W1.heap.size W1 wr) (fun i _ => (intOf i + 1).toNat)
  case atStart => exact ⟨n, Nat.le_refl _, rfl, Lib.hid rfl, Below.refl _ _⟩
  case round =>
    obtain ⟨k, hk, rfl, hv, hbl⟩ := hrel
    have sl := cell_later hbl B0
    rcases k with _ | k
    · have HI : Hid (valueAt F key m kn n = (0, false)) := hv.out
      have e0 : (((0 : Nat) : Int) - 1) = -1 := rfl
      rw [e0]
      go_wp2_with fail
      refine bodyPost_ret (v := .tuple #[.int .i64 0, .bool false]) (by simp [results, Try.results27, go_sem]) rfl ?_
      exact ⟨by rw [HI.out], andThen L0 hbl⟩
    · have hbl1 := andAlloc hbl (.cells #[.int .i64 (F k 0), .int .i64 (F k 1), .int .i64 (F k 2), .int .i64 (F k 3), .int .i64 (F k 4)] 54)
      have hbl2 := andThen L0 hbl1
      obtain ⟨b, off, rfl, hb, ⟨c0, c1, c2, c3, c4⟩, _⟩ := (H1.out.keep (hbl.mono hL1)).at5 (show k < n by omega)
      have k0 : (0 : Int) ≤ (k : Int) := by omega
      have k1 : (k : Int) < (n : Int) := by omega
      have e1 : (((k + 1 : Nat) : Int) - 1) = (k : Int) := by omega
      rw [e1]
      clear e1
      cases hva : vaB F key m kn k
      case true =>
        have HI : Hid (valueAt F key m kn n = (F k 4, true)) := by show _ = _; rw [hv.out, valueAt_yes hva]
        unfold vaB at hva
        simp only [Bool.and_eq_true] at hva
        obtain ⟨f0, f1, f2, f3⟩ := hva
        clear hv
        generalize F k 0 = x0 at *
        generalize F k 1 = x1 at *
        generalize F k 2 = x2 at *
        generalize F k 3 = x3 at *
        generalize F k 4 = x4 at *
        go_wp2_with fail
        refine bodyPost_ret (v := .tuple #[.int .i64 x4, .bool true]) (by simp [results, Try.results27, go_sem]) rfl ?_
        exact ⟨by rw [HI.out], hbl2⟩
      case false =>
        have HV : Hid (valueAt F key m kn n = valueAt F key m kn k) := by show _ = _; rw [hv.out, valueAt_no hva]
        unfold vaB at hva
        clear hv
        cases f0 : (F k 0 == key) <;> cases f1 : decide (F k 1 ≤ m) <;> cases f2 : decide (m < F k 2) <;> cases f3 : decide (F k 3 ≤ kn)
        case true.true.true.true => rw [f0, f1, f2, f3] at hva; cases hva
        all_goals
          clear hva
          generalize F k 0 = x0 at *
          generalize F k 1 = x1 at *
          generalize F k 2 = x2 at *
          generalize F k 3 = x3 at *
          generalize F k 4 = x4 at *
          go_wp2_with fail
          go_roundw
          case rel => exact ⟨k, by omega, rfl, HV, hbl1⟩
          case measure => simp [intOf] <;> omega

end Go.Proofs.Ytmehfclhmbhjaaa
