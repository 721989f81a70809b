/-
  slices.swapRangeCmpFunc and slices.rotateCmpFunc at int: windows of the call's own row change places. Conditions: the places lie in the row.
-/
import Derived.Test.YtcibffmhlamcdaaMergePlain
import Derived.Test.YtcibffmhlamcdaaSortIns
namespace Go.Proofs.Ytcibffmhlamcdaa
open Go.RowKit
set_option linter.unusedVariables false
set_option maxRecDepth 4000

set_option maxHeartbeats 4000000 in
theorem swapRange_c (g N n cap a b k : Nat) (d : Nat → Nat) (cv : Value) (w : World) (hr : IntR w g N n d) (hab : a + k ≤ b) (hb : b + k ≤ n) (hn : n ≤ 40) :
    Calls Try.prog 37 #[.slice (some ⟨g, 0, none⟩) n cap, .int .i64 a, .int .i64 b, .int .i64 k, cv] w fun e w' =>
      e = .returned (.tuple #[]) ∧ IntR w' g N n (swR d a b k) ∧ w.grownBy w' (some g) := by
  have HR := Lib.hid hr
  clear hr
  go_enter Try.func37, Try.ntmps37
  go_wp2_with fail
  go_loopw [10] (fun z wr => ∃ i : Nat, i ≤ k ∧ z = .int .i64 (i : Int) ∧ Hid (IntR wr g N n (swR d a b i)) ∧ Hid (w.grownBy wr (some g))) (fun z _ => k - (intOf z).toNat)
  case atStart => exact ⟨0, Nat.zero_le _, rfl, by rw [swR_zero]; exact HR, World.grownBy.refl _ _⟩
  case round =>
    obtain ⟨i, hi, rfl, HRi, HGi⟩ := hrel
    by_cases hlt : i < k
    · have i1 : (i : Int) < (k : Int) := by omega
      have ea : ((a : Int) + (i : Int)).toNat = a + i := by omega
      have eb : ((b : Int) + (i : Int)).toNat = b + i := by omega
      have a0 : (0 : Int) ≤ (a : Int) + (i : Int) := by omega
      have a1 : (a : Int) + (i : Int) < (n : Int) := by omega
      have b0 : (0 : Int) ≤ (b : Int) + (i : Int) := by omega
      have b1 : (b : Int) + (i : Int) < (n : Int) := by omega
      have ca := HRi.out.cell (i := a + i) (by omega)
      have cb := HRi.out.cell (i := b + i) (by omega)
      have fa := HRi.out.frozen (a + i)
      have fb := HRi.out.frozen (b + i)
      have hne : ¬ b + i = a + i := by omega
      have hne' : ¬ a + i = b + i := by omega
      have HSW : Hid (∀ q, IntR (((wr.drewN q).setCell ⟨g, a + i, none⟩ (.int .i64 (swR d a b i (b + i) : Int))).setCell ⟨g, b + i, none⟩ (.int .i64 (swR d a b i (a + i) : Int))) g N n (swR d a b (i + 1))) := fun q => by
        rw [← swR_step d (by omega)]
        exact (HRi.out.drewN q).swap (a + i) (b + i)
      have HGW := Lib.hid (fun q u v => only_setCell (only_setCell (only_drewN HGi.out q) (p := ⟨g, a + i, none⟩) (Or.inl rfl) u) (p := ⟨g, b + i, none⟩) (Or.inl rfl) v)
      generalize swR d a b i (b + i) = x at *
      generalize swR d a b i (a + i) = y at *
      clear HRi HGi
      go_wp2_with fail
      go_region
      go_wp2_with fail
      go_roundw
      case rel => exact ⟨i + 1, by omega, by go_num, HSW.out 1, HGW.out 1 _ _⟩
      case measure => simp [intOf]; omega
    · obtain rfl : i = k := by omega
      go_wp2_with fail
      go_end0
      exact ⟨rfl, HRi.out, HGi.out⟩

set_option maxHeartbeats 4000000 in
theorem rotate_c (g N n cap a m b : Nat) (d : Nat → Nat) (cv : Value) (w : World) (hr : IntR w g N n d) (ham : a < m) (hmb : m < b) (hb : b ≤ n) (hn : n ≤ 40) :
    Calls Try.prog 36 #[.slice (some ⟨g, 0, none⟩) n cap, .int .i64 a, .int .i64 m, .int .i64 b, cv] w fun e w' =>
      e = .returned (.tuple #[]) ∧ IntR w' g N n (rotD d a m b) ∧ w.grownBy w' (some g) := by
  have HR := Lib.hid hr
  clear hr
  obtain ⟨i0, hi0⟩ : ∃ i : Nat, (m : Int) - (a : Int) = (i : Int) := ⟨m - a, by omega⟩
  obtain ⟨j0, hj0⟩ : ∃ j : Nat, (b : Int) - (m : Int) = (j : Int) := ⟨b - m, by omega⟩
  have HF0 : Hid (rotD d (m - i0) m (m + j0) = rotD d a m b) := by show _ = _; rw [show m - i0 = a by omega, show m + j0 = b by omega]
  have hi1 : 1 ≤ i0 := by omega
  have hj1 : 1 ≤ j0 := by omega
  have hi2 : i0 ≤ m := by omega
  have hj2 : m + j0 ≤ n := by omega
  generalize rotD d a m b = FIN at *
  go_enter Try.func36, Try.ntmps36
  go_wp2_with fail
  go_loopw [10, 11] (fun z y wr => ∃ (i j : Nat) (dk : Nat → Nat), 1 ≤ i ∧ 1 ≤ j ∧ i ≤ m ∧ m + j ≤ n ∧ z = .int .i64 (i : Int) ∧ y = .int .i64 (j : Int) ∧ Hid (IntR wr g N n dk) ∧ Hid (rotD dk (m - i) m (m + j) = FIN) ∧ Hid (w.grownBy wr (some g))) (fun z y _ => (intOf z).toNat + (intOf y).toNat)
  case atStart => exact ⟨i0, j0, d, hi1, hj1, hi2, hj2, rfl, rfl, HR, HF0, World.grownBy.refl _ _⟩
  case round =>
    clear HF0 HR hi0 hj0 hi1 hj1 hi2 hj2
    obtain ⟨i, j, dk, hi, hj, him, hjn, rfl, rfl, HRk, HFk, HGk⟩ := hrel
    obtain ⟨mi, hmi⟩ : ∃ q : Nat, (m : Int) - (i : Int) = (q : Int) := ⟨m - i, by omega⟩
    have emi : m - i = mi := by omega
    by_cases hij : i = j
    · subst hij
      have HS := Lib.hid (swapRange_c g N n cap mi m i dk cv wr HRk.out (by omega) (by omega) hn)
      have HE : Hid (swR dk mi m i = FIN) := by show _ = _; rw [← HFk.out, ← emi]; exact rotD_swap dk him
      clear HRk HFk
      go_wp2_with (go_at_call 37; refine HS.out.mono ?_; rintro e w1 ⟨rfl, h1, h2⟩)
      have H1 := Lib.hid h1
      have H2 := Lib.hid h2
      clear h1 h2
      go_wp2_with fail
      go_end0
      exact ⟨rfl, by rw [← HE.out]; exact H1.out, only_trans HGk.out H2.out⟩
    · have n1 : ¬ (i : Int) = (j : Int) := by omega
      by_cases hlt : j < i
      · have n2 : (j : Int) < (i : Int) := by omega
        have n3 : decide ((i : Int) > (j : Int)) = true := decide_eq_true (by omega)
        have HS := Lib.hid (swapRange_c g N n cap mi m j dk cv wr HRk.out (by omega) (by omega) hn)
        obtain ⟨i', hi'⟩ : ∃ q : Nat, (i : Int) - (j : Int) = (q : Int) := ⟨i - j, by omega⟩
        have HE : Hid (rotD (swR dk mi m j) (m - i') m (m + j) = FIN) := by
          show _ = _
          rw [← HFk.out, ← emi, show i' = i - j by omega]
          exact rotD_left dk him hlt
        clear HRk HFk
        go_wp2_with (go_at_call 37; refine HS.out.mono ?_; rintro e w1 ⟨rfl, h1, h2⟩)
        have H1 := Lib.hid h1
        have H2 := Lib.hid (only_trans HGk.out h2)
        clear h1 h2
        go_wp2_with fail
        go_roundw
        case rel => exact ⟨i', j, _, by omega, hj, by omega, hjn, rfl, rfl, H1, HE, H2⟩
        case measure => simp [intOf]; omega
      · have n2 : ¬ (j : Int) < (i : Int) := by omega
        have n3 : decide ((i : Int) > (j : Int)) = false := decide_eq_false (by omega)
        obtain ⟨mj, hmj⟩ : ∃ q : Nat, (m : Int) + (j : Int) - (i : Int) = (q : Int) := ⟨m + j - i, by omega⟩
        have HS := Lib.hid (swapRange_c g N n cap mi mj i dk cv wr HRk.out (by omega) (by omega) hn)
        obtain ⟨j', hj'⟩ : ∃ q : Nat, (j : Int) - (i : Int) = (q : Int) := ⟨j - i, by omega⟩
        have HE : Hid (rotD (swR dk mi mj i) (m - i) m (m + j') = FIN) := by
          show _ = _
          rw [← HFk.out, ← emi, show j' = j - i by omega, show mj = m + j - i by omega]
          exact rotD_right dk him (by omega)
        clear HRk HFk
        go_wp2_with (go_at_call 37; refine HS.out.mono ?_; rintro e w1 ⟨rfl, h1, h2⟩)
        have H1 := Lib.hid h1
        have H2 := Lib.hid (only_trans HGk.out h2)
        clear h1 h2
        go_wp2_with fail
        go_roundw
        case rel => exact ⟨i, j', _, hi, by omega, him, by omega, rfl, rfl, H1, HE, H2⟩
        case measure => simp [intOf]; omega

end Go.Proofs.Ytcibffmhlamcdaa
