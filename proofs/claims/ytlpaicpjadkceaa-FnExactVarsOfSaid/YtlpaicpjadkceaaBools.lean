/-
  Rows of bools: eqBoolS of two rows of the same is true; markBoolS writes marks; heldBoolS finds them; markNodeS. Conditions: the rows can be read, the marked one is the call's own.
-/
import Derived.Test.YtlpaicpjadkceaaVarsOf
import Derived.Test.YtlpaicpjadkceaaPointMark
namespace Go.Proofs.Ytlpaicpjadkceaa
open Go.RowKit
set_option linter.unusedVariables false
set_option maxRecDepth 4000

/-- The slice at A reads as n bools, in a block from base on. -/
def BR (w : World) (base : Nat) (A : Option Addr) (n : Nat) (S : Nat → Bool) : Prop := 0 < n → ∃ g, A = some ⟨g, 0, none⟩ ∧ base ≤ g ∧ BRow w g n S
theorem BR.nil {w : World} {base : Nat} {A : Option Addr} {S : Nat → Bool} : BR w base A 0 S := fun h => absurd h (Nat.lt_irrefl 0)
theorem BR.later {w w' : World} {base : Nat} {A : Option Addr} {n : Nat} {S : Nat → Bool} (h : BR w base A n S) (hb : Below w.heap.size w w') : BR w' base A n S := fun h0 => by
  obtain ⟨g, e1, e2, e3⟩ := h h0
  exact ⟨g, e1, e2, e3.later hb⟩
theorem BR.only {w w' : World} {base g' : Nat} {A : Option Addr} {n : Nat} {S : Nat → Bool} (h : BR w base A n S) (hb : w.grownBy w' (some g')) (hg : g' < base) : BR w' base A n S := fun h0 => by
  obtain ⟨g, e1, e2, e3⟩ := h h0
  exact ⟨g, e1, e2, OwnC.grown e3 hb (fun e => by have := Option.some.inj e; omega)⟩
/-- Like BR, in a block below top. -/
def BRB (w : World) (top : Nat) (A : Option Addr) (n : Nat) (S : Nat → Bool) : Prop := 0 < n → ∃ g, A = some ⟨g, 0, none⟩ ∧ g < top ∧ BRow w g n S
theorem BRB.below {w w' : World} {top : Nat} {A : Option Addr} {n : Nat} {S : Nat → Bool} (h : BRB w top A n S) (hb : Below top w w') : BRB w' top A n S := fun h0 => by
  obtain ⟨g, e1, e2, e3⟩ := h h0
  exact ⟨g, e1, e2, OwnC.below e3 hb e2⟩
theorem BRB.only {w w' : World} {top g' : Nat} {A : Option Addr} {n : Nat} {S : Nat → Bool} (h : BRB w top A n S) (hb : w.grownBy w' (some g')) (hg : top ≤ g') : BRB w' top A n S := fun h0 => by
  obtain ⟨g, e1, e2, e3⟩ := h h0
  exact ⟨g, e1, e2, OwnC.grown e3 hb (fun e => by have := Option.some.inj e; omega)⟩
theorem BRB.br {w : World} {top : Nat} {A : Option Addr} {n : Nat} {S : Nat → Bool} (h : BRB w top A n S) : BR w 0 A n S := fun h0 => by
  obtain ⟨g, e1, e2, e3⟩ := h h0
  exact ⟨g, e1, Nat.zero_le _, e3⟩
theorem BR.brb {w : World} {base : Nat} {A : Option Addr} {n : Nat} {S : Nat → Bool} (h : BR w base A n S) : BRB w w.heap.size A n S := fun h0 => by
  obtain ⟨g, e1, e2, e3⟩ := h h0
  exact ⟨g, e1, e3.lt, e3⟩

set_option maxHeartbeats 1000000 in
theorem eqBoolS_c (b b' : Nat) (A A' : Option Addr) (n cap cap' : Nat) (S : Nat → Bool) (w : World) (h1 : BR w b A n S) (h2 : BR w b' A' n S) (hl : n ≤ 1000000) :
    Calls Try.prog 49 #[.slice A n cap, .slice A' n cap'] w fun e w' => e = .returned (.bool true) ∧ Drw w w' := by
  have HA := Lib.hid h1
  have HA' := Lib.hid h2
  clear h1 h2
  go_enter Try.func49, Try.ntmps49
  go_wp2_with fail
  go_loopw [5] (fun i wr => ∃ k : Nat, k ≤ n ∧ i = .int .i64 k ∧ Drw w wr) (fun i _ => n - (intOf i).toNat)
  case atStart => exact ⟨0, Nat.zero_le _, rfl, Drw.refl _⟩
  case round =>
    obtain ⟨k, hk, rfl, q, rfl⟩ := hrel
    by_cases hlt : k < n
    · obtain ⟨g, rfl, _, r1⟩ := HA.out (by omega)
      obtain ⟨g', rfl, _, r2⟩ := HA'.out (by omega)
      have e1 := r1.cell hlt
      have e2 := r2.cell hlt
      generalize S k = z at e1 e2
      clear r1 r2
      have k0 : (0 : Int) ≤ (k : Int) := by omega
      have k1 : (k : Int) < (n : Int) := by omega
      go_wp2_with fail
      go_quiet (fail)
      go_wp2_with fail
      go_roundw
      case rel => exact ⟨k + 1, by omega, by go_num, _, rfl⟩
      case measure => simp [intOf]; omega
    · go_wp2
      go_ret
      exact ⟨rfl, q, rfl⟩

def mkB (i : Nat) : Bool := Int.tmod (1 + (i : Int)) 3 == 0

set_option maxHeartbeats 2000000 in
theorem markBoolS_c (base : Nat) (A : Option Addr) (n cap : Nat) (S : Nat → Bool) (w : World) (h : BR w base A n S) (hn : n ≤ 1000000) (hbase : base ≤ w.heap.size) :
    Calls Try.prog 51 #[.slice A n cap, .int .i64 1] w fun e w' => e = .returned (.int .i64 (1 + (n : Int))) ∧ BR w' base A n mkB ∧ Below base w w' := by
  have HA := Lib.hid h
  clear h
  go_enter Try.func51, Try.ntmps51
  go_wp2_with fail
  go_loopw [1, 5] (fun u i wr => ∃ (k : Nat) (S' : Nat → Bool), k ≤ n ∧ i = .int .i64 k ∧ u = .int .i64 (1 + (k : Int)) ∧ Hid (BR wr base A n S') ∧ Hid (∀ j, j < k → S' j = mkB j) ∧ Hid (Below base w wr)) (fun _ i _ => n - (intOf i).toNat)
  case atStart => exact ⟨0, S, Nat.zero_le _, rfl, rfl, HA, (show ∀ j, j < 0 → S j = mkB j from fun j hj => absurd hj (Nat.not_lt_zero _)), Below.refl _ _⟩
  case round =>
    obtain ⟨k, S', hk, rfl, rfl, HB, HS, HL⟩ := hrel
    by_cases hlt : k < n
    · obtain ⟨g, rfl, hg, r1⟩ := HB.out (by omega)
      have e1 := r1.cell hlt
      have f1 := r1.frozen k
      obtain ⟨u, hu⟩ : ∃ u : Int, 1 + (k : Int) = u := ⟨_, rfl⟩
      have u0 : 1 ≤ u := by omega
      have u1 : u ≤ 1000001 := by omega
      have HU := Lib.hid hu
      obtain ⟨r, hr⟩ : ∃ r : Int, u.tmod 3 = r := ⟨_, rfl⟩
      have hm : mkB k = (r == 0) := by unfold mkB; rw [hu, hr]
      have HB2 : Hid (BR (wr.setCell ⟨g, k, none⟩ (.bool (r == 0))) base (some ⟨g, 0, none⟩) n (putB S' k (r == 0))) := fun _ => ⟨g, rfl, hg, r1.put k _⟩
      have HS2 : Hid (∀ j, j < k + 1 → putB S' k (r == 0) j = mkB j) := fun j hj => by
        unfold putB
        by_cases e : j = k
        · rw [if_pos e, e, hm]
        · rw [if_neg e]
          exact HS.out j (by omega)
      have HL2 := Lib.hid (HL.out.setCell (p := ⟨g, k, none⟩) hg (.bool (r == 0)))
      clear HB HS HL r1 hm
      rw [hu]
      clear hu
      have k0 : (0 : Int) ≤ (k : Int) := by omega
      have k1 : (k : Int) < (n : Int) := by omega
      go_wp2_with fail
      go_roundw
      case rel => exact ⟨k + 1, _, by omega, by go_num, by rw [show ((k + 1 : Nat) : Int) = (k : Int) + 1 by omega, ← Int.add_assoc, HU.out], HB2, HS2, HL2⟩
      case measure => simp [intOf]; omega
    · obtain rfl : k = n := by omega
      have HE : Hid (BR wr base A k mkB) := fun h0 => by
        obtain ⟨g, e1, e2, e3⟩ := HB.out h0
        exact ⟨g, e1, e2, OwnC.congr e3 fun i hi => by rw [HS.out i hi]⟩
      go_wp2
      go_ret
      exact ⟨rfl, HE.out, HL.out⟩

set_option maxHeartbeats 2000000 in
theorem heldBoolS_c (base : Nat) (A : Option Addr) (n cap : Nat) (w : World) (h : BR w base A n mkB) (hn : n ≤ 1000000) :
    Calls Try.prog 52 #[.slice A n cap, .int .i64 1] w fun e w' => e = .returned (.int .i64 (1 + (n : Int))) ∧ w = w' := by
  have HA := Lib.hid h
  clear h
  go_enter Try.func52, Try.ntmps52
  go_wp2_with fail
  go_loop [1, 5] (fun u i => ∃ k : Nat, k ≤ n ∧ i = .int .i64 k ∧ u = .int .i64 (1 + (k : Int))) (fun _ i => n - (intOf i).toNat)
  case atStart => exact ⟨0, Nat.zero_le _, rfl, rfl⟩
  case round =>
    obtain ⟨k, hk, rfl, rfl⟩ := hrel
    by_cases hlt : k < n
    · obtain ⟨g, rfl, hg, r1⟩ := HA.out (by omega)
      have e1 := r1.cell hlt
      obtain ⟨u, hu⟩ : ∃ u : Int, 1 + (k : Int) = u := ⟨_, rfl⟩
      have u0 : 1 ≤ u := by omega
      have u1 : u ≤ 1000001 := by omega
      have HU := Lib.hid hu
      obtain ⟨r, hr⟩ : ∃ r : Int, u.tmod 3 = r := ⟨_, rfl⟩
      have hm : mkB k = (r == 0) := by unfold mkB; rw [hu, hr]
      rw [hm] at e1
      clear r1 hm
      rw [hu]
      clear hu
      have k0 : (0 : Int) ≤ (k : Int) := by omega
      have k1 : (k : Int) < (n : Int) := by omega
      go_wp2_with fail
      go_round
      case rel => exact ⟨k + 1, by omega, by go_num, by rw [show ((k + 1 : Nat) : Int) = (k : Int) + 1 by omega, ← Int.add_assoc, HU.out]⟩
      case measure => simp [intOf]; omega
    · obtain rfl : k = n := by omega
      go_wp2
      go_ret
      exact ⟨rfl, rfl⟩

set_option maxHeartbeats 2000000 in
theorem markNodeS_c (g n cap : Nat) (f : Nat → Value) (w : World) (h : OwnC 70 w g (n * 6) f) (hn : n ≤ 1048577) :
    Calls Try.prog 50 #[.slice (some ⟨g, 0, none⟩) n cap, .int .i64 1] w fun e w' => e = .returned (.int .i64 (1 + 6 * (n : Int))) ∧ w.grownBy w' (some g) := by
  go_enter Try.func50, Try.ntmps50
  go_wp2_with fail
  go_loopw [1, 5] (fun u i wr => ∃ m : Nat, m ≤ n ∧ i = .int .i64 m ∧ u = .int .i64 (1 + 6 * (m : Int)) ∧ (∃ f, OwnC 70 wr g (n * 6) f) ∧ w.grownBy wr (some g)) (fun _ i _ => n - (intOf i).toNat)
  case atStart => exact ⟨0, Nat.zero_le _, rfl, by simp, ⟨f, h⟩, World.grownBy.refl _ _⟩
  case round =>
    obtain ⟨m, hm', rfl, rfl, ⟨f', hf'⟩, hgr⟩ := hrel
    by_cases hlt : m < n
    · obtain ⟨u, hu⟩ : ∃ u : Int, 1 + 6 * (m : Int) = u := ⟨_, rfl⟩
      have u0 : 1 ≤ u := by omega
      have u1 : u ≤ 1099522113546 := by omega
      have e0 := hf'.cell (m * 6) (by omega)
      have q0 := hf'.frozen (m * 6)
      have e1 := hf'.cell (m * 6 + 1) (by omega)
      have q1 := hf'.frozen (m * 6 + 1)
      have e2 := hf'.cell (m * 6 + 2) (by omega)
      have q2 := hf'.frozen (m * 6 + 2)
      have e3 := hf'.cell (m * 6 + 3) (by omega)
      have q3 := hf'.frozen (m * 6 + 3)
      have e4 := hf'.cell (m * 6 + 4) (by omega)
      have q4 := hf'.frozen (m * 6 + 4)
      have e5 := hf'.cell (m * 6 + 5) (by omega)
      have q5 := hf'.frozen (m * 6 + 5)
      have HP := Lib.hid ((((((hf'.set (m * 6) (.int .i64 u)).set (m * 6 + 1) (.int .i64 (u + 1))).set (m * 6 + 2) (.int .i64 (u + 1 + 1))).set (m * 6 + 3) (.int .i64 (u + 1 + 1 + 1))).set (m * 6 + 4) (.int .i64 (u + 1 + 1 + 1 + 1))).set (m * 6 + 5) (.int .i64 (u + 1 + 1 + 1 + 1 + 1)))
      have hnext : 1 + 6 * ((m : Int) + 1) = u + 1 + 1 + 1 + 1 + 1 + 1 := by omega
      have HNX := Lib.hid hnext
      have HGR := Lib.hid hgr
      rw [hu]
      clear hnext hf' hgr hu
      have k0 : (0 : Int) ≤ (m : Int) := by omega
      have k1 : (m : Int) < (n : Int) := by omega
      go_wp2_with fail
      go_roundw
      case rel => exact ⟨m + 1, by omega, by go_num, by rw [show ((m + 1 : Nat) : Int) = (m : Int) + 1 by omega, HNX.out], ⟨_, HP.out⟩, only_setCell (only_setCell (only_setCell (only_setCell (only_setCell (only_setCell (HGR.out) (Or.inl rfl) _) (Or.inl rfl) _) (Or.inl rfl) _) (Or.inl rfl) _) (Or.inl rfl) _) (Or.inl rfl) _⟩
      case measure => simp [intOf]; omega
    · obtain rfl : m = n := by omega
      go_wp2
      go_ret
      exact ⟨rfl, hgr⟩

end Go.Proofs.Ytlpaicpjadkceaa
