/-
  Slices of Segment: mark writes rising numbers into a row of the call's own, held finds them; slices.Clone lays a new row. Conditions: the rows can be read, at most 1048577 elements.
-/
import Derived.Test.YtmehfclhmbhjaaaSegIn
import Derived.Test.YtmehfclhmbhjaaaOwnV
namespace Go.Proofs.Ytmehfclhmbhjaaa
open Go.RowKit
set_option linter.unusedVariables false
set_option maxRecDepth 4000

def mkF3 (K : Int) (i j : Nat) : Int := K + 3 * (i : Int) + (j : Int)

/-- What mark leaves. -/
def MarkSeg (K : Int) (base : Nat) (v : Value) (n : Nat) (w : World) (e : Ending) (w' : World) : Prop :=
  e = .returned (.int .i64 (K + 3 * (n : Int))) ∧ OwnV 3 68 w' base v n (mkF3 K) ∧ Grew w w' base v

set_option maxHeartbeats 2000000 in
theorem markSegS_c (K : Int) (base : Nat) (v : Value) (n : Nat) (F : Nat → Nat → Int) (w : World) (h : OwnV 3 68 w base v n F) (hn : n ≤ 1048577) (hk0 : -1099511627776 ≤ K) (hk1 : K ≤ 1099511627776) :
    Calls Try.prog 45 #[v, .int .i64 K] w (MarkSeg K base v n w) := by
  obtain ⟨A, cap, rfl, h⟩ := h
  by_cases hz : n = 0
  · subst hz
    have HO : Hid (OwnV 3 68 w base (.slice A 0 cap) 0 (mkF3 K)) := by
      rcases h with ⟨rfl, _, rfl⟩ | ⟨g, rfl, h1, h2, h3, f, h4, h5⟩
      · exact ownV_none
      · exact ⟨_, cap, rfl, .inr ⟨g, rfl, h1, h2, h3, f, h4, fun i hi => by omega⟩⟩
    clear h
    go_enter Try.func45, Try.ntmps45
    go_wp2_with fail
    refine wp_loop_rounds 1 ?_
    rw [rounds_succ]
    go_wp2
    go_ret
    exact ⟨ret_int (by simp), HO.out, none, World.grownBy.refl _ _, fun j hj => by cases hj⟩
  · rcases h with ⟨_, h0, _⟩ | ⟨g, rfl, hg, hc, hm, f, hf, _⟩
    · exact absurd h0 hz
    have hpos : 0 < n := by omega
    have hmaxcap : cap ≤ 9223372036854775807 := by unfold maxLen at hm; exact hm
    have hck : n * 3 ≤ cap * 3 := Nat.mul_le_mul_right _ hc
    go_enter Try.func45, Try.ntmps45
    go_wp2_with fail
    go_loopw [1, 5] (fun u i wr => ∃ m : Nat, m ≤ n ∧ i = .int .i64 m ∧ u = .int .i64 (K + 3 * (m : Int)) ∧ (∃ f, OwnC 68 wr g (cap * 3) f ∧ ∀ i, i < m → ∀ j, j < 3 → f (i * 3 + j) = .int .i64 (mkF3 K i j) ∧ I64 (mkF3 K i j)) ∧ w.grownBy wr (some g)) (fun _ i _ => n - (intOf i).toNat)
    case atStart => exact ⟨0, Nat.zero_le _, rfl, by simp, ⟨f, hf, fun i hi => by omega⟩, World.grownBy.refl _ _⟩
    case round =>
      obtain ⟨m, hm', rfl, rfl, ⟨f', hf', hk'⟩, hgr⟩ := hrel
      by_cases hlt : m < n
      · obtain ⟨u, hu⟩ : ∃ u : Int, K + 3 * (m : Int) = u := ⟨_, rfl⟩
        have u0 : -1099511627776 ≤ u := by omega
        have u1 : u ≤ 1099522113546 := by omega
        have e0 := hf'.cell (m * 3) (by omega)
        have q0 := hf'.frozen (m * 3)
        have e1 := hf'.cell (m * 3 + 1) (by omega)
        have q1 := hf'.frozen (m * 3 + 1)
        have e2 := hf'.cell (m * 3 + 2) (by omega)
        have q2 := hf'.frozen (m * 3 + 2)
        have x0 : mkF3 K m 0 = u ∧ I64 (u) := by unfold mkF3 I64; constructor <;> omega
        have x1 : mkF3 K m 1 = u + 1 ∧ I64 (u + 1) := by unfold mkF3 I64; constructor <;> omega
        have x2 : mkF3 K m 2 = u + 1 + 1 ∧ I64 (u + 1 + 1) := by unfold mkF3 I64; constructor <;> omega
        have HP := Lib.hid (hf'.put3 hk' x0 x1 x2)
        have hnext : K + 3 * ((m : Int) + 1) = u + 1 + 1 + 1 := by omega
        have HNX := Lib.hid hnext
        have HGR := Lib.hid hgr
        rw [hu]
        clear hnext hk' hf' hgr hu x0 x1 x2
        have k0 : (0 : Int) ≤ (m : Int) := by omega
        have k1 : (m : Int) < (n : Int) := by omega
        go_wp2_with fail
        go_roundw
        case rel => exact ⟨m + 1, by omega, by go_num, by rw [show ((m + 1 : Nat) : Int) = (m : Int) + 1 by omega, HNX.out], HP.out, only_setCell (only_setCell (only_setCell (HGR.out) (Or.inl rfl) _) (Or.inl rfl) _) (Or.inl rfl) _⟩
        case measure => simp [intOf]; omega
      · obtain rfl : m = n := by omega
        go_wp2
        go_ret
        exact ⟨rfl, ⟨_, cap, rfl, .inr ⟨g, rfl, hg, hc, hm, f', hf', hk'⟩⟩, some g, hgr, fun j hj => by cases hj; exact ⟨hg, rfl⟩⟩

set_option maxHeartbeats 2000000 in
theorem heldSegS_c (K : Int) (L : Nat) (A : Option Addr) (n cap : Nat) (w : World) (h : Tab 3 w L A n (mkF3 K)) (hn : n ≤ 1048577) (hk0 : -1099511627776 ≤ K) (hk1 : K ≤ 1099511627776) :
    Calls Try.prog 46 #[.slice A n cap, .int .i64 K] w fun e w' => e = .returned (.int .i64 (K + 3 * (n : Int))) ∧ w = w' := by
  have H := Lib.hid h
  clear h
  go_enter Try.func46, Try.ntmps46
  go_wp2_with fail
  go_loop [1, 5] (fun u i => ∃ m : Nat, m ≤ n ∧ i = .int .i64 m ∧ u = .int .i64 (K + 3 * (m : Int))) (fun _ i => n - (intOf i).toNat)
  case atStart => exact ⟨0, Nat.zero_le _, rfl, by simp⟩
  case round =>
    obtain ⟨m, hm', rfl, rfl⟩ := hrel
    by_cases hlt : m < n
    · obtain ⟨u, hu⟩ : ∃ u : Int, K + 3 * (m : Int) = u := ⟨_, rfl⟩
      have u0 : -1099511627776 ≤ u := by omega
      have u1 : u ≤ 1099522113546 := by omega
      obtain ⟨b, off, rfl, hb, ⟨c0, c1, c2⟩, _⟩ := H.out.at3 hlt
      rw [show mkF3 K m 0 = u by unfold mkF3; omega] at c0
      rw [show mkF3 K m 1 = u + 1 by unfold mkF3; omega] at c1
      rw [show mkF3 K m 2 = u + 1 + 1 by unfold mkF3; omega] at c2
      have hnext : K + 3 * ((m : Int) + 1) = u + 1 + 1 + 1 := by omega
      have HNX := Lib.hid hnext
      rw [hu]
      clear hnext hu
      have k0 : (0 : Int) ≤ (m : Int) := by omega
      have k1 : (m : Int) < (n : Int) := by omega
      go_wp2_with fail
      go_round
      case rel => exact ⟨m + 1, by omega, by go_num, by rw [show ((m + 1 : Nat) : Int) = (m : Int) + 1 by omega, HNX.out]⟩
      case measure => simp [intOf]; omega
    · obtain rfl : m = n := by omega
      go_wp2
      go_ret
      exact ⟨rfl, rfl⟩


end Go.Proofs.Ytmehfclhmbhjaaa
