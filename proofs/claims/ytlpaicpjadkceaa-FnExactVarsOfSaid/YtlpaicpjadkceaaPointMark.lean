/-
  Slices of Point: mark writes rising numbers into a row of the call's own, held finds them; slices.Clone lays a new row. Conditions: the rows can be read, at most 1048577 elements.
-/
import Derived.Test.YtlpaicpjadkceaaPointIn
import Derived.Test.YtlpaicpjadkceaaOwnV
namespace Go.Proofs.Ytlpaicpjadkceaa
open Go.RowKit
set_option linter.unusedVariables false
set_option maxRecDepth 4000

def mkF3 (K : Int) (i j : Nat) : Int := K + 3 * (i : Int) + (j : Int)

/-- What mark leaves. -/
def MarkPoint (K : Int) (base : Nat) (v : Value) (n : Nat) (w : World) (e : Ending) (w' : World) : Prop :=
  e = .returned (.int .i64 (K + 3 * (n : Int))) ∧ OwnV 3 46 w' base v n (mkF3 K) ∧ Grew w w' base v

set_option maxHeartbeats 2000000 in
theorem markPointS_c (K : Int) (base : Nat) (v : Value) (n : Nat) (F : Nat → Nat → Int) (w : World) (h : OwnV 3 46 w base v n F) (hn : n ≤ 1048577) (hk0 : -1099511627776 ≤ K) (hk1 : K ≤ 1099511627776) :
    Calls Try.prog 61 #[v, .int .i64 K] w (MarkPoint K base v n w) := by
  obtain ⟨A, cap, rfl, h⟩ := h
  by_cases hz : n = 0
  · subst hz
    have HO : Hid (OwnV 3 46 w base (.slice A 0 cap) 0 (mkF3 K)) := by
      rcases h with ⟨rfl, _, rfl⟩ | ⟨g, rfl, h1, h2, h3, f, h4, h5⟩
      · exact ownV_none
      · exact ⟨_, cap, rfl, .inr ⟨g, rfl, h1, h2, h3, f, h4, fun i hi => by omega⟩⟩
    clear h
    go_enter Try.func61, Try.ntmps61
    go_wp2_with fail
    refine wp_loop_rounds 1 ?_
    rw [rounds_succ]
    go_wp2
    go_ret
    exact ⟨ret_int (by simp), HO.out, none, World.grownBy.refl _ _, fun j hj => by cases hj⟩
  · rcases h with ⟨_, h0, _⟩ | ⟨g, rfl, hg, hc, hm, f, hf, _⟩
    · exact absurd h0 hz
    have hpos : 0 < n := by omega
    have hmaxcap : cap ≤ 9223372036854775807 := by unfold maxLen at hm; exact hm
    have hck : n * 3 ≤ cap * 3 := Nat.mul_le_mul_right _ hc
    go_enter Try.func61, Try.ntmps61
    go_wp2_with fail
    go_loopw [1, 5] (fun u i wr => ∃ m : Nat, m ≤ n ∧ i = .int .i64 m ∧ u = .int .i64 (K + 3 * (m : Int)) ∧ (∃ f, OwnC 46 wr g (cap * 3) f ∧ ∀ i, i < m → ∀ j, j < 3 → f (i * 3 + j) = .int .i64 (mkF3 K i j) ∧ I64 (mkF3 K i j)) ∧ w.grownBy wr (some g)) (fun _ i _ => n - (intOf i).toNat)
    case atStart => exact ⟨0, Nat.zero_le _, rfl, by simp, ⟨f, hf, fun i hi => by omega⟩, World.grownBy.refl _ _⟩
    case round =>
      obtain ⟨m, hm', rfl, rfl, ⟨f', hf', hk'⟩, hgr⟩ := hrel
      by_cases hlt : m < n
      · obtain ⟨u, hu⟩ : ∃ u : Int, K + 3 * (m : Int) = u := ⟨_, rfl⟩
        have u0 : -1099511627776 ≤ u := by omega
        have u1 : u ≤ 1099522113546 := by omega
        have e0 := hf'.cell (m * 3) (by omega)
        have q0 := hf'.frozen (m * 3)
        have e1 := hf'.cell (m * 3 + 1) (by omega)
        have q1 := hf'.frozen (m * 3 + 1)
        have e2 := hf'.cell (m * 3 + 2) (by omega)
        have q2 := hf'.frozen (m * 3 + 2)
        have x0 : mkF3 K m 0 = u ∧ I64 (u) := by unfold mkF3 I64; constructor <;> omega
        have x1 : mkF3 K m 1 = u + 1 ∧ I64 (u + 1) := by unfold mkF3 I64; constructor <;> omega
        have x2 : mkF3 K m 2 = u + 1 + 1 ∧ I64 (u + 1 + 1) := by unfold mkF3 I64; constructor <;> omega
        have HP := Lib.hid (hf'.put3 hk' x0 x1 x2)
        have hnext : K + 3 * ((m : Int) + 1) = u + 1 + 1 + 1 := by omega
        have HNX := Lib.hid hnext
        have HGR := Lib.hid hgr
        rw [hu]
        clear hnext hk' hf' hgr hu x0 x1 x2
        have k0 : (0 : Int) ≤ (m : Int) := by omega
        have k1 : (m : Int) < (n : Int) := by omega
        go_wp2_with fail
        go_roundw
        case rel => exact ⟨m + 1, by omega, by go_num, by rw [show ((m + 1 : Nat) : Int) = (m : Int) + 1 by omega, HNX.out], HP.out, only_setCell (only_setCell (only_setCell (HGR.out) (Or.inl rfl) _) (Or.inl rfl) _) (Or.inl rfl) _⟩
        case measure => simp [intOf]; omega
      · obtain rfl : m = n := by omega
        go_wp2
        go_ret
        exact ⟨rfl, ⟨_, cap, rfl, .inr ⟨g, rfl, hg, hc, hm, f', hf', hk'⟩⟩, some g, hgr, fun j hj => by cases hj; exact ⟨hg, rfl⟩⟩

set_option maxHeartbeats 2000000 in
theorem heldPointS_c (K : Int) (L : Nat) (A : Option Addr) (n cap : Nat) (w : World) (h : Tab 3 w L A n (mkF3 K)) (hn : n ≤ 1048577) (hk0 : -1099511627776 ≤ K) (hk1 : K ≤ 1099511627776) :
    Calls Try.prog 64 #[.slice A n cap, .int .i64 K] w fun e w' => e = .returned (.int .i64 (K + 3 * (n : Int))) ∧ w = w' := by
  have H := Lib.hid h
  clear h
  go_enter Try.func64, Try.ntmps64
  go_wp2_with fail
  go_loop [1, 5] (fun u i => ∃ m : Nat, m ≤ n ∧ i = .int .i64 m ∧ u = .int .i64 (K + 3 * (m : Int))) (fun _ i => n - (intOf i).toNat)
  case atStart => exact ⟨0, Nat.zero_le _, rfl, by simp⟩
  case round =>
    obtain ⟨m, hm', rfl, rfl⟩ := hrel
    by_cases hlt : m < n
    · obtain ⟨u, hu⟩ : ∃ u : Int, K + 3 * (m : Int) = u := ⟨_, rfl⟩
      have u0 : -1099511627776 ≤ u := by omega
      have u1 : u ≤ 1099522113546 := by omega
      obtain ⟨b, off, rfl, hb, ⟨c0, c1, c2⟩, _⟩ := H.out.at3 hlt
      rw [show mkF3 K m 0 = u by unfold mkF3; omega] at c0
      rw [show mkF3 K m 1 = u + 1 by unfold mkF3; omega] at c1
      rw [show mkF3 K m 2 = u + 1 + 1 by unfold mkF3; omega] at c2
      have hnext : K + 3 * ((m : Int) + 1) = u + 1 + 1 + 1 := by omega
      have HNX := Lib.hid hnext
      rw [hu]
      clear hnext hu
      have k0 : (0 : Int) ≤ (m : Int) := by omega
      have k1 : (m : Int) < (n : Int) := by omega
      go_wp2_with fail
      go_round
      case rel => exact ⟨m + 1, by omega, by go_num, by rw [show ((m + 1 : Nat) : Int) = (m : Int) + 1 by omega, HNX.out]⟩
      case measure => simp [intOf]; omega
    · obtain rfl : m = n := by omega
      go_wp2
      go_ret
      exact ⟨rfl, rfl⟩

/-- What a clone leaves. -/
def ClonePoint (n : Nat) (F : Nat → Nat → Int) (w : World) (e : Ending) (w' : World) : Prop :=
  ∃ A cap, e = .returned (.slice A n cap) ∧ OwnV 3 46 w' w.heap.size (.slice A n cap) n F ∧ Below w.heap.size w w'

set_option maxHeartbeats 1000000 in
theorem clonePoint_c (L : Nat) (A : Option Addr) (n cap : Nat) (F : Nat → Nat → Int) (w : World) (h : Tab 3 w L A n F) (hL : L ≤ w.heap.size) (hn : n ≤ 1048577) :
    Calls Try.prog 62 #[.slice A n cap] w (ClonePoint n F w) := by
  obtain ⟨i0, hi, hz0, hz1, hz2⟩ := info_parts info_Point
  have heq := fun (w : World) (a : Option Addr) (n c : Nat) => Lib.run_eql_slice_nil (P := Try.prog) w 28 46 a n c 0 0 Try.underlying28
  have HN := Lib.hid ((h.keep ((Below.refl _ _).alloc hL (.cells #[] 46))).news (by omega))
  have HZ : A = none → n = 0 := by
    intro e
    rcases Nat.eq_zero_or_pos n with h0 | hpos
    · exact h0
    · obtain ⟨b, off, e', _⟩ := h 0 hpos
      rw [e] at e'; cases e'
  clear h
  rcases A with _ | a
  · obtain rfl := HZ rfl
    clear HZ
    go_enter Try.func62, Try.ntmps62
    go_wp2
    go_ret
    exact ⟨none, 0, rfl, ownV_none, Below.refl _ _⟩
  · clear HZ
    go_enter Try.func62, Try.ntmps62
    go_wp2_with (at_builtin; refine wpList_append_ownV (base := w.heap.size) (n := 0) (F := F) rfl _ _ 28 rfl i0 _ 24 Try.underlying28 hi hz0 hz1 hz2 rfl (by decide) rfl (ownV_lit (Nat.le_refl _) (heap_alloc_new w _)) _ n cap rfl HN.out (by unfold maxLen; omega) (by omega) (by simp) ?_)
    try simp only [Nat.zero_add]
    intro A' cap' w1 hown hg
    have hb := hg.below (andAlloc (Below.refl w.heap.size w) _) (Nat.le_refl _) (by simp)
    clear hg
    go_wp2
    go_ret
    exact ⟨A', cap', rfl, hown, hb⟩

set_option maxHeartbeats 1000000 in
theorem markSeries_c (K : Int) (base : Nat) (v : Value) (n : Nat) (F : Nat → Nat → Int) (w : World) (h : OwnV 3 46 w base v n F) (hn : n ≤ 1048577) (hk0 : -1099511627776 ≤ K) (hk1 : K ≤ 1099511627776) :
    Calls Try.prog 24 #[.agg #[v], .int .i64 K] w (MarkPoint K base v n w) := by
  have HC := Lib.hid (markPointS_c K base v n F _ (h.alloc (.cells #[v] 30)) hn hk0 hk1)
  obtain ⟨A, cap, rfl, _⟩ := id h
  clear h
  go_enter Try.func24, Try.ntmps24
  go_wp2_with (go_at_call 61; refine HC.out.mono ?_; rintro e w1 ⟨rfl, o1, g1⟩)
  go_ret
  exact ⟨rfl, o1, g1.alloc⟩

set_option maxHeartbeats 1000000 in
theorem heldSeries_c (K : Int) (L : Nat) (A : Option Addr) (n cap : Nat) (w : World) (h : Tab 3 w L A n (mkF3 K)) (hL : L ≤ w.heap.size) (hn : n ≤ 1048577) (hk0 : 0 ≤ K) (hk1 : K ≤ 1099511627776) :
    Calls Try.prog 30 #[.agg #[.slice A n cap], .int .i64 K] w fun e w' => e = .returned (.int .i64 (K + 3 * (n : Int))) ∧ Below w.heap.size w w' := by
  have HC := Lib.hid (heldPointS_c K L A n cap _ (h.keep ((Below.refl _ _).alloc hL (.cells #[.slice A n cap] 30))) hn (by omega) hk1)
  obtain ⟨u, hu⟩ : ∃ u : Int, K + 3 * (n : Int) = u := ⟨_, rfl⟩
  have d0 : decide (u < 0) = false := decide_eq_false (by omega)
  rw [hu] at HC ⊢
  clear h hu
  go_enter Try.func30, Try.ntmps30
  go_wp2_with (go_at_call 64; refine HC.out.mono ?_; rintro e w1 ⟨rfl, rfl⟩)
  go_ret
  exact ⟨rfl, andAlloc (Below.refl _ _) _⟩

/-- A result that is a new Series. -/
def BoxPoint (n : Nat) (F : Nat → Nat → Int) (w : World) (e : Ending) (w' : World) : Prop :=
  ∃ A cap, e = .returned (.agg #[.slice A n cap]) ∧ OwnV 3 46 w' w.heap.size (.slice A n cap) n F ∧ Below w.heap.size w w'

set_option maxHeartbeats 1000000 in
theorem copySeries_c (L : Nat) (A : Option Addr) (n cap : Nat) (F : Nat → Nat → Int) (w : World) (h : Tab 3 w L A n F) (hL : L ≤ w.heap.size) (hn : n ≤ 1048577) :
    Calls Try.prog 63 #[.agg #[.slice A n cap]] w (BoxPoint n F w) := by
  have l0 : Below w.heap.size w ((w.alloc (.cells #[.slice A n cap] 30)).alloc (.cells #[.slice none 0 0] 30)) := andAlloc (andAlloc (Below.refl _ _) _) _
  have HC := Lib.hid (clonePoint_c L A n cap F _ (h.keep (l0.mono hL)) (by simp; omega) hn)
  clear h
  go_enter Try.func63, Try.ntmps63
  go_wp2_with fail
  refine HC.out.mono ?_
  rintro e w1 ⟨A', cap', rfl, o1, b1⟩
  have e2 : w1.cell? ⟨w.heap.size + 1, 0, none⟩ = some (.slice none 0 0) := cell_later b1 (by go_simp)
  have f2 : w1.frozen? ⟨w.heap.size + 1, 0, none⟩ = false := (b1.frozen (by simp)).trans (by go_simp)
  have l1 := andThen l0 b1
  have o2 := Lib.hid ((o1.set (p := ⟨w.heap.size + 1, 0, none⟩) (by show w.heap.size + 1 < _; simp) (.slice A' n cap')).more (b := w.heap.size) (by simp; omega))
  have r0 : (w1.setCell ⟨w.heap.size + 1, 0, none⟩ (.slice A' n cap')).cell? ⟨w.heap.size + 1, 0, none⟩ = some (.slice A' n cap') := World.cell?_setCell_same' _ _ _ (by rw [e2]; rfl)
  clear b1 l0 o1
  go_wp2_with fail
  refine bodyPost_ret (v := .agg #[.slice A' n cap']) (by simp [results, Try.results63, go_sem, r0]) rfl ?_
  exact ⟨A', cap', rfl, o2.out, below_put l1 (by omega) _ _⟩

end Go.Proofs.Ytlpaicpjadkceaa
