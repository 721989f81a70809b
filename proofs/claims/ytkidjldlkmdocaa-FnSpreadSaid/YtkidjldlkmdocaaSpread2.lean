/-
  spec.SpreadYear returns the same list as impl.SpreadYear, in a new row. Conditions: none.
-/
import Derived.Test.YtkidjldlkmdocaaSpread
namespace Go.Proofs.Ytkidjldlkmdocaa
open Go.RowKit
set_option linter.unusedVariables false

set_option maxHeartbeats 1000000 in
theorem specSpread_c (t m : Int) (w : World) : Calls Try.prog 31 #[.int .i64 t, .int .i64 m] w (RowEnd (spread t m) w) := by
  obtain ⟨i0, hi, hz0, hz1, hz2⟩ := info_parts info_int
  cases h1 : inB t 0 1000000000 <;> cases h2 : inB m 1 12
  case true.true =>
    obtain ⟨t0, t1⟩ := inB_iff.1 h1
    obtain ⟨m0, m1⟩ := inB_iff.1 h2
    have HS : Hid (spread t m = spr t m m.toNat) := by show _ = _; simp [spread, h1, h2]
    go_enter Try.func31, Try.ntmps31
    go_wp2_with fail
    go_loopw [5, 6] (fun v i wr => ∃ k : Nat, (k : Int) ≤ m ∧ i = .int .i64 (k + 1) ∧ OwnInts wr w.heap.size v (spr t m k) ∧ Below w.heap.size w wr) (fun _ i _ => (m + 1 - intOf i).toNat)
    case atStart => exact ⟨0, by omega, rfl, World.ownsRow_lit w #[] 0 (Nat.le_refl _) (by decide) rfl, andAlloc (Below.refl _ _) _⟩
    case round =>
      obtain ⟨k, hk, rfl, hown, hbl⟩ := hrel
      by_cases hlt : (k : Int) + 1 ≤ m
      · obtain ⟨a0, a1⟩ := prod_bd (k := (k : Int) + 1) (t := t) (by omega) (by omega) t0 t1
        obtain ⟨a2, a3⟩ := prod_bd (k := (k : Int)) (t := t) (by omega) (by omega) t0 t1
        obtain ⟨d0, d1⟩ := div_bd (m := m) a0 a1 m0
        obtain ⟨d2, d3⟩ := div_bd (m := m) a2 a3 m0
        have x0 : ¬ m = 0 := by omega
        have u1 : (((k : Int) + 1) * t).tdiv m = ((k : Int) + 1) * t / m := Int.tdiv_eq_ediv_of_nonneg a0
        have u2 : ((k : Int) * t).tdiv m = (k : Int) * t / m := Int.tdiv_eq_ediv_of_nonneg a2
        have x1 : IntKind.i64.wrap (((k : Int) + 1) * t) = ((k : Int) + 1) * t := IntWalk.i64_in _ ⟨by omega, by omega⟩
        have x2 : IntKind.i64.wrap ((((k : Int) + 1) * t).tdiv m) = ((k : Int) + 1) * t / m := by rw [u1]; exact IntWalk.i64_in _ ⟨by omega, by omega⟩
        have x3 : IntKind.i64.wrap (k : Int) = k := IntWalk.i64_in _ ⟨by omega, by omega⟩
        have x4 : IntKind.i64.wrap ((k : Int) * t) = (k : Int) * t := IntWalk.i64_in _ ⟨by omega, by omega⟩
        have x5 : IntKind.i64.wrap (((k : Int) * t).tdiv m) = (k : Int) * t / m := by rw [u2]; exact IntWalk.i64_in _ ⟨by omega, by omega⟩
        have x6 : IntKind.i64.wrap (((k : Int) + 1) * t / m - (k : Int) * t / m) = part t m k := IntWalk.i64_in _ ⟨by omega, by omega⟩
        have hsz := hbl.size
        have hkl : k ≤ 12 := by omega
        clear u1 u2 d0 d1 d2 d3 a0 a1 a2 a3
        go_wp2_with (go_at_call 39; refine (l01In_c _ _ _ _).mono ?_; rintro e w' ⟨rfl, rfl⟩)
        go_region_held3 (fun w' => True) (trivial)
          ((refine step_append_lies _ (by rfl) _ _ _ (by rfl) w.heap.size 3 i0 _ 1 8 Try.underlying42 hi hz0 hz1 hz2 rfl (by omega) _ _ _ (by rfl) ((hown.alloc _).drew)
              ⟨wr.heap.size, 0, none⟩ 1 1 [.int .i64 (part t m k)] (by rfl) (by rfl) (cell_one_new _ _ _) (one_cell _)
              (by omega) (by rw [spr_len]; unfold maxLen; omega) (by rw [spr_len]; omega) (by simp; omega) (wr.heap.size + 1) (by simp) ?_; intro gg cap w1 hown1 hgrow hat hlt1))
        rw [← List.map_singleton, ← List.map_append, ← spr_succ] at hown1
        have hown2 : OwnInts w1 w.heap.size (.slice (some ⟨gg, 0, none⟩) ((spr t m k).length + 1) cap) (spr t m (k + 1)) := by
          unfold OwnInts
          rw [spr_len] at hown1 ⊢
          rw [spr_len]
          exact hown1
        have hlt3 := World.ownsRow.lt hown
        have hbl2 : Below w.heap.size w w1 := (andAlloc hbl (.cells #[.int .i64 (part t m k)] 3)).drew.grown hgrow (Nat.le_trans hbl.size (by simp)) (fun j hj => (hlt3 j hj).1)
        clear hown1 hgrow hat hlt1 hown hlt3 hbl x0 x1 x2 x3 x4 x5 x6
        go_wp2
        go_roundw
        case rel => exact ⟨k + 1, by omega, by go_num, hown2, hbl2⟩
        case measure => simp [intOf]; omega
      · have hkm : k = m.toNat := by omega
        have HK := Lib.hid hkm
        clear hkm
        have hd : decide ((k : Int) + 1 ≤ m) = false := decide_eq_false hlt
        go_wp2
        go_ret
        exact ⟨_, rfl, by rw [HS.out, ← HK.out]; exact hown, hbl⟩
  all_goals
    have HS : Hid (spread t m = []) := by show _ = _; simp [spread, h1, h2]
    go_enter Try.func31, Try.ntmps31
    go_wp2_with fail
    go_loopw [5, 6] (fun v i wr => i = .int .i64 1 ∧ OwnInts wr w.heap.size v [] ∧ Below w.heap.size w wr) (fun _ i _ => 0)
    case atStart => exact ⟨rfl, World.ownsRow_lit w #[] 0 (Nat.le_refl _) (by decide) rfl, andAlloc (Below.refl _ _) _⟩
    case round =>
      obtain ⟨rfl, hown, hbl⟩ := hrel
      cases h3 : decide (1 ≤ m) <;> cases h4 : decide (m ≤ 12)
      all_goals
        first
        | (exfalso; have e3 := of_decide_eq_true h3; have e4 := of_decide_eq_true h4; have e2 := inB_not.1 h2; omega)
        | (go_wp2_with (go_at_call 39; refine (l01In_c _ _ _ _).mono ?_; rintro e w' ⟨rfl, rfl⟩)
           go_ret
           exact ⟨_, rfl, by rw [HS.out]; exact hown, hbl⟩)

end Go.Proofs.Ytkidjldlkmdocaa
