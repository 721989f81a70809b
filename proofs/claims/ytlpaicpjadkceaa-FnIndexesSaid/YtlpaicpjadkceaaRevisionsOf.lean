/-
  RevisionsOf of both packages returns the values of the points of a month, in a new row. Conditions: the points can be read.
-/
import Derived.Test.YtlpaicpjadkceaaSeriesIn
import Derived.Test.YtlpaicpjadkceaaInts
import Derived.BigQuiet
namespace Go.Proofs.Ytlpaicpjadkceaa
open Go.RowKit
set_option linter.unusedVariables false
set_option maxRecDepth 4000

def revs (F : Nat → Nat → Int) (m : Int) : Nat → List Int
  | 0 => []
  | k + 1 => if (F k 0 == m) = true then revs F m k ++ [F k 2] else revs F m k
theorem revs_len (F : Nat → Nat → Int) (m : Int) : ∀ k, (revs F m k).length ≤ k
  | 0 => by simp [revs]
  | k + 1 => by
    have := revs_len F m k
    unfold revs
    split
    · rw [List.length_append]; simp; omega
    · omega
theorem revs_yes {F : Nat → Nat → Int} {m : Int} {k : Nat} (h : (F k 0 == m) = true) : revs F m (k + 1) = revs F m k ++ [F k 2] := by
  conv => lhs; unfold revs
  rw [if_pos h]
theorem revs_no {F : Nat → Nat → Int} {m : Int} {k : Nat} (h : (F k 0 == m) = false) : revs F m (k + 1) = revs F m k := by
  conv => lhs; unfold revs
  rw [if_neg (by simp [h])]

theorem own_lit {w : World} {g base : Nat} (hg : w.heap.size = g) (hb : base ≤ g) : OwnInts (w.alloc (.cells #[] 3)) base (.slice (some ⟨g, 0, none⟩) 0 0) [] := by
  subst hg
  exact World.ownsRow_lit (base := base) (e := 3) (size := 1) w #[] 0 hb (by decide) rfl
theorem OwnInts.less {w : World} {base b : Nat} {v : Value} {zs : List Int} (h : OwnInts w base v zs) (hb : b ≤ base) : OwnInts w b v zs := by
  obtain ⟨hl, hor⟩ := h
  refine ⟨hl, ?_⟩
  rcases hor with hor | ⟨g, cp, cur, e1, e2, e3⟩
  · exact .inl hor
  · exact .inr ⟨g, cp, cur, e1, by omega, e3⟩

/-- A result that is a new row of integers. -/
def RowEnd (zs : List Int) (w : World) (e : Ending) (w' : World) : Prop := ∃ v, e = .returned v ∧ OwnInts w' w.heap.size v zs ∧ Below w.heap.size w w'

set_option maxHeartbeats 2000000 in
theorem implRevisionsOf_c (L : Nat) (A : Option Addr) (n cap : Nat) (F : Nat → Nat → Int) (m : Int) (w : World) (h1 : Tab 3 w L A n F) (hL : L ≤ w.heap.size) (hn : n ≤ 1048577) :
    Calls Try.prog 22 #[.agg #[.slice A n cap], .int .i64 m] w (RowEnd (revs F m n) w) := by
  obtain ⟨i0, hi, hz0, hz1, hz2⟩ := info_parts info_int
  have H1 := Lib.hid h1
  clear h1
  go_enter Try.func22, Try.ntmps22
  go_wp2_with fail
  go_loopw [5, 12] (fun v i wr => ∃ k : Nat, k ≤ n ∧ i = .int .i64 k ∧ OwnInts wr w.heap.size v (revs F m k) ∧ Below w.heap.size w wr) (fun _ i _ => n - (intOf i).toNat)
  case atStart => exact ⟨0, Nat.zero_le _, rfl, own_lit (by simp) (by omega), andAlloc (andAlloc (Below.refl _ _) _) _⟩
  case round =>
    obtain ⟨k, hk, rfl, hown, hbl⟩ := hrel
    by_cases hlt : k < n
    · have hrl := revs_len F m k
      obtain ⟨b, off, rfl, hb, ⟨c0, c1, c2⟩, _⟩ := (H1.out.keep (hbl.mono hL)).at3 hlt
      have k0 : (0 : Int) ≤ (k : Int) := by omega
      have k1 : (k : Int) < (n : Int) := by omega
      cases he : (F k 0 == m)
      case false =>
        have HN := Lib.hid (revs_no he)
        have hown1 := OwnInts.below hown ((Below.refl _ _).alloc (Nat.le_refl _) (.cells #[.int .i64 (F k 0), .int .i64 (F k 1), .int .i64 (F k 2)] 46))
        have hbl1 := andAlloc hbl (.cells #[.int .i64 (F k 0), .int .i64 (F k 1), .int .i64 (F k 2)] 46)
        generalize F k 0 = x at *
        generalize F k 1 = y at *
        generalize F k 2 = z at *
        go_wp2_with fail
        go_roundw
        case rel => exact ⟨k + 1, by omega, by go_num, by rw [HN.out]; exact hown1, hbl1⟩
        case measure => simp [intOf]; omega
      case true =>
        have HN := Lib.hid (revs_yes he)
        have hown1 := OwnInts.below hown ((Below.refl _ _).alloc (Nat.le_refl _) (.cells #[.int .i64 (F k 0), .int .i64 (F k 1), .int .i64 (F k 2)] 46))
        have hbl1 := andAlloc hbl (.cells #[.int .i64 (F k 0), .int .i64 (F k 1), .int .i64 (F k 2)] 46)
        generalize F k 0 = x at *
        generalize F k 1 = y at *
        generalize F k 2 = z at *
        have hsz := hbl.size
        have hlt3 := World.ownsRow.lt hown1
        go_wp2_with (at_builtin; refine wpList_append_own _ rfl _ _ 36 rfl w.heap.size 3 i0 (.int .i64 0) 1 8 Try.underlying36 hi hz0 hz1 hz2 rfl (by decide) _ _ _ rfl (hown1.alloc _) ⟨wr.heap.size + 1, 0, none⟩ 1 1 [.int .i64 z] rfl rfl (by simpa using one_news (wr.alloc (.cells #[.int .i64 x, .int .i64 y, .int .i64 z] 46)) (.int .i64 z) 3) (one_cell z) (by unfold maxLen; omega) (by omega) (by simp; omega) ?_)
        intro v' w3 hown3 hg3 _
        have hown4 := own_push hown3
        have hbl4 := (andAlloc hbl1 (.cells #[.int .i64 z] 3)).grown hg3 (by simp; omega) (fun j hj => (hlt3 j hj).1)
        clear hown3 hg3 hlt3 hown1 hbl1 hown hbl
        go_wp2
        go_roundw
        case rel => exact ⟨k + 1, by omega, by go_num, by rw [HN.out]; exact hown4, hbl4⟩
        case measure => simp [intOf]; omega
    · obtain rfl : k = n := by omega
      go_wp2
      go_ret
      exact ⟨_, rfl, hown, hbl⟩

set_option maxHeartbeats 2000000 in
theorem specRevisionsOf_c (L : Nat) (A : Option Addr) (n cap : Nat) (F : Nat → Nat → Int) (m : Int) (w : World) (h1 : Tab 3 w L A n F) (hL : L ≤ w.heap.size) (hn : n ≤ 1048577) :
    Calls Try.prog 21 #[.agg #[.slice A n cap], .int .i64 m] w (RowEnd (revs F m n) w) := by
  obtain ⟨i0, hi, hz0, hz1, hz2⟩ := info_parts info_int
  have L0 : Below w.heap.size w (w.alloc (.cells #[.slice A n cap] 30)) := andAlloc (Below.refl _ _) _
  have B0 : (w.alloc (.cells #[.slice A n cap] 30)).cell? ⟨w.heap.size, 0, none⟩ = some (.slice A n cap) := by go_simp
  have S0 : (w.alloc (.cells #[.slice A n cap] 30)).heap.size = w.heap.size + 1 := by simp
  have H1 := Lib.hid (h1.keep (L0.mono hL))
  clear h1
  go_enter Try.func21, Try.ntmps21
  go_wp2_with fail
  generalize w.alloc (.cells #[.slice A n cap] 30) = W1 at L0 B0 S0 H1 ⊢
  have hL1 : L ≤ W1.heap.size := by omega
  have hw1 : w.heap.size ≤ W1.heap.size := by omega
  have HS0 := Lib.hid S0
  clear S0
  go_loopw [5, 6] (fun v i wr => ∃ k : Nat, k ≤ n ∧ i = .int .i64 k ∧ OwnInts wr W1.heap.size v (revs F m k) ∧ Below W1.heap.size W1 wr) (fun _ i _ => n - (intOf i).toNat)
  case atStart => exact ⟨0, Nat.zero_le _, rfl, own_lit (by first | exact HS0.out | rfl) (by have := HS0.out; omega), andAlloc (Below.refl _ _) _⟩
  case round =>
    obtain ⟨k, hk, rfl, hown, hbl⟩ := hrel
    have sl := cell_later hbl B0
    by_cases hlt : k < n
    · have hrl := revs_len F m k
      obtain ⟨b, off, rfl, hb, ⟨c0, c1, c2⟩, _⟩ := (H1.out.keep (hbl.mono hL1)).at3 hlt
      have k0 : (0 : Int) ≤ (k : Int) := by omega
      have k1 : (k : Int) < (n : Int) := by omega
      cases he : (F k 0 == m)
      case false =>
        have HN := Lib.hid (revs_no he)
        generalize F k 0 = x at *
        generalize F k 2 = z at *
        go_wp2_with fail
        go_roundw
        case rel => exact ⟨k + 1, by omega, by go_num, by rw [HN.out]; exact hown, hbl⟩
        case measure => simp [intOf]; omega
      case true =>
        have HN := Lib.hid (revs_yes he)
        generalize F k 0 = x at *
        generalize F k 2 = z at *
        have hsz := hbl.size
        have hlt3 := World.ownsRow.lt hown
        go_wp2_with (at_builtin; refine wpList_append_own _ rfl _ _ 36 rfl W1.heap.size 3 i0 (.int .i64 0) 1 8 Try.underlying36 hi hz0 hz1 hz2 rfl (by decide) _ _ _ rfl (hown.alloc _) ⟨wr.heap.size, 0, none⟩ 1 1 [.int .i64 z] rfl rfl (one_news wr (.int .i64 z) 3) (one_cell z) (by unfold maxLen; omega) (by omega) (by simp; omega) ?_)
        intro v' w3 hown3 hg3 _
        have hown4 := own_push hown3
        have hbl4 := (andAlloc hbl (.cells #[.int .i64 z] 3)).grown hg3 (by simp; omega) (fun j hj => (hlt3 j hj).1)
        clear hown3 hg3 hlt3 hown hbl
        go_wp2
        go_roundw
        case rel => exact ⟨k + 1, by omega, by go_num, by rw [HN.out]; exact hown4, hbl4⟩
        case measure => simp [intOf]; omega
    · obtain rfl : k = n := by omega
      go_wp2
      go_ret
      exact ⟨_, rfl, hown.less hw1, andThen L0 hbl⟩

end Go.Proofs.Ytlpaicpjadkceaa
