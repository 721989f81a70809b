/-
  SegmentAt of both packages computes one plain function. Conditions: the list can be read.
-/
import Derived.Test.YtmehfclhmbhjaaaTimelineOkLaw
namespace Go.Proofs.Ytmehfclhmbhjaaa
open Go.RowKit
set_option linter.unusedVariables false
set_option maxRecDepth 4000

/-- The first index below n at which p holds; -1 if there is none. -/
def firstAt (n : Nat) (p : Nat → Bool) : Int := match (List.range n).find? p with | some i => (i : Int) | none => -1
theorem firstAt_hit {n k : Nat} {p : Nat → Bool} (hk : k < n) (hp : p k = true) (hall : ∀ j, j < k → p j = false) : firstAt n p = k := by
  have : (List.range n).find? p = some k := by
    rw [List.find?_range_eq_some]
    exact ⟨hp, by simpa using hk, fun j hj => by simp [hall j hj]⟩
  unfold firstAt
  rw [this]
theorem firstAt_none {n : Nat} {p : Nat → Bool} (hall : ∀ j, j < n → p j = false) : firstAt n p = -1 := by
  have : (List.range n).find? p = none := by
    rw [List.find?_eq_none]
    intro j hj
    simp [hall j (by simpa using hj)]
  unfold firstAt
  rw [this]

def inSeg (F : Nat → Nat → Int) (m : Int) (i : Nat) : Bool := decide (F i 0 ≤ m) && decide (m < F i 1)

set_option maxHeartbeats 400000 in
theorem segIn_c (x y z m : Int) (B : Nat) (w : World) (hB : w.cell? ⟨B, 0, none⟩ = some (.int .i64 m)) :
    Calls Try.prog 52 #[.agg #[.int .i64 x, .int .i64 y, .int .i64 z], .pointer (some ⟨B, 0, none⟩)] w fun e w' => e = .returned (.bool (decide (x ≤ m) && decide (m < y))) ∧ Below w.heap.size w w' := by
  have hlt := World.block_lt_of_cell? _ _ hB
  have hB' : (w.alloc (.cells #[.int .i64 x, .int .i64 y, .int .i64 z] 68)).cell? ⟨B, 0, none⟩ = some (.int .i64 m) := cell_later (andAlloc (Below.refl _ _) _) hB
  cases h1 : decide (x ≤ m)
  · go_enter Try.func52, Try.ntmps52
    go_wp2_with fail
    go_ret
    exact ⟨rfl, andAlloc (Below.refl _ _) _⟩
  · go_enter Try.func52, Try.ntmps52
    go_wp2_with fail
    go_ret
    exact ⟨rfl, andAlloc (Below.refl _ _) _⟩

set_option maxHeartbeats 1000000 in
theorem indexSeg_c (L B : Nat) (A : Option Addr) (n cap : Nat) (F : Nat → Nat → Int) (m : Int) (w : World) (h1 : Tab 3 w L A n F) (hL : L ≤ w.heap.size) (hn : n ≤ 1048576) (hB : w.cell? ⟨B, 0, none⟩ = some (.int .i64 m)) :
    Calls Try.prog 51 #[.slice A n cap, .func (.func 52) #[] #[.pointer (some ⟨B, 0, none⟩)]] w fun e w' => e = .returned (.int .i64 (firstAt n (inSeg F m))) ∧ Below w.heap.size w w' := by
  have H1 := Lib.hid h1
  clear h1
  go_enter Try.func51, Try.ntmps51
  go_wp2_with fail
  go_loopw [5, 8] (fun _ i wr => ∃ k : Nat, k ≤ n ∧ i = .int .i64 k ∧ (∀ j, j < k → inSeg F m j = false) ∧ Below w.heap.size w wr) (fun _ i _ => n - (intOf i).toNat)
  case atStart => exact ⟨0, Nat.zero_le _, rfl, (fun i hi => by omega), Below.refl _ _⟩
  case round =>
    obtain ⟨k, hk, rfl, hall, hbl⟩ := hrel
    have HALL := Lib.hid hall
    clear hall
    by_cases hlt : k < n
    · obtain ⟨b, off, rfl, hb, ⟨c0, c1, c2⟩, _⟩ := (H1.out.keep (hbl.mono hL)).at3 hlt
      have hBr := cell_later hbl hB
      have k0 : (0 : Int) ≤ (k : Int) := by omega
      have k1 : (k : Int) < (n : Int) := by omega
      cases hp : inSeg F m k
      case true =>
        have HF := Lib.hid (firstAt_hit hlt hp HALL.out)
        have HP : Hid ((decide (F k 0 ≤ m) && decide (m < F k 1)) = true) := hp
        generalize F k 0 = x at *
        generalize F k 1 = y at *
        generalize F k 2 = z at *
        go_wp2_with (go_at_call 52; refine (segIn_c _ _ _ m B _ hBr).mono ?_; rintro e w' ⟨rfl, hb'⟩; rw [HP.out])
        go_ret
        exact ⟨ret_int HF.out.symm, andThen hbl hb'⟩
      case false =>
        have HP : Hid ((decide (F k 0 ≤ m) && decide (m < F k 1)) = false) := hp
        generalize F k 0 = x at *
        generalize F k 1 = y at *
        generalize F k 2 = z at *
        go_wp2_with (go_at_call 52; refine (segIn_c _ _ _ m B _ hBr).mono ?_; rintro e w' ⟨rfl, hb'⟩; rw [HP.out])
        go_roundw
        case rel =>
          refine ⟨k + 1, by omega, by go_num, fun j hj => ?_, andThen hbl hb'⟩
          rcases Nat.lt_or_ge j k with h | h
          · exact HALL.out j h
          · obtain rfl : j = k := by omega
            exact hp
        case measure => simp [intOf]; omega
    · obtain rfl : k = n := by omega
      have HF := Lib.hid (firstAt_none HALL.out)
      go_wp2_with fail
      go_ret
      exact ⟨ret_int HF.out.symm, hbl⟩

set_option maxHeartbeats 1000000 in
theorem implSegmentAt_c (L : Nat) (A : Option Addr) (n cap : Nat) (F : Nat → Nat → Int) (m : Int) (w : World) (h1 : Tab 3 w L A n F) (hL : L ≤ w.heap.size) (hn : n ≤ 1048576) :
    Calls Try.prog 18 #[.slice A n cap, .int .i64 m] w fun e w' => e = .returned (.int .i64 (firstAt n (inSeg F m))) ∧ Below w.heap.size w w' := by
  have H1 := Lib.hid h1
  clear h1
  have l0 := andAlloc (Below.refl w.heap.size w) (.cells #[.int .i64 m] 3)
  go_enter Try.func18, Try.ntmps18
  go_wp2_with fail
  refine (indexSeg_c L w.heap.size A n cap F m _ (H1.out.keep (l0.mono hL)) (by simp; omega) hn (by go_simp)).mono ?_
  rintro e w1 ⟨rfl, b1⟩
  go_wp2_with fail
  go_ret
  exact ⟨rfl, andThen l0 b1⟩

set_option maxHeartbeats 1000000 in
theorem specSegmentAt_c (L : Nat) (A : Option Addr) (n cap : Nat) (F : Nat → Nat → Int) (m : Int) (w : World) (h1 : Tab 3 w L A n F) (hL : L ≤ w.heap.size) (hn : n ≤ 1048576) :
    Calls Try.prog 16 #[.slice A n cap, .int .i64 m] w fun e w' => e = .returned (.int .i64 (firstAt n (inSeg F m))) ∧ Below w.heap.size w w' := by
  have H1 := Lib.hid h1
  clear h1
  go_enter Try.func16, Try.ntmps16
  go_wp2_with fail
  go_loopw [5] (fun i wr => ∃ k : Nat, k ≤ n ∧ i = .int .i64 k ∧ (∀ j, j < k → inSeg F m j = false) ∧ Below w.heap.size w wr) (fun i _ => n - (intOf i).toNat)
  case atStart => exact ⟨0, Nat.zero_le _, rfl, (fun i hi => by omega), Below.refl _ _⟩
  case round =>
    obtain ⟨k, hk, rfl, hall, hbl⟩ := hrel
    have HALL := Lib.hid hall
    clear hall
    by_cases hlt : k < n
    · obtain ⟨b, off, rfl, hb, ⟨c0, c1, c2⟩, _⟩ := (H1.out.keep (hbl.mono hL)).at3 hlt
      have k0 : (0 : Int) ≤ (k : Int) := by omega
      have k1 : (k : Int) < (n : Int) := by omega
      cases hp : inSeg F m k
      case true =>
        have HF := Lib.hid (firstAt_hit hlt hp HALL.out)
        unfold inSeg at hp
        rw [Bool.and_eq_true] at hp
        obtain ⟨p1, p2⟩ := hp
        generalize F k 0 = x at *
        generalize F k 1 = y at *
        generalize F k 2 = z at *
        go_wp2_with fail
        go_ret
        exact ⟨ret_int HF.out.symm, hbl⟩
      case false =>
        have HN : Hid (∀ j, j < k + 1 → inSeg F m j = false) := by
          intro j hj
          rcases Nat.lt_or_ge j k with h | h
          · exact HALL.out j h
          · obtain rfl : j = k := by omega
            exact hp
        unfold inSeg at hp
        generalize F k 0 = x at *
        generalize F k 1 = y at *
        generalize F k 2 = z at *
        cases p1 : decide (x ≤ m)
        case false =>
          clear hp
          go_wp2_with fail
          go_roundw
          case rel => exact ⟨k + 1, by omega, by go_num, HN.out, hbl⟩
          case measure => simp [intOf]; omega
        case true =>
          have p2 : decide (m < y) = false := by rw [p1] at hp; simpa using hp
          clear hp
          go_wp2_with fail
          go_roundw
          case rel => exact ⟨k + 1, by omega, by go_num, HN.out, hbl⟩
          case measure => simp [intOf]; omega
    · obtain rfl : k = n := by omega
      have HF := Lib.hid (firstAt_none HALL.out)
      go_wp2_with fail
      go_ret
      exact ⟨ret_int HF.out.symm, hbl⟩

set_option maxHeartbeats 2000000 in
theorem walk_FnExactSegmentAt (W : World) (a0 : Option Addr) (len0 cap0 : Nat) (F : Nat → Nat → Int) (h1' : Tab 3 W W.heap.size a0 len0 F ∧ len0 ≤ 9223372036854775807) (m : Int) {q : Prop} (_ : q) :
    Calls Try.prog 3 #[.slice a0 len0 cap0, .int .i64 m] W fun e w' => e = .returned (.bool true) ∧ Below W.heap.size W w' := by
  obtain ⟨h1, hlen⟩ := h1'
  have H1 := Lib.hid h1
  clear h1
  by_cases hn : len0 ≤ 1048576
  · have hs := szOf_yes hn
    have k0 : decide ((1048576 : Int) - len0 < 0) = false := decide_eq_false (by omega)
    go_enter Try.func3, Try.ntmps3
    go_wp2_with fail
    refine (szSegmentS_c _ _ _ _ hlen).mono ?_
    rintro e w' ⟨rfl, rfl⟩
    rw [hs]
    go_wp2_with fail
    refine (toSegmentS_c W.heap.size _ _ _ F _ H1.out (Nat.le_refl _) hn).mono ?_
    rintro e w1 ⟨rfl, o1, b1⟩
    have t1 := o1.rows
    go_wp2_with fail
    refine (specSegmentAt_c _ _ _ _ F m _ t1 (Nat.le_refl _) hn).mono ?_
    rintro e w2 ⟨rfl, b2⟩
    have l2 := andThen b1 b2
    go_wp2_with fail
    refine (toSegmentS_c W.heap.size _ _ _ F _ (H1.out.keep l2) l2.size hn).mono ?_
    rintro e w3 ⟨rfl, o3, b3⟩
    have l3 := andThen l2 b3
    have t3 := o3.rows
    go_wp2_with fail
    refine (implSegmentAt_c _ _ _ _ F m _ t3 (Nat.le_refl _) hn).mono ?_
    rintro e w4 ⟨rfl, b4⟩
    have l4 := andThen l3 b4
    have t4 := t3.keep b4
    go_wp2_with fail
    refine (toSegmentS_c W.heap.size _ _ _ F _ (H1.out.keep l4) l4.size hn).mono ?_
    rintro e w5 ⟨rfl, o5, b5⟩
    have l5 := andThen l4 b5
    have t5 := o5.rows
    have t4' := t4.keep (b5.mono b4.size)
    have hz : w3.heap.size ≤ w5.heap.size := Nat.le_trans b4.size b5.size
    go_wp2_with fail
    refine (eqSegmentS_c _ _ _ _ _ _ _ F _ t4' t5 hz (Nat.le_refl _) hn).mono ?_
    rintro e w6 ⟨rfl, b6⟩
    go_wp2_with fail
    go_ret
    exact ⟨rfl, andThen l5 b6⟩
  · have hs := szOf_no hn
    go_enter Try.func3, Try.ntmps3
    go_wp2_with fail
    refine (szSegmentS_c _ _ _ _ hlen).mono ?_
    rintro e w' ⟨rfl, rfl⟩
    rw [hs]
    go_wp2_with fail
    go_ret
    exact ⟨rfl, Below.refl _ _⟩

end Go.Proofs.Ytmehfclhmbhjaaa
