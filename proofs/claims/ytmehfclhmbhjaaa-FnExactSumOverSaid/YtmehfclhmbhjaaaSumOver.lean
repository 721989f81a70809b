/-
  SumOver of both packages computes one plain sum. Conditions: the segments can be read.
-/
import Derived.Test.YtmehfclhmbhjaaaTimelineOkLaw
import Derived.Test.YtmehfclhmbhjaaaMonthsIn
import Derived.Test.YtmehfclhmbhjaaaLater
namespace Go.Proofs.Ytmehfclhmbhjaaa
open Go.RowKit
set_option linter.unusedVariables false
set_option maxRecDepth 4000

def sumT (F : Nat → Nat → Int) (f t : Int) : Nat → Int
  | 0 => 0
  | m + 1 => sumT F f t m + F m 2 * monthsIn f t (F m 0) (F m 1)
def valB (F : Nat → Nat → Int) (i : Nat) : Bool := inB (F i 2) (-1000000000) 1000000000
def sumOver (n : Nat) (F : Nat → Nat → Int) (f t : Int) : Int := if (timelineB n F && (inB f 0 3600 && inB t 0 3600)) && (List.range n).all (valB F) then sumT F f t n else 0

theorem monthsIn_symm (f t l h : Int) : monthsIn l h f t = monthsIn f t l h := by
  unfold monthsIn common
  cases inB f 0 3600 <;> cases inB t 0 3600 <;> cases inB l 0 3600 <;> cases inB h 0 3600 <;> simp
  omega
theorem monthsIn_bd (f t l h : Int) : 0 ≤ monthsIn f t l h ∧ monthsIn f t l h ≤ 3600 := by
  unfold monthsIn common
  split
  · rename_i e
    simp only [Bool.and_eq_true] at e
    obtain ⟨⟨⟨h1, h2⟩, h3⟩, h4⟩ := e
    have := inB_iff.1 h1
    have := inB_iff.1 h2
    have := inB_iff.1 h3
    have := inB_iff.1 h4
    omega
  · omega
theorem valc_bd {x c : Int} (h : inB x (-1000000000) 1000000000 = true) (h0 : 0 ≤ c) (h1 : c ≤ 3600) : -3600000000000 ≤ x * c ∧ x * c ≤ 3600000000000 := by
  obtain ⟨a, b⟩ := inB_iff.1 h
  constructor
  · have := Int.mul_le_mul_of_nonneg_right a h0
    omega
  · have := Int.mul_le_mul_of_nonneg_right b h0
    omega
theorem sumT_bd (F : Nat → Nat → Int) (f t : Int) : ∀ m, (∀ i, i < m → valB F i = true) → -(3600000000000 * (m : Int)) ≤ sumT F f t m ∧ sumT F f t m ≤ 3600000000000 * (m : Int)
  | 0, _ => by simp [sumT]
  | m + 1, h => by
    have ih := sumT_bd F f t m (fun i hi => h i (by omega))
    have hm := monthsIn_bd f t (F m 0) (F m 1)
    have := valc_bd (h m (by omega)) hm.1 hm.2
    unfold sumT
    omega
theorem sumOver_yes {n : Nat} {F : Nat → Nat → Int} {f t : Int} (h1 : timelineB n F = true) (h2 : inB f 0 3600 = true) (h3 : inB t 0 3600 = true) (h : ∀ i, i < n → valB F i = true) : sumOver n F f t = sumT F f t n := by
  have : (List.range n).all (valB F) = true := by
    rw [List.all_eq_true]
    intro i hi
    exact h i (by simpa using hi)
  unfold sumOver
  rw [h1, h2, h3, this]
  rfl
theorem sumOver_no {n i : Nat} {F : Nat → Nat → Int} {f t : Int} (hi : i < n) (h : valB F i = false) : sumOver n F f t = 0 := by
  have : (List.range n).all (valB F) = false := by
    rw [List.all_eq_false]
    exact ⟨i, by simpa using hi, by simp [h]⟩
  unfold sumOver
  rw [this]
  simp
theorem timelineB_len {n : Nat} {F : Nat → Nat → Int} (h : timelineB n F = true) : n ≤ 401 := by
  unfold timelineB at h
  rw [Bool.and_eq_true] at h
  simpa using h.2

set_option maxHeartbeats 400000 in
theorem isEnd_c (m : Int) (w : World) :
    Calls Try.prog 64 #[.int .i64 m] w fun e w' => e = .returned (.bool (inB m 0 3600)) ∧ w = w' := by
  go_enter Try.func64, Try.ntmps64
  go_wp2_with (go_at_call 65; refine (within_c _ _ _ _).mono ?_; rintro e w' ⟨rfl, rfl⟩)
  go_ret
  exact ⟨rfl, rfl⟩

set_option maxHeartbeats 4000000 in
theorem implSumOver_c (L : Nat) (A : Option Addr) (n cap : Nat) (F : Nat → Nat → Int) (f t : Int) (w : World) (h1 : Tab 3 w L A n F) (hL : L ≤ w.heap.size) (hn : n ≤ 1048576) :
    Calls Try.prog 30 #[.slice A n cap, .int .i64 f, .int .i64 t] w fun e w' => e = .returned (.int .i64 (sumOver n F f t)) ∧ Below w.heap.size w w' := by
  have H1 := Lib.hid h1
  have HC := Lib.hid (implTimelineOk_c L A n cap F w h1 hL hn)
  clear h1
  cases b1 : timelineB n F
  case false =>
    have HS : Hid (sumOver n F f t = 0) := by show _ = _; unfold sumOver; rw [b1]; rfl
    rw [b1] at HC
    go_enter Try.func30, Try.ntmps30
    go_wp2_with (go_at_call 21; refine HC.out.mono ?_; rintro e w1 ⟨rfl, l1⟩)
    go_ret
    exact ⟨ret_int HS.out.symm, l1⟩
  case true =>
  have hn2 := timelineB_len b1
  rw [b1] at HC
  cases b2 : inB f 0 3600
  case false =>
    have HS : Hid (sumOver n F f t = 0) := by show _ = _; unfold sumOver; rw [b1, b2]; rfl
    go_enter Try.func30, Try.ntmps30
    go_wp2_with (first
      | (go_at_call 21; refine HC.out.mono ?_; rintro e w1 ⟨rfl, l1⟩)
      | (go_at_call 64; refine (isEnd_c _ _).mono ?_; rintro e w' ⟨rfl, rfl⟩))
    go_ret
    exact ⟨ret_int HS.out.symm, l1⟩
  case true =>
  cases b3 : inB t 0 3600
  case false =>
    have HS : Hid (sumOver n F f t = 0) := by show _ = _; unfold sumOver; rw [b1, b2, b3]; rfl
    go_enter Try.func30, Try.ntmps30
    go_wp2_with (first
      | (go_at_call 21; refine HC.out.mono ?_; rintro e w1 ⟨rfl, l1⟩)
      | (go_at_call 64; refine (isEnd_c _ _).mono ?_; rintro e w' ⟨rfl, rfl⟩))
    go_ret
    exact ⟨ret_int HS.out.symm, l1⟩
  case true =>
  have HY := Lib.hid (@sumOver_yes n F f t b1 b2 b3)
  have HB2 := Lib.hid b2
  have HB3 := Lib.hid b3
  go_enter Try.func30, Try.ntmps30
  go_wp2_with (first
    | (go_at_call 21; refine HC.out.mono ?_; rintro e w1 ⟨rfl, l1⟩)
    | (go_at_call 64; refine (isEnd_c _ _).mono ?_; rintro e w' ⟨rfl, rfl⟩))
  clear b1 b2 b3
  go_loopw [7, 25] (fun s i wr => ∃ m : Nat, m ≤ n ∧ i = .int .i64 m ∧ s = .int .i64 (sumT F f t m) ∧ (∀ i, i < m → valB F i = true) ∧ Below w.heap.size w wr) (fun _ i _ => n - (intOf i).toNat)
  case atStart => exact ⟨0, Nat.zero_le _, rfl, rfl, (fun i hi => by omega), l1⟩
  case round =>
    obtain ⟨m, hm, rfl, rfl, hall, hbl⟩ := hrel
    have hbd := sumT_bd F f t m hall
    have HALL := Lib.hid hall
    clear hall l1
    by_cases hlt : m < n
    · obtain ⟨b, off, rfl, hb, ⟨c0, c1, c2⟩, _⟩ := (H1.out.keep (hbl.mono hL)).at3 hlt
      have hbl1 := andAlloc hbl (.cells #[.int .i64 (F m 0), .int .i64 (F m 1), .int .i64 (F m 2)] 68)
      have k0 : (0 : Int) ≤ (m : Int) := by omega
      have k1 : (m : Int) < (n : Int) := by omega
      cases hv : valB F m
      case false =>
        have HN := Lib.hid (sumOver_no (f := f) (t := t) hlt hv)
        have hv' : inB (F m 2) (-1000000000) 1000000000 = false := hv
        clear hv
        generalize F m 0 = x0 at *
        generalize F m 1 = x1 at *
        generalize F m 2 = x2 at *
        go_wp2_with (go_at_call 65; refine (within_c _ _ _ _).mono ?_; rintro e w' ⟨rfl, rfl⟩)
        go_ret
        exact ⟨ret_int HN.out.symm, hbl1⟩
      case true =>
        have hc := monthsIn_bd f t (F m 0) (F m 1)
        have hx := valc_bd hv hc.1 hc.2
        have HNX : Hid (sumT F f t (m + 1) = sumT F f t m + F m 2 * monthsIn f t (F m 0) (F m 1)) := rfl
        have HALL2 : Hid (∀ i, i < m + 1 → valB F i = true) := fun i hi => by
          rcases Nat.lt_or_ge i m with h | h
          · exact HALL.out i h
          · obtain rfl : i = m := by omega
            exact hv
        have hv' : inB (F m 2) (-1000000000) 1000000000 = true := hv
        have HM := Lib.hid (fun w' => implMonthsIn_c f t (F m 0) (F m 1) w')
        clear hv HALL
        generalize F m 0 = x0 at *
        generalize F m 1 = x1 at *
        generalize F m 2 = x2 at *
        generalize monthsIn f t x0 x1 = c at *
        obtain ⟨c00, c01⟩ := hc
        generalize sumT F f t m = s at *
        have hs0 : -1800000000000000 ≤ s := by omega
        have hs1 : s ≤ 1800000000000000 := by omega
        have y1 : IntKind.i64.wrap (x2 * c) = x2 * c := IntWalk.i64_in _ ⟨by omega, by omega⟩
        have y2 : IntKind.i64.wrap (s + x2 * c) = s + x2 * c := IntWalk.i64_in _ ⟨by omega, by omega⟩
        go_wp2_with (go_at_call 65; refine (within_c _ _ _ _).mono ?_; rintro e w' ⟨rfl, rfl⟩)
        have q0 : ∀ s : Later (wr.alloc (.cells #[.int .i64 x0, .int .i64 x1, .int .i64 x2] 68)), s.w.cell? ⟨wr.heap.size, 0, none⟩ = some (.int .i64 x0) := fun s => s.cell (by go_simp)
        have q1 : ∀ s : Later (wr.alloc (.cells #[.int .i64 x0, .int .i64 x1, .int .i64 x2] 68)), s.w.cell? ⟨wr.heap.size, 1, none⟩ = some (.int .i64 x1) := fun s => s.cell (by go_simp)
        have q2 : ∀ s : Later (wr.alloc (.cells #[.int .i64 x0, .int .i64 x1, .int .i64 x2] 68)), s.w.cell? ⟨wr.heap.size, 2, none⟩ = some (.int .i64 x2) := fun s => s.cell (by go_simp)
        refine wp_region_later (by kernel_rfl) (by kernel_rfl) ?_
        repeat (any_goals (first | go_big_quiet_step (((go_at_call 66; exact later_of (HM.out _)))) | quiet_step (((go_at_call 66; exact later_of (HM.out _))))))
        refine wpQuiet_nil ?_
        rintro _ ⟨s', rfl⟩
        have hbs := andThen hbl1 s'.h
        clear y1 y2
        go_wp2_with fail
        go_roundw
        case rel => exact ⟨m + 1, by omega, by go_num, by rw [HNX.out], HALL2.out, hbs⟩
        case measure => simp [intOf]; omega
    · obtain rfl : m = n := by omega
      go_wp2_with fail
      go_ret
      exact ⟨ret_int (HY.out HALL.out).symm, hbl⟩

set_option maxHeartbeats 4000000 in
theorem specSumOver_c (L : Nat) (A : Option Addr) (n cap : Nat) (F : Nat → Nat → Int) (f t : Int) (w : World) (h1 : Tab 3 w L A n F) (hL : L ≤ w.heap.size) (hn : n ≤ 1048576) :
    Calls Try.prog 29 #[.slice A n cap, .int .i64 f, .int .i64 t] w fun e w' => e = .returned (.int .i64 (sumOver n F f t)) ∧ Below w.heap.size w w' := by
  have H1 := Lib.hid h1
  have HC := Lib.hid (specTimelineOk_c L A n cap F w h1 hL hn)
  clear h1
  cases b1 : timelineB n F
  case false =>
    have HS : Hid (sumOver n F f t = 0) := by show _ = _; unfold sumOver; rw [b1]; rfl
    rw [b1] at HC
    go_enter Try.func29, Try.ntmps29
    go_wp2_with (go_at_call 20; refine HC.out.mono ?_; rintro e w1 ⟨rfl, l1⟩)
    go_ret
    exact ⟨ret_int HS.out.symm, l1⟩
  case true =>
  have hn2 := timelineB_len b1
  rw [b1] at HC
  cases b2 : inB f 0 3600
  case false =>
    have HS : Hid (sumOver n F f t = 0) := by show _ = _; unfold sumOver; rw [b1, b2]; rfl
    go_enter Try.func29, Try.ntmps29
    go_wp2_with (first
      | (go_at_call 20; refine HC.out.mono ?_; rintro e w1 ⟨rfl, l1⟩)
      | (go_at_call 61; refine (l04End_c _ _).mono ?_; rintro e w' ⟨rfl, rfl⟩))
    go_ret
    exact ⟨ret_int HS.out.symm, l1⟩
  case true =>
  cases b3 : inB t 0 3600
  case false =>
    have HS : Hid (sumOver n F f t = 0) := by show _ = _; unfold sumOver; rw [b1, b2, b3]; rfl
    go_enter Try.func29, Try.ntmps29
    go_wp2_with (first
      | (go_at_call 20; refine HC.out.mono ?_; rintro e w1 ⟨rfl, l1⟩)
      | (go_at_call 61; refine (l04End_c _ _).mono ?_; rintro e w' ⟨rfl, rfl⟩))
    go_ret
    exact ⟨ret_int HS.out.symm, l1⟩
  case true =>
  have HY := Lib.hid (@sumOver_yes n F f t b1 b2 b3)
  go_enter Try.func29, Try.ntmps29
  go_wp2_with (first
    | (go_at_call 20; refine HC.out.mono ?_; rintro e w1 ⟨rfl, l1⟩)
    | (go_at_call 61; refine (l04End_c _ _).mono ?_; rintro e w' ⟨rfl, rfl⟩))
  clear b1 b2 b3
  go_loopw [7, 8] (fun s i wr => ∃ m : Nat, m ≤ n ∧ i = .int .i64 m ∧ s = .int .i64 (sumT F f t m) ∧ (∀ i, i < m → valB F i = true) ∧ Below w.heap.size w wr) (fun _ i _ => n - (intOf i).toNat)
  case atStart => exact ⟨0, Nat.zero_le _, rfl, rfl, (fun i hi => by omega), l1⟩
  case round =>
    obtain ⟨m, hm, rfl, rfl, hall, hbl⟩ := hrel
    have hbd := sumT_bd F f t m hall
    have HALL := Lib.hid hall
    clear hall l1
    by_cases hlt : m < n
    · obtain ⟨b, off, rfl, hb, ⟨c0, c1, c2⟩, _⟩ := (H1.out.keep (hbl.mono hL)).at3 hlt
      have k0 : (0 : Int) ≤ (m : Int) := by omega
      have k1 : (m : Int) < (n : Int) := by omega
      cases hv : valB F m
      case false =>
        have HN := Lib.hid (sumOver_no (f := f) (t := t) hlt hv)
        have hv' : inB (F m 2) (-1000000000) 1000000000 = false := hv
        clear hv
        generalize F m 0 = x0 at *
        generalize F m 1 = x1 at *
        generalize F m 2 = x2 at *
        go_wp2_with (go_at_call 62; refine (l01In_c _ _ _ _).mono ?_; rintro e w' ⟨rfl, rfl⟩)
        go_ret
        exact ⟨ret_int HN.out.symm, hbl⟩
      case true =>
        have hc := monthsIn_bd f t (F m 0) (F m 1)
        have hx := valc_bd hv hc.1 hc.2
        have HNX : Hid (sumT F f t (m + 1) = sumT F f t m + F m 2 * monthsIn f t (F m 0) (F m 1)) := rfl
        have HALL2 : Hid (∀ i, i < m + 1 → valB F i = true) := fun i hi => by
          rcases Nat.lt_or_ge i m with h | h
          · exact HALL.out i h
          · obtain rfl : i = m := by omega
            exact hv
        have hv' : inB (F m 2) (-1000000000) 1000000000 = true := hv
        have HM := Lib.hid (fun w' => specMonthsIn_c (F m 0) (F m 1) f t w')
        rw [monthsIn_symm] at HM
        clear hv HALL
        generalize F m 0 = x0 at *
        generalize F m 1 = x1 at *
        generalize F m 2 = x2 at *
        generalize monthsIn f t x0 x1 = c at *
        obtain ⟨c00, c01⟩ := hc
        generalize sumT F f t m = s at *
        have hs0 : -1800000000000000 ≤ s := by omega
        have hs1 : s ≤ 1800000000000000 := by omega
        have y1 : IntKind.i64.wrap (x2 * c) = x2 * c := IntWalk.i64_in _ ⟨by omega, by omega⟩
        have y2 : IntKind.i64.wrap (s + x2 * c) = s + x2 * c := IntWalk.i64_in _ ⟨by omega, by omega⟩
        go_wp2_with (go_at_call 62; refine (l01In_c _ _ _ _).mono ?_; rintro e w' ⟨rfl, rfl⟩)
        go_quiet (((go_at_call 63; exact q_same (HM.out _))))
        clear y1 y2
        go_wp2_with fail
        go_roundw
        case rel => exact ⟨m + 1, by omega, by go_num, by rw [HNX.out], HALL2.out, andDrewN hbl _⟩
        case measure => simp [intOf]; omega
    · obtain rfl : m = n := by omega
      go_wp2_with fail
      go_ret
      exact ⟨ret_int (HY.out HALL.out).symm, hbl⟩

set_option maxHeartbeats 2000000 in
theorem walk_FnExactSumOver (W : World) (a0 : Option Addr) (len0 cap0 : Nat) (F : Nat → Nat → Int) (h1' : Tab 3 W W.heap.size a0 len0 F ∧ len0 ≤ 9223372036854775807) (f : Int) {q : Prop} (_ : q) (t : Int) {q' : Prop} (_ : q') :
    Calls Try.prog 7 #[.slice a0 len0 cap0, .int .i64 f, .int .i64 t] W fun e w' => e = .returned (.bool true) ∧ Below W.heap.size W w' := by
  obtain ⟨h1, hlen⟩ := h1'
  have H1 := Lib.hid h1
  clear h1
  by_cases hn : len0 ≤ 1048576
  · have hs := szOf_yes hn
    have k0 : decide ((1048576 : Int) - len0 < 0) = false := decide_eq_false (by omega)
    go_enter Try.func7, Try.ntmps7
    go_wp2_with fail
    refine (szSegmentS_c _ _ _ _ hlen).mono ?_
    rintro e w' ⟨rfl, rfl⟩
    rw [hs]
    go_wp2_with fail
    refine (toSegmentS_c W.heap.size _ _ _ F _ H1.out (Nat.le_refl _) hn).mono ?_
    rintro e w1 ⟨rfl, o1, b1⟩
    have t1 := o1.rows
    go_wp2_with fail
    refine (specSumOver_c _ _ _ _ F f t _ t1 (Nat.le_refl _) hn).mono ?_
    rintro e w2 ⟨rfl, b2⟩
    have l2 := andThen b1 b2
    go_wp2_with fail
    refine (toSegmentS_c W.heap.size _ _ _ F _ (H1.out.keep l2) l2.size hn).mono ?_
    rintro e w3 ⟨rfl, o3, b3⟩
    have l3 := andThen l2 b3
    have t3 := o3.rows
    go_wp2_with fail
    refine (implSumOver_c _ _ _ _ F f t _ t3 (Nat.le_refl _) hn).mono ?_
    rintro e w4 ⟨rfl, b4⟩
    have l4 := andThen l3 b4
    have t4 := t3.keep b4
    go_wp2_with fail
    refine (toSegmentS_c W.heap.size _ _ _ F _ (H1.out.keep l4) l4.size hn).mono ?_
    rintro e w5 ⟨rfl, o5, b5⟩
    have l5 := andThen l4 b5
    have t5 := o5.rows
    have t4' := t4.keep (b5.mono b4.size)
    have hz : w3.heap.size ≤ w5.heap.size := Nat.le_trans b4.size b5.size
    go_wp2_with fail
    refine (eqSegmentS_c _ _ _ _ _ _ _ F _ t4' t5 hz (Nat.le_refl _) hn).mono ?_
    rintro e w6 ⟨rfl, b6⟩
    go_wp2_with fail
    go_ret
    exact ⟨rfl, andThen l5 b6⟩
  · have hs := szOf_no hn
    go_enter Try.func7, Try.ntmps7
    go_wp2_with fail
    refine (szSegmentS_c _ _ _ _ hlen).mono ?_
    rintro e w' ⟨rfl, rfl⟩
    rw [hs]
    go_wp2_with fail
    go_ret
    exact ⟨rfl, Below.refl _ _⟩

end Go.Proofs.Ytmehfclhmbhjaaa
