/-
  SeriesOk of both packages computes one plain function. Conditions: the points can be read.
-/
import Derived.Test.YtlpaicpjadkceaaSeriesIn
import Derived.Test.YtlpaicpjadkceaaPure
import Derived.BigQuiet
namespace Go.Proofs.Ytlpaicpjadkceaa
open Go.RowKit
set_option linter.unusedVariables false
set_option maxRecDepth 4000

def ptB (F : Nat → Nat → Int) (i : Nat) : Bool := inB (F i 0) 0 3599 && inB (F i 1) 0 3599 && !(decide (F i 1 < F i 0)) && inB (F i 2) 1 1000000 && !(decide (0 < i) && decide (F i 1 < F (i - 1) 1))
def seriesB (n : Nat) (F : Nat → Nat → Int) : Bool := (List.range n).all (ptB F) && decide (n ≤ 200)
theorem seriesB_no {n i : Nat} {F : Nat → Nat → Int} (hi : i < n) (h : ptB F i = false) : seriesB n F = false := by
  have : (List.range n).all (ptB F) = false := by
    rw [List.all_eq_false]
    exact ⟨i, by simpa using hi, by simp [h]⟩
  unfold seriesB
  rw [this]
  rfl
theorem seriesB_yes {n : Nat} {F : Nat → Nat → Int} (h : ∀ i, i < n → ptB F i = true) : seriesB n F = decide (n ≤ 200) := by
  have : (List.range n).all (ptB F) = true := by
    rw [List.all_eq_true]
    intro i hi
    exact h i (by simpa using hi)
  unfold seriesB
  rw [this]
  rfl
theorem seriesB_at {n i : Nat} {F : Nat → Nat → Int} (h : seriesB n F = true) (hi : i < n) : ptB F i = true := by
  unfold seriesB at h
  rw [Bool.and_eq_true, List.all_eq_true] at h
  exact h.1 i (by simpa using hi)
theorem seriesB_len {n : Nat} {F : Nat → Nat → Int} (h : seriesB n F = true) : n ≤ 200 := by
  unfold seriesB at h
  rw [Bool.and_eq_true] at h
  simpa using h.2

set_option maxHeartbeats 4000000 in
theorem implSeriesOk_c (L : Nat) (A : Option Addr) (n cap : Nat) (F : Nat → Nat → Int) (w : World) (h1 : Tab 3 w L A n F) (hL : L ≤ w.heap.size) (hn : n ≤ 1048577) :
    Calls Try.prog 20 #[.agg #[.slice A n cap]] w fun e w' => e = .returned (.bool (seriesB n F)) ∧ Below w.heap.size w w' := by
  have L0 : Below w.heap.size w (w.alloc (.cells #[.slice A n cap] 30)) := andAlloc (Below.refl _ _) _
  have B0 : (w.alloc (.cells #[.slice A n cap] 30)).cell? ⟨w.heap.size, 0, none⟩ = some (.slice A n cap) := by go_simp
  have S0 : (w.alloc (.cells #[.slice A n cap] 30)).heap.size = w.heap.size + 1 := by simp
  have H1 := Lib.hid (h1.keep (L0.mono hL))
  clear h1
  go_enter Try.func20, Try.ntmps20
  go_wp2_with fail
  generalize w.alloc (.cells #[.slice A n cap] 30) = W1 at L0 B0 S0 H1 ⊢
  have hL1 : L ≤ W1.heap.size := by omega
  go_loopw [8] (fun i wr => ∃ m : Nat, m ≤ n ∧ i = .int .i64 m ∧ (∀ i, i < m → ptB F i = true) ∧ Below W1.heap.size W1 wr) (fun i _ => n - (intOf i).toNat)
  case atStart => exact ⟨0, Nat.zero_le _, rfl, (fun i hi => by omega), Below.refl _ _⟩
  case round =>
    obtain ⟨m, hm, rfl, hall, hbl⟩ := hrel
    have HALL := Lib.hid hall
    clear hall
    have sl := cell_later hbl B0
    by_cases hlt : m < n
    · have hT := H1.out.keep (hbl.mono hL1)
      have hbl1 := andAlloc hbl (.cells #[.int .i64 (F m 0), .int .i64 (F m 1), .int .i64 (F m 2)] 46)
      have hT1 := H1.out.keep (hbl1.mono hL1)
      have sl1 := cell_later hbl1 B0
      have k0 : (0 : Int) ≤ (m : Int) := by omega
      have k1 : (m : Int) < (n : Int) := by omega
      cases htl : ptB F m
      case false =>
        have HT := Lib.hid (seriesB_no hlt htl)
        unfold ptB at htl
        obtain ⟨b, off, rfl, hb, ⟨c0, c1, c2⟩, _⟩ := hT.at3 hlt
        cases h1 : inB (F m 0) 0 3599
        case false =>
          clear htl
          generalize F m 0 = x0 at *
          generalize F m 1 = x1 at *
          generalize F m 2 = x2 at *
          go_wp2_with fail
          go_quiet ((first | (go_at_call 59; exact q_same (implMonthOk_c _ _)) | (go_at_call 60; exact q_same (within_c _ _ _ _))))
          go_wp2_with fail
          go_ret
          exact ⟨ret_bool HT.out.symm, andThen L0 (andDrewN hbl1 _)⟩
        case true =>
        cases h2 : inB (F m 1) 0 3599
        case false =>
          clear htl
          generalize F m 0 = x0 at *
          generalize F m 1 = x1 at *
          generalize F m 2 = x2 at *
          go_wp2_with fail
          go_quiet ((first | (go_at_call 59; exact q_same (implMonthOk_c _ _)) | (go_at_call 60; exact q_same (within_c _ _ _ _))))
          go_wp2_with fail
          go_ret
          exact ⟨ret_bool HT.out.symm, andThen L0 (andDrewN hbl1 _)⟩
        case true =>
        cases h3 : decide (F m 1 < F m 0)
        case true =>
          clear htl
          generalize F m 0 = x0 at *
          generalize F m 1 = x1 at *
          generalize F m 2 = x2 at *
          go_wp2_with fail
          go_quiet ((first | (go_at_call 59; exact q_same (implMonthOk_c _ _)) | (go_at_call 60; exact q_same (within_c _ _ _ _))))
          go_wp2_with fail
          go_ret
          exact ⟨ret_bool HT.out.symm, andThen L0 (andDrewN hbl1 _)⟩
        case false =>
        cases h4 : inB (F m 2) 1 1000000
        case false =>
          clear htl
          generalize F m 0 = x0 at *
          generalize F m 1 = x1 at *
          generalize F m 2 = x2 at *
          go_wp2_with fail
          go_quiet ((first | (go_at_call 59; exact q_same (implMonthOk_c _ _)) | (go_at_call 60; exact q_same (within_c _ _ _ _))))
          go_wp2_with fail
          go_ret
          exact ⟨ret_bool HT.out.symm, andThen L0 (andDrewN hbl1 _)⟩
        case true =>
          obtain ⟨p, rfl⟩ : ∃ p, m = p + 1 := by
            rcases m with _ | p
            · rw [h1, h2, h3, h4] at htl; simp at htl
            · exact ⟨p, rfl⟩
          obtain ⟨b', off', e', _, ⟨c0', c1', c2'⟩, _⟩ := hT.at3 (show p < n by omega)
          obtain ⟨b2, off2, e2, _, ⟨u0, u1, u2⟩, _⟩ := hT1.at3 (show p < n by omega)
          simp only [Option.some.injEq, Addr.mk.injEq, and_true] at e' e2
          obtain ⟨rfl, rfl⟩ := e'
          obtain ⟨rfl, rfl⟩ := e2
          clear hT hT1
          simp only [Nat.add_sub_cancel] at htl
          have g0 : decide ((0 : Int) < (p : Int) + 1) = true := decide_eq_true (by omega)
          have g1 : (p : Int) + 1 - 1 = p := by omega
          have g2 : (p : Int) < n := by omega
          have g3 : (0 : Int) ≤ p := by omega
          have g4 : ((p : Int) + 1).toNat = p + 1 := by omega
          have g5 : (0 : Int) ≤ (p : Int) + 1 := by omega
          have g6 : (p : Int) + 1 < n := by omega
          rw [h1, h2, h3, h4] at htl
          have f1 : decide (F (p + 1) 1 < F p 1) = true := by simpa using htl
          clear htl
          generalize F (p + 1) 0 = x0 at *
          generalize F (p + 1) 1 = x1 at *
          generalize F (p + 1) 2 = x2 at *
          generalize F p 1 = y1 at *
          go_wp2_with fail
          go_quiet ((first | (go_at_call 59; exact q_same (implMonthOk_c _ _)) | (go_at_call 60; exact q_same (within_c _ _ _ _))))
          go_wp2_with fail
          go_ret
          exact ⟨ret_bool HT.out.symm, andThen L0 (andDrewN hbl1 _)⟩
      case true =>
        have HALL2 : Hid (∀ i, i < m + 1 → ptB F i = true) := by
          intro i hi
          rcases Nat.lt_or_ge i m with h | h
          · exact HALL.out i h
          · obtain rfl : i = m := by omega
            exact htl
        unfold ptB at htl
        obtain ⟨b, off, rfl, hb, ⟨c0, c1, c2⟩, _⟩ := hT.at3 hlt
        obtain ⟨h1, h2, h3, h4, h5⟩ : inB (F m 0) 0 3599 = true ∧ inB (F m 1) 0 3599 = true ∧ decide (F m 1 < F m 0) = false ∧ inB (F m 2) 1 1000000 = true ∧ (decide (0 < m) && decide (F m 1 < F (m - 1) 1)) = false := by
          simp only [Bool.and_eq_true, Bool.not_eq_true'] at htl
          exact ⟨htl.1.1.1.1, htl.1.1.1.2, htl.1.1.2, htl.1.2, htl.2⟩
        rcases m with _ | p
        · clear htl h5
          simp only [Nat.zero_mul, Nat.add_zero] at c0 c1 c2
          have n0 : 0 < n := hlt
          generalize F 0 0 = x0 at *
          generalize F 0 1 = x1 at *
          generalize F 0 2 = x2 at *
          go_wp2_with fail
          go_quiet ((first | (go_at_call 59; exact q_same (implMonthOk_c _ _)) | (go_at_call 60; exact q_same (within_c _ _ _ _))))
          go_wp2_with fail
          go_roundw
          case rel => exact ⟨1, by omega, by go_num, HALL2.out, andDrewN hbl1 _⟩
          case measure => simp [intOf]; omega
        · skip
          obtain ⟨b', off', e', _, ⟨c0', c1', c2'⟩, _⟩ := hT.at3 (show p < n by omega)
          obtain ⟨b2, off2, e2, _, ⟨u0, u1, u2⟩, _⟩ := hT1.at3 (show p < n by omega)
          simp only [Option.some.injEq, Addr.mk.injEq, and_true] at e' e2
          obtain ⟨rfl, rfl⟩ := e'
          obtain ⟨rfl, rfl⟩ := e2
          clear hT hT1
          simp only [Nat.add_sub_cancel] at htl
          have g0 : decide ((0 : Int) < (p : Int) + 1) = true := decide_eq_true (by omega)
          have g1 : (p : Int) + 1 - 1 = p := by omega
          have g2 : (p : Int) < n := by omega
          have g3 : (0 : Int) ≤ p := by omega
          have g4 : ((p : Int) + 1).toNat = p + 1 := by omega
          have g5 : (0 : Int) ≤ (p : Int) + 1 := by omega
          have g6 : (p : Int) + 1 < n := by omega
          clear htl
          simp only [Nat.add_sub_cancel] at h5
          have f1 : decide (F (p + 1) 1 < F p 1) = false := by simpa using h5
          clear h5
          generalize F (p + 1) 0 = x0 at *
          generalize F (p + 1) 1 = x1 at *
          generalize F (p + 1) 2 = x2 at *
          generalize F p 1 = y1 at *
          go_wp2_with fail
          go_quiet ((first | (go_at_call 59; exact q_same (implMonthOk_c _ _)) | (go_at_call 60; exact q_same (within_c _ _ _ _))))
          go_wp2_with fail
          go_roundw
          case rel => exact ⟨p + 1 + 1, by omega, by go_num, HALL2.out, andDrewN hbl1 _⟩
          case measure => simp [intOf]; omega
    · obtain rfl : m = n := by omega
      have HT := Lib.hid (seriesB_yes HALL.out)
      go_wp2_with fail
      go_ret
      exact ⟨ret_bool (by rw [HT.out]; simp; omega), andThen L0 hbl⟩

set_option maxHeartbeats 4000000 in
theorem specSeriesOk_c (L : Nat) (A : Option Addr) (n cap : Nat) (F : Nat → Nat → Int) (w : World) (h1 : Tab 3 w L A n F) (hL : L ≤ w.heap.size) (hn : n ≤ 1048577) :
    Calls Try.prog 19 #[.agg #[.slice A n cap]] w fun e w' => e = .returned (.bool (seriesB n F)) ∧ Below w.heap.size w w' := by
  have L0 : Below w.heap.size w (w.alloc (.cells #[.slice A n cap] 30)) := andAlloc (Below.refl _ _) _
  have B0 : (w.alloc (.cells #[.slice A n cap] 30)).cell? ⟨w.heap.size, 0, none⟩ = some (.slice A n cap) := by go_simp
  have S0 : (w.alloc (.cells #[.slice A n cap] 30)).heap.size = w.heap.size + 1 := by simp
  have H1 := Lib.hid (h1.keep (L0.mono hL))
  clear h1
  go_enter Try.func19, Try.ntmps19
  go_wp2_with fail
  generalize w.alloc (.cells #[.slice A n cap] 30) = W1 at L0 B0 S0 H1 ⊢
  have hL1 : L ≤ W1.heap.size := by omega
  go_loopw [3] (fun i wr => ∃ m : Nat, m ≤ n ∧ i = .int .i64 m ∧ (∀ i, i < m → ptB F i = true) ∧ Below W1.heap.size W1 wr) (fun i _ => n - (intOf i).toNat)
  case atStart => exact ⟨0, Nat.zero_le _, rfl, (fun i hi => by omega), Below.refl _ _⟩
  case round =>
    obtain ⟨m, hm, rfl, hall, hbl⟩ := hrel
    have HALL := Lib.hid hall
    clear hall
    have sl := cell_later hbl B0
    by_cases hlt : m < n
    · have hT := H1.out.keep (hbl.mono hL1)
      have hbl1 := andAlloc hbl (.cells #[.int .i64 (F m 0), .int .i64 (F m 1), .int .i64 (F m 2)] 46)
      have hT1 := H1.out.keep (hbl1.mono hL1)
      have sl1 := cell_later hbl1 B0
      have k0 : (0 : Int) ≤ (m : Int) := by omega
      have k1 : (m : Int) < (n : Int) := by omega
      cases htl : ptB F m
      case false =>
        have HT := Lib.hid (seriesB_no hlt htl)
        unfold ptB at htl
        obtain ⟨b, off, rfl, hb, ⟨c0, c1, c2⟩, _⟩ := hT.at3 hlt
        cases h1 : inB (F m 0) 0 3599
        case false =>
          clear htl
          generalize F m 0 = x0 at *
          generalize F m 1 = x1 at *
          generalize F m 2 = x2 at *
          go_wp2_with fail
          go_quiet ((first | (go_at_call 57; exact q_same (specMonthOk_c _ _)) | (go_at_call 58; exact q_same (l01In_c _ _ _ _))))
          go_wp2_with fail
          go_ret
          exact ⟨ret_bool HT.out.symm, andThen L0 (andDrewN hbl1 _)⟩
        case true =>
        cases h2 : inB (F m 1) 0 3599
        case false =>
          clear htl
          generalize F m 0 = x0 at *
          generalize F m 1 = x1 at *
          generalize F m 2 = x2 at *
          go_wp2_with fail
          go_quiet ((first | (go_at_call 57; exact q_same (specMonthOk_c _ _)) | (go_at_call 58; exact q_same (l01In_c _ _ _ _))))
          go_wp2_with fail
          go_ret
          exact ⟨ret_bool HT.out.symm, andThen L0 (andDrewN hbl1 _)⟩
        case true =>
        cases h3 : decide (F m 1 < F m 0)
        case true =>
          clear htl
          generalize F m 0 = x0 at *
          generalize F m 1 = x1 at *
          generalize F m 2 = x2 at *
          go_wp2_with fail
          go_quiet ((first | (go_at_call 57; exact q_same (specMonthOk_c _ _)) | (go_at_call 58; exact q_same (l01In_c _ _ _ _))))
          go_wp2_with fail
          go_ret
          exact ⟨ret_bool HT.out.symm, andThen L0 (andDrewN hbl1 _)⟩
        case false =>
        cases h4 : inB (F m 2) 1 1000000
        case false =>
          clear htl
          generalize F m 0 = x0 at *
          generalize F m 1 = x1 at *
          generalize F m 2 = x2 at *
          go_wp2_with fail
          go_quiet ((first | (go_at_call 57; exact q_same (specMonthOk_c _ _)) | (go_at_call 58; exact q_same (l01In_c _ _ _ _))))
          go_wp2_with fail
          go_ret
          exact ⟨ret_bool HT.out.symm, andThen L0 (andDrewN hbl1 _)⟩
        case true =>
          obtain ⟨p, rfl⟩ : ∃ p, m = p + 1 := by
            rcases m with _ | p
            · rw [h1, h2, h3, h4] at htl; simp at htl
            · exact ⟨p, rfl⟩
          obtain ⟨b', off', e', _, ⟨c0', c1', c2'⟩, _⟩ := hT.at3 (show p < n by omega)
          obtain ⟨b2, off2, e2, _, ⟨u0, u1, u2⟩, _⟩ := hT1.at3 (show p < n by omega)
          simp only [Option.some.injEq, Addr.mk.injEq, and_true] at e' e2
          obtain ⟨rfl, rfl⟩ := e'
          obtain ⟨rfl, rfl⟩ := e2
          clear hT hT1
          simp only [Nat.add_sub_cancel] at htl
          have g0 : decide ((0 : Int) < (p : Int) + 1) = true := decide_eq_true (by omega)
          have g1 : (p : Int) + 1 - 1 = p := by omega
          have g2 : (p : Int) < n := by omega
          have g3 : (0 : Int) ≤ p := by omega
          have g4 : ((p : Int) + 1).toNat = p + 1 := by omega
          have g5 : (0 : Int) ≤ (p : Int) + 1 := by omega
          have g6 : (p : Int) + 1 < n := by omega
          rw [h1, h2, h3, h4] at htl
          have f1 : decide (F (p + 1) 1 < F p 1) = true := by simpa using htl
          clear htl
          generalize F (p + 1) 0 = x0 at *
          generalize F (p + 1) 1 = x1 at *
          generalize F (p + 1) 2 = x2 at *
          generalize F p 1 = y1 at *
          go_wp2_with fail
          go_quiet ((first | (go_at_call 57; exact q_same (specMonthOk_c _ _)) | (go_at_call 58; exact q_same (l01In_c _ _ _ _))))
          go_wp2_with fail
          go_ret
          exact ⟨ret_bool HT.out.symm, andThen L0 (andDrewN hbl1 _)⟩
      case true =>
        have HALL2 : Hid (∀ i, i < m + 1 → ptB F i = true) := by
          intro i hi
          rcases Nat.lt_or_ge i m with h | h
          · exact HALL.out i h
          · obtain rfl : i = m := by omega
            exact htl
        unfold ptB at htl
        obtain ⟨b, off, rfl, hb, ⟨c0, c1, c2⟩, _⟩ := hT.at3 hlt
        obtain ⟨h1, h2, h3, h4, h5⟩ : inB (F m 0) 0 3599 = true ∧ inB (F m 1) 0 3599 = true ∧ decide (F m 1 < F m 0) = false ∧ inB (F m 2) 1 1000000 = true ∧ (decide (0 < m) && decide (F m 1 < F (m - 1) 1)) = false := by
          simp only [Bool.and_eq_true, Bool.not_eq_true'] at htl
          exact ⟨htl.1.1.1.1, htl.1.1.1.2, htl.1.1.2, htl.1.2, htl.2⟩
        rcases m with _ | p
        · clear htl h5
          simp only [Nat.zero_mul, Nat.add_zero] at c0 c1 c2
          have n0 : 0 < n := hlt
          generalize F 0 0 = x0 at *
          generalize F 0 1 = x1 at *
          generalize F 0 2 = x2 at *
          go_wp2_with fail
          go_quiet ((first | (go_at_call 57; exact q_same (specMonthOk_c _ _)) | (go_at_call 58; exact q_same (l01In_c _ _ _ _))))
          go_wp2_with fail
          go_roundw
          case rel => exact ⟨1, by omega, by go_num, HALL2.out, andDrewN hbl1 _⟩
          case measure => simp [intOf]; omega
        · skip
          obtain ⟨b', off', e', _, ⟨c0', c1', c2'⟩, _⟩ := hT.at3 (show p < n by omega)
          obtain ⟨b2, off2, e2, _, ⟨u0, u1, u2⟩, _⟩ := hT1.at3 (show p < n by omega)
          simp only [Option.some.injEq, Addr.mk.injEq, and_true] at e' e2
          obtain ⟨rfl, rfl⟩ := e'
          obtain ⟨rfl, rfl⟩ := e2
          clear hT hT1
          simp only [Nat.add_sub_cancel] at htl
          have g0 : decide ((0 : Int) < (p : Int) + 1) = true := decide_eq_true (by omega)
          have g1 : (p : Int) + 1 - 1 = p := by omega
          have g2 : (p : Int) < n := by omega
          have g3 : (0 : Int) ≤ p := by omega
          have g4 : ((p : Int) + 1).toNat = p + 1 := by omega
          have g5 : (0 : Int) ≤ (p : Int) + 1 := by omega
          have g6 : (p : Int) + 1 < n := by omega
          clear htl
          simp only [Nat.add_sub_cancel] at h5
          have f1 : decide (F (p + 1) 1 < F p 1) = false := by simpa using h5
          clear h5
          generalize F (p + 1) 0 = x0 at *
          generalize F (p + 1) 1 = x1 at *
          generalize F (p + 1) 2 = x2 at *
          generalize F p 1 = y1 at *
          go_wp2_with fail
          go_quiet ((first | (go_at_call 57; exact q_same (specMonthOk_c _ _)) | (go_at_call 58; exact q_same (l01In_c _ _ _ _))))
          go_wp2_with fail
          go_roundw
          case rel => exact ⟨p + 1 + 1, by omega, by go_num, HALL2.out, andDrewN hbl1 _⟩
          case measure => simp [intOf]; omega
    · obtain rfl : m = n := by omega
      have HT := Lib.hid (seriesB_yes HALL.out)
      go_wp2_with fail
      go_ret
      exact ⟨ret_bool (by rw [HT.out]; simp; omega), andThen L0 hbl⟩

end Go.Proofs.Ytlpaicpjadkceaa
