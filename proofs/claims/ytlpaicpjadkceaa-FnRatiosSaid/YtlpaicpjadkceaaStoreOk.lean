/-
  StoreOk of both packages computes one plain function. Conditions: the facts can be read.
-/
import Derived.Test.YtlpaicpjadkceaaStoreIn
import Derived.Test.YtlpaicpjadkceaaLater
import Derived.Deep.RegionHeld3
import Derived.Deep.DeepCutAuto
namespace Go.Proofs.Ytlpaicpjadkceaa
open Go.RowKit
set_option linter.unusedVariables false
set_option maxRecDepth 4000

theorem keepc6 {W w1 : World} {p0 p1 p2 p3 p4 p5 : Addr} {v0 v1 v2 v3 v4 v5 : Value} (hb : Below W.heap.size W w1) (h : W.cell? p0 = some v0 ∧ W.cell? p1 = some v1 ∧ W.cell? p2 = some v2 ∧ W.cell? p3 = some v3 ∧ W.cell? p4 = some v4 ∧ W.cell? p5 = some v5) : w1.cell? p0 = some v0 ∧ w1.cell? p1 = some v1 ∧ w1.cell? p2 = some v2 ∧ w1.cell? p3 = some v3 ∧ w1.cell? p4 = some v4 ∧ w1.cell? p5 = some v5 := ⟨cell_later hb h.1, cell_later hb h.2.1, cell_later hb h.2.2.1, cell_later hb h.2.2.2.1, cell_later hb h.2.2.2.2.1, cell_later hb h.2.2.2.2.2⟩
theorem keepd6 {W : World} {p0 p1 p2 p3 p4 p5 : Addr} {v0 v1 v2 v3 v4 v5 : Value} {q : Nat} (h : W.cell? p0 = some v0 ∧ W.cell? p1 = some v1 ∧ W.cell? p2 = some v2 ∧ W.cell? p3 = some v3 ∧ W.cell? p4 = some v4 ∧ W.cell? p5 = some v5) : (W.drewN q).cell? p0 = some v0 ∧ (W.drewN q).cell? p1 = some v1 ∧ (W.drewN q).cell? p2 = some v2 ∧ (W.drewN q).cell? p3 = some v3 ∧ (W.drewN q).cell? p4 = some v4 ∧ (W.drewN q).cell? p5 = some v5 := h
theorem keepc7 {W w1 : World} {p0 p1 p2 p3 p4 p5 p6 : Addr} {v0 v1 v2 v3 v4 v5 v6 : Value} (hb : Below W.heap.size W w1) (h : W.cell? p0 = some v0 ∧ W.cell? p1 = some v1 ∧ W.cell? p2 = some v2 ∧ W.cell? p3 = some v3 ∧ W.cell? p4 = some v4 ∧ W.cell? p5 = some v5 ∧ W.cell? p6 = some v6) : w1.cell? p0 = some v0 ∧ w1.cell? p1 = some v1 ∧ w1.cell? p2 = some v2 ∧ w1.cell? p3 = some v3 ∧ w1.cell? p4 = some v4 ∧ w1.cell? p5 = some v5 ∧ w1.cell? p6 = some v6 := ⟨cell_later hb h.1, cell_later hb h.2.1, cell_later hb h.2.2.1, cell_later hb h.2.2.2.1, cell_later hb h.2.2.2.2.1, cell_later hb h.2.2.2.2.2.1, cell_later hb h.2.2.2.2.2.2⟩
theorem keepd7 {W : World} {p0 p1 p2 p3 p4 p5 p6 : Addr} {v0 v1 v2 v3 v4 v5 v6 : Value} {q : Nat} (h : W.cell? p0 = some v0 ∧ W.cell? p1 = some v1 ∧ W.cell? p2 = some v2 ∧ W.cell? p3 = some v3 ∧ W.cell? p4 = some v4 ∧ W.cell? p5 = some v5 ∧ W.cell? p6 = some v6) : (W.drewN q).cell? p0 = some v0 ∧ (W.drewN q).cell? p1 = some v1 ∧ (W.drewN q).cell? p2 = some v2 ∧ (W.drewN q).cell? p3 = some v3 ∧ (W.drewN q).cell? p4 = some v4 ∧ (W.drewN q).cell? p5 = some v5 ∧ (W.drewN q).cell? p6 = some v6 := h

def stB (F : Nat → Nat → Int) (i : Nat) : Bool := factB (F i 0) (F i 1) (F i 2) (F i 3) (F i 4) && !(decide (0 < i) && decide (F i 3 < F (i - 1) 3))
def storeB (n : Nat) (F : Nat → Nat → Int) : Bool := (List.range n).all (stB F) && decide (n ≤ 200)
theorem storeB_no {n i : Nat} {F : Nat → Nat → Int} (hi : i < n) (h : stB F i = false) : storeB n F = false := by
  have : (List.range n).all (stB F) = false := by
    rw [List.all_eq_false]
    exact ⟨i, by simpa using hi, by simp [h]⟩
  unfold storeB
  rw [this]
  rfl
theorem storeB_yes {n : Nat} {F : Nat → Nat → Int} (h : ∀ i, i < n → stB F i = true) : storeB n F = decide (n ≤ 200) := by
  have : (List.range n).all (stB F) = true := by
    rw [List.all_eq_true]
    intro i hi
    exact h i (by simpa using hi)
  unfold storeB
  rw [this]
  rfl
theorem storeB_at {n i : Nat} {F : Nat → Nat → Int} (h : storeB n F = true) (hi : i < n) : stB F i = true := by
  unfold storeB at h
  rw [Bool.and_eq_true, List.all_eq_true] at h
  exact h.1 i (by simpa using hi)
theorem storeB_len {n : Nat} {F : Nat → Nat → Int} (h : storeB n F = true) : n ≤ 200 := by
  unfold storeB at h
  rw [Bool.and_eq_true] at h
  simpa using h.2


set_option maxHeartbeats 4000000 in
theorem specStoreOk_c (L : Nat) (A : Option Addr) (n cap : Nat) (F : Nat → Nat → Int) (w : World) (h1 : Tab 5 w L A n F) (hL : L ≤ w.heap.size) (hn : n ≤ 1048577) :
    Calls Try.prog 85 #[.agg #[.slice A n cap]] w fun e w' => e = .returned (.bool (storeB n F)) ∧ Below w.heap.size w w' := by
  have L0 : Below w.heap.size w (w.alloc (.cells #[.slice A n cap] 61)) := andAlloc (Below.refl _ _) _
  have B0 : (w.alloc (.cells #[.slice A n cap] 61)).cell? ⟨w.heap.size, 0, none⟩ = some (.slice A n cap) := by go_simp
  have S0 : (w.alloc (.cells #[.slice A n cap] 61)).heap.size = w.heap.size + 1 := by simp
  have H1 := Lib.hid (h1.keep (L0.mono hL))
  clear h1
  go_enter Try.func85, Try.ntmps85
  go_wp2_with fail
  generalize w.alloc (.cells #[.slice A n cap] 61) = W1 at L0 B0 S0 H1 ⊢
  have hL1 : L ≤ W1.heap.size := by omega
  go_loopw [3] (fun i wr => ∃ m : Nat, m ≤ n ∧ i = .int .i64 m ∧ (∀ i, i < m → stB F i = true) ∧ Below W1.heap.size W1 wr) (fun i _ => n - (intOf i).toNat)
  case atStart => exact ⟨0, Nat.zero_le _, rfl, (fun i hi => by omega), Below.refl _ _⟩
  case round =>
    obtain ⟨m, hm, rfl, hall, hbl⟩ := hrel
    have HALL := Lib.hid hall
    clear hall
    have sl := cell_later hbl B0
    by_cases hlt : m < n
    · have hT := H1.out.keep (hbl.mono hL1)
      have k0 : (0 : Int) ≤ (m : Int) := by omega
      have k1 : (m : Int) < (n : Int) := by omega
      cases htl : stB F m
      case false =>
        have HT := Lib.hid (storeB_no hlt htl)
        unfold stB at htl
        obtain ⟨b, off, rfl, hb, ⟨c0, c1, c2, c3, c4⟩, _⟩ := hT.at5 hlt
        cases hfo : factB (F m 0) (F m 1) (F m 2) (F m 3) (F m 4)
        case false =>
          clear htl
          have HF := Lib.hid hfo
          clear hfo
          generalize F m 0 = x0 at *
          generalize F m 1 = x1 at *
          generalize F m 2 = x2 at *
          generalize F m 3 = x3 at *
          generalize F m 4 = x4 at *
          go_wp2_with fail
          have q0 : ∀ s : Later wr, s.w.cell? ⟨b, off + m * 5, none⟩ = some (.int .i64 x0) := fun s => s.cell c0
          have q1 : ∀ s : Later wr, s.w.cell? ⟨b, off + m * 5 + 1, none⟩ = some (.int .i64 x1) := fun s => s.cell c1
          have q2 : ∀ s : Later wr, s.w.cell? ⟨b, off + m * 5 + 2, none⟩ = some (.int .i64 x2) := fun s => s.cell c2
          have q3 : ∀ s : Later wr, s.w.cell? ⟨b, off + m * 5 + 3, none⟩ = some (.int .i64 x3) := fun s => s.cell c3
          have q4 : ∀ s : Later wr, s.w.cell? ⟨b, off + m * 5 + 4, none⟩ = some (.int .i64 x4) := fun s => s.cell c4
          have qs : ∀ s : Later wr, s.w.cell? ⟨w.heap.size, 0, none⟩ = some (.slice (some ⟨b, off, none⟩) n cap) := fun s => s.cell sl
          refine wp_region_later (by kernel_rfl) (by kernel_rfl) ?_
          repeat (any_goals (first | go_big_quiet_step (((go_at_call 91; first | exact later_bool HF.out (specFactOk_c _ _ _ _ _ _)))) | quiet_step (((go_at_call 91; first | exact later_bool HF.out (specFactOk_c _ _ _ _ _ _))))))
          refine wpQuiet_nil ?_
          rintro _ ⟨s, rfl⟩
          have hbs := andThen hbl s.h
          go_wp2_with fail
          go_ret
          exact ⟨ret_bool HT.out.symm, andThen L0 hbs⟩
        case true =>
          obtain ⟨p, rfl⟩ : ∃ p, m = p + 1 := by
            rcases m with _ | p
            · rw [hfo] at htl; simp at htl
            · exact ⟨p, rfl⟩
          obtain ⟨b', off', e', _, ⟨c0', c1', c2', c3', c4'⟩, _⟩ := hT.at5 (show p < n by omega)
          simp only [Option.some.injEq, Addr.mk.injEq, and_true] at e'
          obtain ⟨rfl, rfl⟩ := e'
          clear hT
          have g0 : decide ((0 : Int) < (p : Int) + 1) = true := decide_eq_true (by omega)
          have g1 : (p : Int) + 1 - 1 = p := by omega
          have g2 : (p : Int) < n := by omega
          have g3 : (0 : Int) ≤ p := by omega
          have g4 : ((p : Int) + 1).toNat = p + 1 := by omega
          have g5 : (0 : Int) ≤ (p : Int) + 1 := by omega
          have g6 : (p : Int) + 1 < n := by omega
          rw [hfo] at htl
          simp only [Nat.add_sub_cancel] at htl
          have f1 : decide (F (p + 1) 3 < F p 3) = true := by simpa using htl
          clear htl
          have HF := Lib.hid hfo
          clear hfo
          generalize F (p + 1) 0 = x0 at *
          generalize F (p + 1) 1 = x1 at *
          generalize F (p + 1) 2 = x2 at *
          generalize F (p + 1) 3 = x3 at *
          generalize F (p + 1) 4 = x4 at *
          generalize F p 3 = y3 at *
          go_wp2_with fail
          have q0 : ∀ s : Later wr, s.w.cell? ⟨b, off + (p + 1) * 5, none⟩ = some (.int .i64 x0) := fun s => s.cell c0
          have q1 : ∀ s : Later wr, s.w.cell? ⟨b, off + (p + 1) * 5 + 1, none⟩ = some (.int .i64 x1) := fun s => s.cell c1
          have q2 : ∀ s : Later wr, s.w.cell? ⟨b, off + (p + 1) * 5 + 2, none⟩ = some (.int .i64 x2) := fun s => s.cell c2
          have q3 : ∀ s : Later wr, s.w.cell? ⟨b, off + (p + 1) * 5 + 3, none⟩ = some (.int .i64 x3) := fun s => s.cell c3
          have q4 : ∀ s : Later wr, s.w.cell? ⟨b, off + (p + 1) * 5 + 4, none⟩ = some (.int .i64 x4) := fun s => s.cell c4
          have qs : ∀ s : Later wr, s.w.cell? ⟨w.heap.size, 0, none⟩ = some (.slice (some ⟨b, off, none⟩) n cap) := fun s => s.cell sl
          have qp : ∀ s : Later wr, s.w.cell? ⟨b, off + p * 5 + 3, none⟩ = some (.int .i64 y3) := fun s => s.cell c3'
          refine wp_region_later (by kernel_rfl) (by kernel_rfl) ?_
          repeat (any_goals (first | go_big_quiet_step (((go_at_call 91; first | exact later_bool HF.out (specFactOk_c _ _ _ _ _ _)))) | quiet_step (((go_at_call 91; first | exact later_bool HF.out (specFactOk_c _ _ _ _ _ _))))))
          refine wpQuiet_nil ?_
          rintro _ ⟨s, rfl⟩
          have hbs := andThen hbl s.h
          go_wp2_with fail
          go_ret
          exact ⟨ret_bool HT.out.symm, andThen L0 hbs⟩
      case true =>
        have HALL2 : Hid (∀ i, i < m + 1 → stB F i = true) := by
          intro i hi
          rcases Nat.lt_or_ge i m with h | h
          · exact HALL.out i h
          · obtain rfl : i = m := by omega
            exact htl
        unfold stB at htl
        obtain ⟨b, off, rfl, hb, ⟨c0, c1, c2, c3, c4⟩, _⟩ := hT.at5 hlt
        have hfo : factB (F m 0) (F m 1) (F m 2) (F m 3) (F m 4) = true := by
          cases h : factB (F m 0) (F m 1) (F m 2) (F m 3) (F m 4)
          · rw [h] at htl; simp at htl
          · rfl
        rcases m with _ | p
        · clear htl
          simp only [Nat.zero_mul, Nat.add_zero] at c0 c1 c2 c3 c4
          have n0 : 0 < n := hlt
          have HF := Lib.hid hfo
          clear hfo
          generalize F 0 0 = x0 at *
          generalize F 0 1 = x1 at *
          generalize F 0 2 = x2 at *
          generalize F 0 3 = x3 at *
          generalize F 0 4 = x4 at *
          go_wp2_with fail
          have q0 : ∀ s : Later wr, s.w.cell? ⟨b, off, none⟩ = some (.int .i64 x0) := fun s => s.cell c0
          have q1 : ∀ s : Later wr, s.w.cell? ⟨b, off + 1, none⟩ = some (.int .i64 x1) := fun s => s.cell c1
          have q2 : ∀ s : Later wr, s.w.cell? ⟨b, off + 2, none⟩ = some (.int .i64 x2) := fun s => s.cell c2
          have q3 : ∀ s : Later wr, s.w.cell? ⟨b, off + 3, none⟩ = some (.int .i64 x3) := fun s => s.cell c3
          have q4 : ∀ s : Later wr, s.w.cell? ⟨b, off + 4, none⟩ = some (.int .i64 x4) := fun s => s.cell c4
          have qs : ∀ s : Later wr, s.w.cell? ⟨w.heap.size, 0, none⟩ = some (.slice (some ⟨b, off, none⟩) n cap) := fun s => s.cell sl
          refine wp_region_later (by kernel_rfl) (by kernel_rfl) ?_
          repeat (any_goals (first | go_big_quiet_step (((go_at_call 91; first | exact later_bool HF.out (specFactOk_c _ _ _ _ _ _)))) | quiet_step (((go_at_call 91; first | exact later_bool HF.out (specFactOk_c _ _ _ _ _ _))))))
          refine wpQuiet_nil ?_
          rintro _ ⟨s, rfl⟩
          have hbs := andThen hbl s.h
          all_goals
            go_wp2_with fail
            go_roundw
            case rel => exact ⟨1, by omega, by go_num, HALL2.out, hbs⟩
            case measure => simp [intOf]; omega
        · obtain ⟨b', off', e', _, ⟨c0', c1', c2', c3', c4'⟩, _⟩ := hT.at5 (show p < n by omega)
          simp only [Option.some.injEq, Addr.mk.injEq, and_true] at e'
          obtain ⟨rfl, rfl⟩ := e'
          clear hT
          have g0 : decide ((0 : Int) < (p : Int) + 1) = true := decide_eq_true (by omega)
          have g1 : (p : Int) + 1 - 1 = p := by omega
          have g2 : (p : Int) < n := by omega
          have g3 : (0 : Int) ≤ p := by omega
          have g4 : ((p : Int) + 1).toNat = p + 1 := by omega
          have g5 : (0 : Int) ≤ (p : Int) + 1 := by omega
          have g6 : (p : Int) + 1 < n := by omega
          rw [hfo] at htl
          simp only [Nat.add_sub_cancel] at htl
          have f1 : decide (F (p + 1) 3 < F p 3) = false := by simpa using htl
          clear htl
          have HF := Lib.hid hfo
          clear hfo
          generalize F (p + 1) 0 = x0 at *
          generalize F (p + 1) 1 = x1 at *
          generalize F (p + 1) 2 = x2 at *
          generalize F (p + 1) 3 = x3 at *
          generalize F (p + 1) 4 = x4 at *
          generalize F p 3 = y3 at *
          go_wp2_with fail
          have q0 : ∀ s : Later wr, s.w.cell? ⟨b, off + (p + 1) * 5, none⟩ = some (.int .i64 x0) := fun s => s.cell c0
          have q1 : ∀ s : Later wr, s.w.cell? ⟨b, off + (p + 1) * 5 + 1, none⟩ = some (.int .i64 x1) := fun s => s.cell c1
          have q2 : ∀ s : Later wr, s.w.cell? ⟨b, off + (p + 1) * 5 + 2, none⟩ = some (.int .i64 x2) := fun s => s.cell c2
          have q3 : ∀ s : Later wr, s.w.cell? ⟨b, off + (p + 1) * 5 + 3, none⟩ = some (.int .i64 x3) := fun s => s.cell c3
          have q4 : ∀ s : Later wr, s.w.cell? ⟨b, off + (p + 1) * 5 + 4, none⟩ = some (.int .i64 x4) := fun s => s.cell c4
          have qs : ∀ s : Later wr, s.w.cell? ⟨w.heap.size, 0, none⟩ = some (.slice (some ⟨b, off, none⟩) n cap) := fun s => s.cell sl
          have qp : ∀ s : Later wr, s.w.cell? ⟨b, off + p * 5 + 3, none⟩ = some (.int .i64 y3) := fun s => s.cell c3'
          refine wp_region_later (by kernel_rfl) (by kernel_rfl) ?_
          repeat (any_goals (first | go_big_quiet_step (((go_at_call 91; first | exact later_bool HF.out (specFactOk_c _ _ _ _ _ _)))) | quiet_step (((go_at_call 91; first | exact later_bool HF.out (specFactOk_c _ _ _ _ _ _))))))
          refine wpQuiet_nil ?_
          rintro _ ⟨s, rfl⟩
          have hbs := andThen hbl s.h
          all_goals
            go_wp2_with fail
            go_roundw
            case rel => exact ⟨p + 1 + 1, by omega, by go_num, HALL2.out, hbs⟩
            case measure => simp [intOf]; omega
    · obtain rfl : m = n := by omega
      have HT := Lib.hid (storeB_yes HALL.out)
      go_wp2_with fail
      go_ret
      exact ⟨ret_bool (by rw [HT.out]; simp; omega), andThen L0 hbl⟩

end Go.Proofs.Ytlpaicpjadkceaa
