/-
  The plain laws of FnOrder and FnFractions. Conditions: written out.
-/
import Derived.Test.YtlkkbekfkgliaaaFracPlain
namespace Go.Proofs.Ytlkkbekfkgliaaa
open Go.RowKit
set_option linter.unusedVariables false

theorem SmallFrac.small {x y : Int} (h : SmallFrac x y) : smallB x y = true := by
  obtain ⟨h0, h1, h2, h3, h4⟩ := h
  unfold smallB
  rw [h0, inB_true (by omega) (by omega)]
  rfl
theorem pm_bd {x y u v : Int} (a : SmallFrac x y) (b : SmallFrac u v) : (-60000 ≤ x * v ∧ x * v ≤ 60000) ∧ (1 ≤ y * v ∧ y * v ≤ 3600) ∧ (-60000 ≤ u * y ∧ u * y ≤ 60000) ∧ (-1000000 ≤ x * u ∧ x * u ≤ 1000000) := by
  obtain ⟨_, a0, a1, a2, a3⟩ := a
  obtain ⟨_, b0, b1, b2, b3⟩ := b
  have e1 := mul_bd (a := x) (d := v) (A := 1000) (D := 60) (by omega) (by omega) (by omega) (by omega)
  have e2 := mul_bd (a := y) (d := v) (A := 60) (D := 60) (by omega) (by omega) (by omega) (by omega)
  have e3 := mul_bd (a := u) (d := y) (A := 1000) (D := 60) (by omega) (by omega) (by omega) (by omega)
  have e4 := mul_bd (a := x) (d := u) (A := 1000) (D := 1000) (by omega) (by omega) (by omega) (by omega)
  have e5 : 0 < y * v := Int.mul_pos (by omega) (by omega)
  refine ⟨⟨?_, ?_⟩, ⟨?_, ?_⟩, ⟨?_, ?_⟩, ⟨?_, ?_⟩⟩ <;> omega

theorem add_plain {x y u v : Int} (a : SmallFrac x y) (b : SmallFrac u v) : ∃ p q, addF x y u v = (p, q, true) ∧ IsRed (x * v + u * y) (y * v) p q := by
  obtain ⟨h1, h2, h3, h4⟩ := pm_bd a b
  obtain ⟨p, q, h, hr⟩ := red_gen (n := x * v + u * y) (d := y * v) (by omega) (by omega) (by omega) (by omega)
  refine ⟨p, q, ?_, hr⟩
  unfold addF
  rw [a.ok, b.ok]
  exact h
theorem sub_plain {x y u v : Int} (a : SmallFrac x y) (b : SmallFrac u v) : ∃ p q, subF x y u v = (p, q, true) ∧ IsRed (x * v - u * y) (y * v) p q := by
  obtain ⟨h1, h2, h3, h4⟩ := pm_bd a b
  obtain ⟨p, q, h, hr⟩ := red_gen (n := x * v - u * y) (d := y * v) (by omega) (by omega) (by omega) (by omega)
  refine ⟨p, q, ?_, hr⟩
  unfold subF
  rw [a.ok, b.ok]
  exact h
theorem IsRed.p_bd {n d p q A : Int} (h : IsRed n d p q) (h0 : -A ≤ n) (h1 : n ≤ A) : -A ≤ p ∧ p ≤ A := by
  obtain ⟨_, e, q0, q1⟩ := h
  have e' : p.natAbs * d.natAbs = n.natAbs * q.natAbs := by rw [← Int.natAbs_mul, ← Int.natAbs_mul, e]
  have : p.natAbs * d.natAbs ≤ n.natAbs * d.natAbs := by rw [e']; exact Nat.mul_le_mul_left _ (by omega)
  have := Nat.le_of_mul_le_mul_right this (by omega)
  omega
theorem mul_plain {x y u v : Int} (a : SmallFrac x y) (b : SmallFrac u v) : ∃ p q, mulF x y u v = (p, q, true) ∧ IsRed (x * u) (y * v) p q ∧ smallB p q = true := by
  obtain ⟨h1, h2, h3, h4⟩ := pm_bd a b
  obtain ⟨p, q, h, hr⟩ := red_gen (n := x * u) (d := y * v) (by omega) (by omega) (by omega) (by omega)
  refine ⟨p, q, ?_, hr, ?_⟩
  · unfold mulF
    rw [a.small, b.small]
    exact h
  · have := hr.p_bd h4.1 h4.2
    unfold smallB
    rw [hr.ok, inB_true (by omega) (by omega)]
    rfl
theorem new_plain {x y : Int} (a : SmallFrac x y) : newF (-3 * x) (-3 * y) = (x, y, true) := by
  obtain ⟨h0, h1, h2, h3, h4⟩ := a
  unfold newF
  rw [inB_true (by omega) (by omega), inB_true (by omega) (by omega), beq_eq_false_iff_ne.2 (show -3 * y ≠ 0 by omega)]
  simp only [Bool.not_false, Bool.and_self, if_true]
  refine red_eq h0 (by omega) ?_
  rw [Int.mul_comm (-3) x, Int.mul_comm (-3) y, Int.mul_assoc, Int.mul_comm (-3) y]
theorem sub_back {x y u v p q : Int} (a : SmallFrac x y) (b : SmallFrac u v) (h : IsRed (x * v + u * y) (y * v) p q) : subF p q u v = (x, y, true) := by
  unfold subF
  rw [h.ok, b.ok]
  simp only [Bool.and_self, if_true]
  have hy := a.y0
  have hv := b.y0
  have hq := h.q0
  refine red_eq a.ok (by have := Int.mul_pos (show 0 < q by omega) (show 0 < v by omega); omega) ?_
  have e := h.eq
  have : p * v * y = x * v * q + u * y * q := by rw [Int.mul_assoc, Int.mul_comm v y, e, Int.add_mul]
  rw [Int.sub_mul, this]
  have e2 : u * q * y = u * y * q := by rw [Int.mul_assoc, Int.mul_comm q y, ← Int.mul_assoc]
  rw [e2]
  have e3 : x * (q * v) = x * v * q := by rw [Int.mul_comm q v, ← Int.mul_assoc]
  omega
theorem div_back {x y u v p q : Int} (a : SmallFrac x y) (b : SmallFrac u v) (h : IsRed (x * u) (y * v) p q) (hs : smallB p q = true) (hu : (u == 0) = false) : divF p q u v = (x, y, true) := by
  unfold divF
  rw [hs, b.small, hu]
  simp only [Bool.not_false, Bool.and_self, if_true]
  have hq := h.q0
  have hu' : u ≠ 0 := beq_eq_false_iff_ne.1 hu
  refine red_eq a.ok (by
    intro h0
    rcases Int.mul_eq_zero.1 h0 with h0 | h0
    · omega
    · exact hu' h0) ?_
  have e := h.eq
  have e1 : p * v * y = x * u * q := by rw [Int.mul_assoc, Int.mul_comm v y, e]
  rw [e1, Int.mul_comm q u, Int.mul_assoc]
theorem div_zero {x y v : Int} : divF x y 0 v = (0, 0, false) := by
  unfold divF
  simp
theorem IsRed.zero {x y v p q : Int} (h : IsRed (x * 0) (y * v) p q) : p = 0 := h.pos.2.2 (by simp)
theorem cmp_self {x y : Int} (a : SmallFrac x y) : cmpF x y x y = 0 := by
  unfold cmpF
  rw [a.ok]
  simp
theorem cmp_sub {x y u v p q : Int} (a : SmallFrac x y) (b : SmallFrac u v) (h : IsRed (x * v - u * y) (y * v) p q) :
    (decide (0 < cmpF x y u v) = decide (0 < p)) ∧ ((cmpF x y u v == 0) = (p == 0)) ∧ cmpF x y u v = -cmpF u v x y ∧ -1 ≤ cmpF x y u v ∧ cmpF x y u v ≤ 1 := by
  obtain ⟨h1, h2⟩ := h.pos
  unfold cmpF
  rw [a.ok, b.ok]
  simp only [Bool.and_self, if_true]
  generalize x * v = s at *
  generalize u * y = t at *
  rcases Int.lt_trichotomy s t with g | g | g
  · rw [if_pos g, if_neg (show ¬ t < s by omega), if_pos g]
    refine ⟨?_, ?_, by omega, by omega, by omega⟩
    · have : ¬ 0 < p := by omega
      simp [this]
    · have : p ≠ 0 := by omega
      simp [this]
  · subst g
    have : p = 0 := by omega
    subst this
    simp
  · rw [if_neg (show ¬ s < t by omega), if_pos g, if_pos g]
    have : 0 < p := by omega
    refine ⟨?_, ?_, by omega, by omega, by omega⟩
    · simp [this]
    · have : p ≠ 0 := by omega
      simp [this]

end Go.Proofs.Ytlkkbekfkgliaaa
