/-
  Plain laws on the fractions' functions: no program in sight. Conditions: written out.
-/
import Derived.Test.YtlkkbekfkgliaaaFracDraw
namespace Go.Proofs.Ytlkkbekfkgliaaa
open Go.RowKit
set_option linter.unusedVariables false

theorem okB_gcd {a b : Int} (h : okB a b = true) : Int.gcd a b = 1 := by
  simp only [okB, Bool.and_eq_true, decide_eq_true_eq] at h
  exact h.2

theorem red1_eq {n d a b : Int} (hok : okB a b = true) (hd : 0 < d) (h : n * b = a * d) : red1 n d = (a, b, true) := by
  obtain ⟨b1, b2, a1, a2, _⟩ := okB_bd hok
  have hg := okB_gcd hok
  have hdvd : b ∣ a * d := ⟨n, by rw [← h, Int.mul_comm]⟩
  have hg' : Int.gcd b a = 1 := by rw [Int.gcd_comm]; exact hg
  have hbd : b ∣ d := by
    have h1 : b.natAbs ∣ a.natAbs * d.natAbs := by rw [← Int.natAbs_mul]; exact Int.natAbs_dvd_natAbs.2 hdvd
    have h2 : Nat.Coprime b.natAbs a.natAbs := hg'
    exact Int.natAbs_dvd_natAbs.1 (Nat.Coprime.dvd_of_dvd_mul_left h2 h1)
  obtain ⟨k, rfl⟩ := hbd
  have hk : 0 < k := by
    rcases Int.lt_or_le 0 k with h0 | h0
    · exact h0
    · have := Int.mul_nonpos_of_nonneg_of_nonpos (show 0 ≤ b by omega) h0
      omega
  have hn : n = k * a := by
    have : n * b = (k * a) * b := by rw [h, Int.mul_comm k a, Int.mul_assoc, Int.mul_comm k b]
    exact Int.eq_of_mul_eq_mul_right (by omega) this
  subst hn
  rw [Int.mul_comm b k, red1_scale hk (by omega)]
  have e1 : a / (Int.gcd a b : Int) = a := by rw [hg]; simp
  have e2 : b / (Int.gcd a b : Int) = b := by rw [hg]; simp
  have := red1_ok (n := a) (d := b) (by rw [e1, e2]; exact hok)
  rw [this, e1, e2]
theorem red_eq {n d a b : Int} (hok : okB a b = true) (hd : d ≠ 0) (h : n * b = a * d) : red n d = (a, b, true) := by
  unfold red
  by_cases h0 : d < 0
  · rw [if_pos h0]
    exact red1_eq hok (by omega) (by rw [Int.neg_mul, Int.mul_neg, h])
  · rw [if_neg h0]
    exact red1_eq hok (by omega) h

/-- A reduced fraction p / q of n / d. -/
structure IsRed (n d p q : Int) : Prop where
  ok : okB p q = true
  eq : p * d = n * q
  q0 : 1 ≤ q
  q1 : q ≤ d

theorem red_gen {n d : Int} (h0 : -1000000000000 ≤ n) (h1 : n ≤ 1000000000000) (h2 : 1 ≤ d) (h3 : d ≤ 1000000) : ∃ p q, red n d = (p, q, true) ∧ IsRed n d p q := by
  obtain ⟨a0, a1⟩ := abs_div_le (g := (Int.gcd n d : Int)) h0 h1
  have b0 := div_gcd_pos (n := n) (d := d) (by omega)
  have b1 := Int.ediv_le_self (a := d) (Int.gcd n d : Int) (by omega)
  have hok : okB (n / (Int.gcd n d : Int)) (d / (Int.gcd n d : Int)) = true := by
    unfold okB
    rw [inB_true (by omega) (by omega), inB_true (by omega) (by omega), gcd_red (by omega)]
    rfl
  refine ⟨_, _, ?_, ⟨hok, ?_, b0, b1⟩⟩
  · unfold red
    rw [if_neg (by omega), red1_ok hok]
  · have e1 : (Int.gcd n d : Int) * (n / (Int.gcd n d : Int)) = n := Int.mul_ediv_cancel' (Int.gcd_dvd_left ..)
    have e2 : (Int.gcd n d : Int) * (d / (Int.gcd n d : Int)) = d := Int.mul_ediv_cancel' (Int.gcd_dvd_right ..)
    generalize n / (Int.gcd n d : Int) = p at *
    generalize d / (Int.gcd n d : Int) = q at *
    generalize (Int.gcd n d : Int) = g at *
    subst e1
    subst e2
    rw [Int.mul_left_comm, Int.mul_assoc]

theorem IsRed.pos {n d p q : Int} (h : IsRed n d p q) : (0 < p ↔ 0 < n) ∧ (p = 0 ↔ n = 0) := by
  have h0 := h.q0
  have h1 : 0 < d := by have := h.q1; omega
  have e := h.eq
  have key : ∀ (a b : Int), 0 < b → (0 < a * b ↔ 0 < a) := fun a b hb => ⟨fun h => Int.pos_of_mul_pos_left h hb, fun h => Int.mul_pos h hb⟩
  constructor
  · rw [← key p d h1, e, key n q (by omega)]
  · constructor
    · rintro rfl
      rw [Int.zero_mul] at e
      rcases Int.mul_eq_zero.1 e.symm with h | h
      · exact h
      · omega
    · rintro rfl
      rw [Int.zero_mul] at e
      rcases Int.mul_eq_zero.1 e with h | h
      · exact h
      · omega

end Go.Proofs.Ytlkkbekfkgliaaa
