/-
  The plain law of FnAllocated: the shares add up to the total, each is nearer than one to its part. No program in sight.
-/
import Derived.Test.YtcibffmhlamcdaaAllocPlain
namespace Go.Proofs.Ytcibffmhlamcdaa
set_option linter.unusedVariables false

def sumF (f : Nat → Int) : Nat → Int
  | 0 => 0
  | k + 1 => sumF f k + f k
theorem sumF_congr {f g : Nat → Int} : ∀ n, (∀ i, i < n → f i = g i) → sumF f n = sumF g n
  | 0, _ => rfl
  | n + 1, h => by
    simp only [sumF]
    rw [sumF_congr n (fun i hi => h i (by omega)), h n (by omega)]
theorem sumF_add (f g : Nat → Int) : ∀ n, sumF (fun i => f i + g i) n = sumF f n + sumF g n
  | 0 => rfl
  | n + 1 => by
    simp only [sumF]
    rw [sumF_add f g n]
    omega
theorem sumF_zero : ∀ n, sumF (fun _ => 0) n = 0
  | 0 => rfl
  | n + 1 => by simp only [sumF]; rw [sumF_zero n]; rfl
theorem sumF_at (f : Nat → Int) (x : Nat) : ∀ n, sumF (fun i => if x = i then f i else 0) n = if x < n then f x else 0
  | 0 => by simp [sumF]
  | n + 1 => by
    simp only [sumF]
    rw [sumF_at f x n]
    by_cases h : x = n
    · subst h; simp
    · by_cases h2 : x < n
      · rw [if_pos h2, if_neg h, if_pos (by omega)]; omega
      · rw [if_neg h2, if_neg h, if_neg (by omega)]; rfl
theorem sumF_inc (d : Nat → Nat) (f : Nat → Int) (n : Nat) : ∀ k, (∀ p, p < k → d p < n) → sumF (fun i => incF d k i * f i) n = sumF (fun p => f (d p)) k
  | 0, _ => by
    simp only [incF, Int.zero_mul]
    exact sumF_zero n
  | k + 1, h => by
    have e : ∀ i, incF d (k + 1) i * f i = incF d k i * f i + (if d k = i then f i else 0) := fun i => by
      simp only [incF]
      rw [Int.add_mul]
      by_cases h : d k = i <;> simp [h]
    simp only [e]
    rw [sumF_add, sumF_inc d f n k (fun p hp => h p (by omega)), sumF_at, if_pos (h k (by omega))]
    rfl
theorem sumF_one : ∀ n : Nat, sumF (fun _ => 1) n = n
  | 0 => rfl
  | n + 1 => by simp only [sumF]; rw [sumF_one n]; omega
theorem sumF_le {f g : Nat → Int} : ∀ n, (∀ i, i < n → f i ≤ g i) → sumF f n ≤ sumF g n
  | 0, _ => Int.le_refl _
  | n + 1, h => by
    have := sumF_le n (fun i hi => h i (by omega))
    have := h n (by omega)
    simp only [sumF]
    omega
theorem sumF_all {f : Nat → Int} : ∀ n : Nat, (∀ i, i < n → f i ≤ 1) → sumF f n = n → ∀ i, i < n → f i = 1
  | 0, _, _, i, hi => by omega
  | n + 1, h, hs, i, hi => by
    have h1 := sumF_le (f := f) (g := fun _ => 1) n (fun i hi => h i (by omega))
    rw [sumF_one] at h1
    have h2 := h n (by omega)
    simp only [sumF] at hs
    rcases Nat.lt_or_ge i n with h' | h'
    · exact sumF_all n (fun i hi => h i (by omega)) (by omega) i h'
    · rw [show i = n by omega]; omega
theorem rs_sumF (T S : Int) (zs : List Int) : ∀ n, rs T S zs n = sumF (kf T S zs) n
  | 0 => rfl
  | n + 1 => by simp only [rs, sumF]; rw [rs_sumF T S zs n]
theorem qs_sumF (T S : Int) (zs : List Int) : ∀ n, qs T S zs n = sumF (qf T S zs) n
  | 0 => rfl
  | n + 1 => by simp only [qs, sumF]; rw [qs_sumF T S zs n]
theorem wp_inj {n : Nat} {d : Nat → Nat} (h : WP 0 n id d) : ∀ p q, p < n → q < n → d p = d q → p = q := by
  obtain ⟨σ, s1, s2, s3, s4⟩ := h
  intro p q _ _ e
  rw [s4, s4] at e
  exact s1 p q e
theorem wp_lt {n : Nat} {d : Nat → Nat} (h : WP 0 n id d) : ∀ p, p < n → d p < n := h.lt (Nat.le_refl _) (fun p hp => hp)
theorem wp_all {n : Nat} {d : Nat → Nat} (h : WP 0 n id d) : ∀ i, i < n → incF d n i = 1 := by
  refine sumF_all n (fun i hi => ?_) ?_
  · rcases incF_01 (wp_inj h) n (Nat.le_refl _) i with e | e <;> omega
  · have := sumF_inc d (fun _ => 1) n n (wp_lt h)
    simp only [Int.mul_one] at this
    rw [this, sumF_one]
theorem sum_share {T S : Int} {zs : List Int} {n l : Nat} {d : Nat → Nat} (hw : WP 0 n id d) (hl : T - qs T S zs n = (l : Int)) (hln : l < n) : sumF (fun i => qf T S zs i + incF d l i) n = T := by
  rw [sumF_add, ← qs_sumF]
  have := sumF_inc d (fun _ => 1) n l (fun p hp => wp_lt hw p (by omega))
  simp only [Int.mul_one] at this
  rw [this, sumF_one]
  omega
/-- Those raised have a remainder. -/
theorem raised {T S : Int} {zs : List Int} {n l t : Nat} {d : Nat → Nat} (hS : 0 < S) (hw : WP 0 n id d) (hsr : SR (kf T S zs) d 0 n) (hr : rs T S zs n = S * l) (hln : l < n) (ht : t < l) : 0 < kf T S zs (d t) := by
  have hk0 : ∀ i, 0 ≤ kf T S zs i := fun i => Int.emod_nonneg _ (by omega)
  have hk1 : ∀ i, kf T S zs i ≤ S - 1 := fun i => by have := Int.emod_lt_of_pos (T * wAt zs i) hS; unfold kf; omega
  rcases Int.lt_or_le 0 (kf T S zs (d t)) with h | h
  · exact h
  · exfalso
    have hz : ∀ p, t ≤ p → p < n → kf T S zs (d p) = 0 := fun p hp hpn => by
      have := hk0 (d p)
      by_cases e : p = t
      · subst e; omega
      · have := (hsr t p (Nat.zero_le _) (by omega) hpn).le
        omega
    have e1 : rs T S zs n = sumF (fun p => kf T S zs (d p)) n := by
      rw [rs_sumF, ← sumF_inc d (kf T S zs) n n (wp_lt hw)]
      exact sumF_congr n fun i hi => by rw [wp_all hw i hi, Int.one_mul]
    have e2 : ∀ m, m ≤ n → sumF (fun p => kf T S zs (d p)) m + (if m ≤ t then (m : Int) else t) ≤ S * (if m ≤ t then (m : Int) else t) := by
      intro m
      induction m with
      | zero => intro _; simp [sumF]
      | succ m ih =>
        intro hm
        have h1 := ih (by omega)
        simp only [sumF]
        by_cases c : m + 1 ≤ t
        · rw [if_pos (by omega)] at h1
          rw [if_pos c]
          have h2 := hk1 (d m)
          have : S * ((m + 1 : Nat) : Int) = S * (m : Int) + S := by rw [show ((m + 1 : Nat) : Int) = (m : Int) + 1 by omega, Int.mul_add, Int.mul_one]
          omega
        · rw [if_neg c, hz m (by omega) (by omega)]
          by_cases c2 : m ≤ t
          · have : m = t := by omega
            subst this
            simp only [if_pos (Nat.le_refl _)] at h1
            omega
          · rw [if_neg c2] at h1
            omega
    have e3 := e2 n (Nat.le_refl _)
    rw [if_neg (by omega)] at e3
    rw [← e1, hr] at e3
    have : S * ((t : Int) + 1) ≤ S * (l : Int) := Int.mul_le_mul_of_nonneg_left (by omega) (by omega)
    rw [Int.mul_add, Int.mul_one] at this
    omega
/-- Each share is nearer than one to its part. -/
theorem near {T S : Int} {zs : List Int} {n l i : Nat} {d : Nat → Nat} (hS : 0 < S) (hw : WP 0 n id d) (hsr : SR (kf T S zs) d 0 n) (hr : rs T S zs n = S * l) (hln : l < n) :
    -S < (qf T S zs i + incF d l i) * S - T * wAt zs i ∧ (qf T S zs i + incF d l i) * S - T * wAt zs i < S := by
  have h1 := Int.mul_ediv_add_emod (T * wAt zs i) S
  have h2 := Int.emod_nonneg (T * wAt zs i) (by omega : S ≠ 0)
  have h3 := Int.emod_lt_of_pos (T * wAt zs i) hS
  have h4 : (qf T S zs i + incF d l i) * S = S * (T * wAt zs i / S) + incF d l i * S := by rw [Int.add_mul, Int.mul_comm S]; rfl
  rw [h4]
  rcases incF_01 (wp_inj hw) l (by omega) i with ⟨e, _⟩ | ⟨e, t, ht, et⟩
  · rw [e, Int.zero_mul]; omega
  · have h5 := raised hS hw hsr hr hln ht
    rw [et] at h5
    unfold kf at h5
    rw [e, Int.one_mul]
    omega

end Go.Proofs.Ytcibffmhlamcdaa
