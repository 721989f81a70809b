/-
  The plain law of Allocate: shares, what is left, how often each is raised. No program in sight.
-/
import Derived.Test.YtcibffmhlamcdaaSortPlain
namespace Go.Proofs.Ytcibffmhlamcdaa
set_option linter.unusedVariables false

def wAt (zs : List Int) (i : Nat) : Int := zs.getD i 0
def qf (T S : Int) (zs : List Int) (i : Nat) : Int := T * wAt zs i / S
def kf (T S : Int) (zs : List Int) (i : Nat) : Int := T * wAt zs i % S
def ws (zs : List Int) : Nat → Int
  | 0 => 0
  | k + 1 => ws zs k + wAt zs k
def qs (T S : Int) (zs : List Int) : Nat → Int
  | 0 => 0
  | k + 1 => qs T S zs k + qf T S zs k
def rs (T S : Int) (zs : List Int) : Nat → Int
  | 0 => 0
  | k + 1 => rs T S zs k + kf T S zs k
/-- The sum as the machine takes it. -/
def wsum (zs : List Int) : Nat → Int
  | 0 => 0
  | k + 1 => IntKind.i64.wrap (wsum zs k + wAt zs k)
def Wts (zs : List Int) : Prop := ∀ i, i < zs.length → 0 ≤ wAt zs i ∧ wAt zs i ≤ 1000000
theorem wAt_get {zs : List Int} {i : Nat} (h : i < zs.length) : wAt zs i = zs[i] := by
  unfold wAt; rw [List.getD_eq_getElem?_getD, List.getElem?_eq_getElem h]; rfl
theorem wts_of {zs : List Int} (h : zs.all (fun z => inB z 0 1000000) = true) : Wts zs := fun i hi => by
  rw [List.all_eq_true] at h
  have := inB_iff.1 (h zs[i] (List.getElem_mem hi))
  rw [wAt_get hi]
  exact this
theorem ws_nonneg {zs : List Int} (h : Wts zs) : ∀ k, k ≤ zs.length → 0 ≤ ws zs k ∧ ws zs k ≤ k * 1000000
  | 0, _ => by simp [ws]
  | k + 1, hk => by
    have := ws_nonneg h k (by omega)
    have := h k (by omega)
    simp only [ws]
    omega
theorem wsum_ws {zs : List Int} (h : Wts zs) (hn : zs.length ≤ 40) : ∀ k, k ≤ zs.length → wsum zs k = ws zs k
  | 0, _ => rfl
  | k + 1, hk => by
    have h1 := ws_nonneg h (k + 1) hk
    have h2 := wsum_ws h hn k (by omega)
    show IntKind.i64.wrap (wsum zs k + wAt zs k) = _
    rw [h2]
    have e : ws zs k + wAt zs k = ws zs (k + 1) := rfl
    rw [e]
    exact IntWalk.i64_in _ ⟨by omega, by omega⟩
theorem ws_split (T S : Int) (zs : List Int) : ∀ k, T * ws zs k = S * qs T S zs k + rs T S zs k
  | 0 => by simp [ws, qs, rs]
  | k + 1 => by
    have h1 := ws_split T S zs k
    have h2 := Int.mul_ediv_add_emod (T * wAt zs k) S
    simp only [ws, qs, rs, qf, kf, Int.mul_add]
    omega
theorem rs_bound {T S : Int} {zs : List Int} (hS : 0 < S) : ∀ k, 0 ≤ rs T S zs k ∧ rs T S zs k + k ≤ S * k
  | 0 => by simp [rs]
  | k + 1 => by
    have h1 := rs_bound (T := T) (zs := zs) hS k
    have h2 := Int.emod_nonneg (T * wAt zs k) (by omega : S ≠ 0)
    have h3 := Int.emod_lt_of_pos (T * wAt zs k) hS
    simp only [rs, kf]
    have : S * ((k + 1 : Nat) : Int) = S * (k : Int) + S := by rw [show ((k + 1 : Nat) : Int) = (k : Int) + 1 by omega, Int.mul_add, Int.mul_one]
    omega
/-- What is left is less than the number of weights. -/
theorem left_ok {T S : Int} {zs : List Int} (hS : 0 < S) (hs : S = ws zs zs.length) (hn : 0 < zs.length) : ∃ l : Nat, T - qs T S zs zs.length = (l : Int) ∧ l < zs.length ∧ rs T S zs zs.length = S * l := by
  have h1 := ws_split T S zs zs.length
  have h2 := rs_bound (T := T) (zs := zs) hS zs.length
  rw [← hs] at h1
  have h3 : S * (T - qs T S zs zs.length) = rs T S zs zs.length := by rw [Int.mul_sub, Int.mul_comm S T]; omega
  generalize T - qs T S zs zs.length = x at h3 ⊢
  have x0 : 0 ≤ x := by
    rcases Int.lt_or_le x 0 with h | h
    · have := Int.mul_le_mul_of_nonneg_left (show x ≤ -1 by omega) (show 0 ≤ S by omega)
      omega
    · exact h
  have x1 : x < zs.length := by
    rcases Int.lt_or_le x zs.length with h | h
    · exact h
    · have := Int.mul_le_mul_of_nonneg_left h (show 0 ≤ S by omega)
      omega
  obtain ⟨l, rfl⟩ := Int.eq_ofNat_of_zero_le x0
  exact ⟨l, rfl, by omega, h3.symm⟩
theorem qf_bound {T S : Int} {zs : List Int} (hT : 0 ≤ T) (hS : 0 < S) {i : Nat} (h0 : 0 ≤ wAt zs i) (h1 : wAt zs i ≤ S) : 0 ≤ qf T S zs i ∧ qf T S zs i ≤ T := by
  have a0 := Int.mul_nonneg hT h0
  constructor
  · exact Int.ediv_nonneg a0 (by omega)
  · have : T * wAt zs i ≤ T * S := Int.mul_le_mul_of_nonneg_left h1 hT
    exact Int.ediv_le_of_le_mul hS this
theorem ws_le {zs : List Int} (h : Wts zs) : ∀ j k, j ≤ k → k ≤ zs.length → ws zs j ≤ ws zs k := by
  intro j k hj hk
  induction k with
  | zero => rw [show j = 0 by omega]; exact Int.le_refl _
  | succ k ih =>
    rcases Nat.lt_or_ge k j with h' | h'
    · rw [show j = k + 1 by omega]; exact Int.le_refl _
    · have := ih h' (by omega)
      have := h k (by omega)
      simp only [ws]
      omega
theorem wAt_le {zs : List Int} (h : Wts zs) {i : Nat} (hi : i < zs.length) : wAt zs i ≤ ws zs zs.length := by
  have h1 := ws_le h (i + 1) zs.length (by omega) (by omega)
  have h2 := ws_nonneg h i (by omega)
  simp only [ws] at h1
  omega
theorem qs_bound {T S : Int} {zs : List Int} (hT : 0 ≤ T) (hS : 0 < S) (hs : S = ws zs zs.length) (h : Wts zs) : ∀ k, k ≤ zs.length → 0 ≤ qs T S zs k ∧ qs T S zs k ≤ T := by
  intro k hk
  constructor
  · induction k with
    | zero => exact Int.le_refl _
    | succ k ih =>
      have := ih (by omega)
      have := (qf_bound (T := T) (zs := zs) hT hS (i := k) (h k (by omega)).1 (by rw [hs]; exact wAt_le h (by omega))).1
      simp only [qs]
      omega
  · have h1 := ws_split T S zs k
    have h2 := rs_bound (T := T) (zs := zs) hS k
    have h3 := ws_le h k zs.length hk (Nat.le_refl _)
    rw [← hs] at h3
    have h4 := Int.mul_le_mul_of_nonneg_left h3 hT
    rcases Int.lt_or_le T (qs T S zs k) with h | h
    · have := Int.mul_le_mul_of_nonneg_left (show T + 1 ≤ qs T S zs k by omega) (show 0 ≤ S by omega)
      rw [Int.mul_add, Int.mul_comm S T] at this
      omega
    · exact h

/-- How often share i has been raised by the first k of the order. -/
def incF (d : Nat → Nat) : Nat → Nat → Int
  | 0, i => 0
  | k + 1, i => incF d k i + if d k = i then 1 else 0
theorem incF_none {d : Nat → Nat} {i : Nat} : ∀ k, (∀ t, t < k → d t ≠ i) → incF d k i = 0
  | 0, _ => rfl
  | k + 1, h => by
    simp only [incF]
    rw [incF_none k (fun t ht => h t (by omega)), if_neg (h k (by omega))]
    rfl
theorem incF_one {d : Nat → Nat} {n i : Nat} (hinj : ∀ p q, p < n → q < n → d p = d q → p = q) : ∀ k, k ≤ n → ∀ t, t < k → d t = i → incF d k i = 1
  | 0, _, t, ht, _ => by omega
  | k + 1, hk, t, ht, e => by
    simp only [incF]
    by_cases h : t = k
    · subst h
      rw [incF_none t (fun u hu eu => by have := hinj u t (by omega) (by omega) (eu.trans e.symm); omega), if_pos e]
      rfl
    · rw [incF_one hinj k (by omega) t (by omega) e, if_neg (fun eu => h (hinj t k (by omega) (by omega) (e.trans eu.symm)))]
      rfl
theorem incF_01 {d : Nat → Nat} {n : Nat} (hinj : ∀ p q, p < n → q < n → d p = d q → p = q) (k : Nat) (hk : k ≤ n) (i : Nat) : (incF d k i = 0 ∧ ∀ t, t < k → d t ≠ i) ∨ (incF d k i = 1 ∧ ∃ t, t < k ∧ d t = i) := by
  by_cases h : ∃ t, t < k ∧ d t = i
  · obtain ⟨t, ht, e⟩ := h
    exact .inr ⟨incF_one hinj k hk t ht e, t, ht, e⟩
  · have h' : ∀ t, t < k → d t ≠ i := fun t ht e => h ⟨t, ht, e⟩
    exact .inl ⟨incF_none k h', h'⟩

/-- The conditions of Allocate. -/
def okA (T : Int) (zs : List Int) : Bool := inB T 0 1000000000 && (inB (zs.length : Int) 1 40 && ((zs.all fun z => inB z 0 1000000) && !(wsum zs zs.length == 0)))
theorem okA_yes {T : Int} {zs : List Int} (h1 : inB T 0 1000000000 = true) (h2 : inB (zs.length : Int) 1 40 = true) (h3 : (zs.all fun z => inB z 0 1000000) = true) (h4 : (wsum zs zs.length == 0) = false) : okA T zs = true := by
  unfold okA; rw [h1, h2, h3, h4]; rfl
theorem okA_no {T : Int} {zs : List Int} (h : inB T 0 1000000000 = false ∨ inB (zs.length : Int) 1 40 = false ∨ (zs.all fun z => inB z 0 1000000) = false ∨ (wsum zs zs.length == 0) = true) : okA T zs = false := by
  unfold okA
  rcases h with h | h | h | h <;> rw [h] <;> simp
end Go.Proofs.Ytcibffmhlamcdaa
