/-
  The plain law of the sorts: orders by a key, rising first by the second; windows permuted. No program in sight.
-/
import Derived.Test.YtcibffmhlamcdaaCmp
namespace Go.Proofs.Ytcibffmhlamcdaa
set_option linter.unusedVariables false

section
variable {key : Nat → Int}
/-- x comes before y: the greater key, at equal keys the lesser number. -/
def RR (key : Nat → Int) (x y : Nat) : Prop := key y < key x ∨ (key x = key y ∧ x < y)
theorem RR.trans {x y z : Nat} (h : RR key x y) (k : RR key y z) : RR key x z := by
  unfold RR at *; omega
theorem RR.le {x y : Nat} (h : RR key x y) : key y ≤ key x := by unfold RR at h; omega
def SR (key : Nat → Int) (d : Nat → Nat) (a b : Nat) : Prop := ∀ p q, a ≤ p → p < q → q < b → RR key (d p) (d q)
/-- At equal keys the numbers rise. -/
def SS (key : Nat → Int) (d : Nat → Nat) (a b : Nat) : Prop := ∀ p q, a ≤ p → p < q → q < b → key (d p) = key (d q) → d p < d q
/-- d' is d with the window [a, b) permuted. -/
def WP (a b : Nat) (d d' : Nat → Nat) : Prop := ∃ σ : Nat → Nat, (∀ p q, σ p = σ q → p = q) ∧ (∀ p, a ≤ p → p < b → a ≤ σ p ∧ σ p < b) ∧ (∀ p, p < a ∨ b ≤ p → σ p = p) ∧ ∀ p, d' p = d (σ p)
theorem WP.refl (a b : Nat) (d : Nat → Nat) : WP a b d d := ⟨id, fun _ _ h => h, fun p h1 h2 => ⟨h1, h2⟩, fun _ _ => rfl, fun _ => rfl⟩
theorem WP.trans {a b : Nat} {d e f : Nat → Nat} (h : WP a b d e) (k : WP a b e f) : WP a b d f := by
  obtain ⟨σ, s1, s2, s3, s4⟩ := h
  obtain ⟨τ, t1, t2, t3, t4⟩ := k
  refine ⟨fun p => σ (τ p), fun p q e => t1 _ _ (s1 _ _ e), fun p h1 h2 => ?_, fun p h => ?_, fun p => by rw [t4, s4]⟩
  · obtain ⟨u1, u2⟩ := t2 p h1 h2
    exact s2 _ u1 u2
  · show σ (τ p) = p
    rw [t3 p h, s3 p h]
theorem WP.mono {a b a' b' : Nat} {d e : Nat → Nat} (h : WP a b d e) (ha : a' ≤ a) (hb : b ≤ b') : WP a' b' d e := by
  obtain ⟨σ, s1, s2, s3, s4⟩ := h
  refine ⟨σ, s1, fun p h1 h2 => ?_, fun p h => s3 p (by omega), s4⟩
  by_cases hp : a ≤ p ∧ p < b
  · have := s2 p hp.1 hp.2
    omega
  · rw [s3 p (by omega)]
    exact ⟨h1, h2⟩
theorem WP.out {a b : Nat} {d e : Nat → Nat} (h : WP a b d e) {p : Nat} (hp : p < a ∨ b ≤ p) : e p = d p := by
  obtain ⟨σ, s1, s2, s3, s4⟩ := h
  rw [s4, s3 p hp]
theorem WP.into {a b : Nat} {d e : Nat → Nat} (h : WP a b d e) {p : Nat} (h1 : a ≤ p) (h2 : p < b) : ∃ q, a ≤ q ∧ q < b ∧ e p = d q := by
  obtain ⟨σ, s1, s2, s3, s4⟩ := h
  obtain ⟨u1, u2⟩ := s2 p h1 h2
  exact ⟨σ p, u1, u2, s4 p⟩
theorem WP.lt {a b n : Nat} {d e : Nat → Nat} (h : WP a b d e) (hb : b ≤ n) (hd : ∀ p, p < n → d p < n) : ∀ p, p < n → e p < n := fun p hp => by
  by_cases hw : a ≤ p ∧ p < b
  · obtain ⟨q, _, q2, e⟩ := h.into hw.1 hw.2
    rw [e]; exact hd q (by omega)
  · rw [h.out (by omega)]; exact hd p hp
def swp (d : Nat → Nat) (i j : Nat) : Nat → Nat := fun p => if p = j then d i else if p = i then d j else d p
theorem WP.swp {a b i j : Nat} (d : Nat → Nat) (hi : a ≤ i ∧ i < b) (hj : a ≤ j ∧ j < b) : WP a b d (swp d i j) := by
  refine ⟨fun p => if p = j then i else if p = i then j else p, fun p q => ?_, fun p h1 h2 => ?_, fun p h => ?_, fun p => ?_⟩
  · dsimp only
    split <;> split <;> (try split) <;> (try split) <;> omega
  · dsimp only
    split <;> (try split) <;> omega
  · dsimp only
    split <;> (try split) <;> omega
  · dsimp only
    unfold Go.Proofs.Ytcibffmhlamcdaa.swp
    split
    · rfl
    · split <;> rfl
/-- The sorted window and the rest in order: all in order. -/
theorem SS.of {a b i j : Nat} {d e : Nat → Nat} (h : SS key d a b) (hw : WP i j d e) (hs : SR key e i j) (hi : a ≤ i) (hj : j ≤ b) : SS key e a b := by
  intro p q hp hpq hq hk
  by_cases c1 : i ≤ p ∧ p < j
  · by_cases c2 : q < j
    · have := hs p q c1.1 hpq c2
      unfold RR at this
      omega
    · obtain ⟨u, u1, u2, ue⟩ := hw.into c1.1 c1.2
      have vq := hw.out (p := q) (by omega)
      rw [ue, vq] at hk ⊢
      exact h u q (by omega) (by omega) hq hk
  · have vp := hw.out (p := p) (by omega)
    by_cases c2 : i ≤ q ∧ q < j
    · obtain ⟨u, u1, u2, ue⟩ := hw.into c2.1 c2.2
      rw [ue, vp] at hk ⊢
      exact h p u hp (by omega) (by omega) hk
    · have vq := hw.out (p := q) (by omega)
      rw [vp, vq] at hk ⊢
      exact h p q hp hpq hq hk

/-! ### Insertion -/
/-- The inner loop's state: all but place j are in order up to i, and what stands at j comes before all behind it. -/
def InsB (key : Nat → Int) (d : Nat → Nat) (a j i : Nat) : Prop :=
  (∀ p q, a ≤ p → p < q → q ≤ i → p ≠ j → q ≠ j → RR key (d p) (d q)) ∧ ∀ q, j < q → q ≤ i → RR key (d j) (d q)
theorem insB_start {d : Nat → Nat} {a i : Nat} (h : SR key d a i) : InsB key d a i i :=
  ⟨fun p q h1 h2 h3 h4 h5 => h p q h1 h2 (by omega), fun q h1 h2 => by omega⟩
theorem insB_step {d : Nat → Nat} {a j i : Nat} (h : InsB key d a (j + 1) i) (ha : a ≤ j) (hk : key (d j) < key (d (j + 1))) : InsB key (swp d (j + 1) j) a j i := by
  obtain ⟨h1, h2⟩ := h
  constructor
  · intro p q p1 p2 p3 p4 p5
    unfold swp
    rw [if_neg p4, if_neg p5]
    by_cases e1 : p = j + 1
    · rw [if_pos e1, if_neg (by omega)]
      exact h1 j q ha (by omega) p3 (by omega) (by omega)
    · rw [if_neg e1]
      by_cases e2 : q = j + 1
      · rw [if_pos e2]
        exact h1 p j p1 (by omega) (by omega) e1 (by omega)
      · rw [if_neg e2]
        exact h1 p q p1 p2 p3 e1 e2
  · intro q q1 q2
    unfold swp
    rw [if_pos rfl, if_neg (by omega)]
    by_cases e2 : q = j + 1
    · rw [if_pos e2]
      exact .inl hk
    · rw [if_neg e2]
      exact h2 q (by omega) q2
theorem insB_end {d : Nat → Nat} {a b j i : Nat} (h : InsB key d a j i) (hss : SS key d a b) (hib : i < b) (hji : j ≤ i) (hj : j ≤ a ∨ (0 < j ∧ ¬ key (d (j - 1)) < key (d j))) : SR key d a (i + 1) := by
  obtain ⟨h1, h2⟩ := h
  intro p q p1 p2 p3
  by_cases e1 : p = j
  · rw [e1]; exact h2 q (by omega) (by omega)
  · by_cases e2 : q = j
    · rw [e2]
      rcases hj with hj | ⟨hj0, hj⟩
      · omega
      · have last : RR key (d (j - 1)) (d j) := by
          by_cases ek : key (d (j - 1)) = key (d j)
          · exact .inr ⟨ek, hss (j - 1) j (by omega) (by omega) (by omega) ek⟩
          · exact .inl (by omega)
        by_cases e3 : p = j - 1
        · rw [e3]; exact last
        · exact (h1 p (j - 1) p1 (by omega) (by omega) e1 (by omega)).trans last
    · exact h1 p q p1 p2 (by omega) e1 e2
theorem ss_swp {d : Nat → Nat} {a b j : Nat} (h : SS key d a b) (ha : a ≤ j) (hb : j + 1 < b) (hk : key (d j) < key (d (j + 1))) : SS key (swp d (j + 1) j) a b := by
  intro p q p1 p2 p3
  unfold swp
  intro hh
  by_cases e1 : p = j
  · rw [if_pos e1] at hh ⊢
    rw [if_neg (by omega)] at hh ⊢
    by_cases e2 : q = j + 1
    · rw [if_pos e2] at hh; omega
    · rw [if_neg e2] at hh ⊢
      exact h (j + 1) q (by omega) (by omega) p3 hh
  · rw [if_neg e1] at hh ⊢
    by_cases e2 : p = j + 1
    · rw [if_pos e2, if_neg (by omega), if_neg (by omega)] at hh ⊢
      exact h j q ha (by omega) p3 hh
    · rw [if_neg e2] at hh ⊢
      by_cases e3 : q = j
      · rw [if_pos e3] at hh ⊢
        exact h p (j + 1) p1 (by omega) hb hh
      · rw [if_neg e3] at hh ⊢
        by_cases e4 : q = j + 1
        · rw [if_pos e4] at hh ⊢
          exact h p j p1 (by omega) (by omega) hh
        · rw [if_neg e4] at hh ⊢
          exact h p q p1 p2 p3 hh
end

end Go.Proofs.Ytcibffmhlamcdaa
