/-
  The plain law of the merge: rotations, moves of one element, and what they do to the order. No program in sight.
-/
import Derived.Test.YtcibffmhlamcdaaSortPlain
namespace Go.Proofs.Ytcibffmhlamcdaa
set_option linter.unusedVariables false

/-- n places from a on and from b on change places. -/
def swR (d : Nat → Nat) (a b n : Nat) : Nat → Nat := fun p => if a ≤ p ∧ p < a + n then d (p - a + b) else if b ≤ p ∧ p < b + n then d (p - b + a) else d p
/-- [m, e) comes ahead of [s, m). -/
def rotD (d : Nat → Nat) (s m e : Nat) : Nat → Nat := fun p => if s ≤ p ∧ p < s + (e - m) then d (p - s + m) else if s + (e - m) ≤ p ∧ p < e then d (p - (e - m)) else d p
/-- The element at a moved to k. -/
def rotL (d : Nat → Nat) (a k : Nat) : Nat → Nat := fun p => if a ≤ p ∧ p < k then d (p + 1) else if p = k then d a else d p
/-- The element at m moved back to k. -/
def rotR (d : Nat → Nat) (m k : Nat) : Nat → Nat := fun p => if k < p ∧ p ≤ m then d (p - 1) else if p = k then d m else d p

theorem swR_zero (d : Nat → Nat) (a b : Nat) : swR d a b 0 = d := by
  funext p
  simp only [swR]
  rw [if_neg (by omega), if_neg (by omega)]
theorem swR_step (d : Nat → Nat) {a b n : Nat} (h : a + n < b) : swp (swR d a b n) (a + n) (b + n) = swR d a b (n + 1) := by
  funext p
  simp only [swp, swR]
  repeat' split
  all_goals first | rfl | omega | (subst_vars; rfl) | (exact absurd trivial (by assumption)) | (congr 1; omega)
theorem rotD_swap (d : Nat → Nat) {m i : Nat} (h : i ≤ m) : swR d (m - i) m i = rotD d (m - i) m (m + i) := by
  funext p
  simp only [rotD, swR]
  repeat' split
  all_goals first | rfl | omega | (subst_vars; rfl) | (exact absurd trivial (by assumption)) | (congr 1; omega)
theorem rotD_left (d : Nat → Nat) {m i j : Nat} (h : i ≤ m) (hj : j < i) : rotD (swR d (m - i) m j) (m - (i - j)) m (m + j) = rotD d (m - i) m (m + j) := by
  funext p
  simp only [rotD, swR]
  repeat' split
  all_goals first | rfl | omega | (subst_vars; rfl) | (exact absurd trivial (by assumption)) | (congr 1; omega)
theorem rotD_right (d : Nat → Nat) {m i j : Nat} (h : i ≤ m) (hj : i < j) : rotD (swR d (m - i) (m + j - i) i) (m - i) m (m + (j - i)) = rotD d (m - i) m (m + j) := by
  funext p
  simp only [rotD, swR]
  repeat' split
  all_goals first | rfl | omega | (subst_vars; rfl) | (exact absurd trivial (by assumption)) | (congr 1; omega)
theorem rotD_none (d : Nat → Nat) {s m e : Nat} (h : s = m ∨ e = m) : rotD d s m e = d := by
  funext p
  simp only [rotD]
  repeat' split
  all_goals first | rfl | omega | (subst_vars; rfl) | (exact absurd trivial (by assumption)) | (congr 1; omega)
theorem rotL_zero (d : Nat → Nat) (a : Nat) : rotL d a a = d := by
  funext p
  simp only [rotL]
  repeat' split
  all_goals first | rfl | omega | (subst_vars; rfl) | (exact absurd trivial (by assumption)) | (congr 1; omega)
theorem rotL_step (d : Nat → Nat) {a k : Nat} (h : a ≤ k) : swp (rotL d a k) k (k + 1) = rotL d a (k + 1) := by
  funext p
  simp only [swp, rotL]
  repeat' split
  all_goals first | rfl | omega | (subst_vars; rfl) | (exact absurd trivial (by assumption)) | (congr 1; omega)
theorem rotR_zero (d : Nat → Nat) (m : Nat) : rotR d m m = d := by
  funext p
  simp only [rotR]
  repeat' split
  all_goals first | rfl | omega | (subst_vars; rfl) | (exact absurd trivial (by assumption)) | (congr 1; omega)
theorem rotR_step (d : Nat → Nat) {m k : Nat} (h : k + 1 ≤ m) : swp (rotR d m (k + 1)) (k + 1) k = rotR d m k := by
  funext p
  simp only [swp, rotR]
  repeat' split
  all_goals first | rfl | omega | (subst_vars; rfl) | (exact absurd trivial (by assumption)) | (congr 1; omega)
theorem wp_rotL (d : Nat → Nat) {a k b : Nat} (h : a ≤ k) (hb : k < b) : WP a b d (rotL d a k) := by
  refine ⟨rotL id a k, fun p q => ?_, fun p h1 h2 => ?_, fun p h => ?_, fun p => ?_⟩
  · simp only [rotL, id]
    repeat' split
    all_goals omega
  · simp only [rotL, id]
    repeat' split
    all_goals omega
  · simp only [rotL, id]
    repeat' split
    all_goals omega
  · simp only [rotL, id]
    repeat' split
    all_goals rfl
theorem wp_rotR (d : Nat → Nat) {a k m b : Nat} (h : a ≤ k) (hk : k ≤ m) (hb : m < b) : WP a b d (rotR d m k) := by
  refine ⟨rotR id m k, fun p q => ?_, fun p h1 h2 => ?_, fun p h => ?_, fun p => ?_⟩
  · simp only [rotR, id]
    repeat' split
    all_goals omega
  · simp only [rotR, id]
    repeat' split
    all_goals omega
  · simp only [rotR, id]
    repeat' split
    all_goals omega
  · simp only [rotR, id]
    repeat' split
    all_goals rfl
theorem wp_rotD (d : Nat → Nat) {a s m e b : Nat} (h1 : a ≤ s) (h2 : s ≤ m) (h3 : m ≤ e) (h4 : e ≤ b) : WP a b d (rotD d s m e) := by
  refine ⟨rotD id s m e, fun p q => ?_, fun p h1 h2 => ?_, fun p h => ?_, fun p => ?_⟩
  · simp only [rotD, id]
    repeat' split
    all_goals omega
  · simp only [rotD, id]
    repeat' split
    all_goals omega
  · simp only [rotD, id]
    repeat' split
    all_goals omega
  · simp only [rotD, id]
    repeat' split
    all_goals rfl

section
variable {key : Nat → Int} {d : Nat → Nat}
/-- At equal keys the left window's numbers are the lesser. -/
def SX (key : Nat → Int) (d : Nat → Nat) (a m b : Nat) : Prop := ∀ p q, a ≤ p → p < m → m ≤ q → q < b → key (d p) = key (d q) → d p < d q
theorem sx_of {a m b : Nat} (h : SS key d a b) : SX key d a m b := fun p q h1 h2 h3 h4 e => h p q h1 (by omega) h4 e

/-- One element merged into the window behind it. -/
theorem merge_left {a b i : Nat} (hr : SR key d (a + 1) b) (hx : SX key d a (a + 1) b) (hi : a + 1 ≤ i) (hib : i ≤ b) (h1 : ∀ q, a + 1 ≤ q → q < i → key (d a) < key (d q)) (h2 : ∀ q, i ≤ q → q < b → ¬ key (d a) < key (d q)) :
    SR key (rotL d a (i - 1)) a b ∧ WP a b d (rotL d a (i - 1)) := by
  refine ⟨fun p q p1 p2 p3 => ?_, wp_rotL d (by omega) (by omega)⟩
  simp only [rotL]
  by_cases c1 : p < i - 1
  · rw [if_pos ⟨p1, c1⟩]
    by_cases c2 : q < i - 1
    · rw [if_pos ⟨by omega, c2⟩]
      exact hr _ _ (by omega) (by omega) (by omega)
    · rw [if_neg (by omega)]
      by_cases c3 : q = i - 1
      · rw [if_pos c3]
        exact .inl (h1 _ (by omega) (by omega))
      · rw [if_neg c3]
        exact hr _ _ (by omega) (by omega) p3
  · rw [if_neg (by omega)]
    rw [if_neg (show ¬ (a ≤ q ∧ q < i - 1) by omega), if_neg (show ¬ q = i - 1 by omega)]
    by_cases c3 : p = i - 1
    · rw [if_pos c3]
      have := h2 q (by omega) p3
      by_cases e : key (d a) = key (d q)
      · exact .inr ⟨e, hx a q (Nat.le_refl _) (by omega) (by omega) p3 e⟩
      · exact .inl (by omega)
    · rw [if_neg c3]
      exact hr _ _ (by omega) p2 p3
/-- One element merged into the window ahead of it. -/
theorem merge_right {a m i : Nat} (hr : SR key d a m) (hx : SX key d a m (m + 1)) (hi : a ≤ i) (him : i ≤ m) (h1 : ∀ q, a ≤ q → q < i → ¬ key (d q) < key (d m)) (h2 : ∀ q, i ≤ q → q < m → key (d q) < key (d m)) :
    SR key (rotR d m i) a (m + 1) ∧ WP a (m + 1) d (rotR d m i) := by
  refine ⟨fun p q p1 p2 p3 => ?_, wp_rotR d hi him (by omega)⟩
  simp only [rotR]
  by_cases c1 : i < p
  · rw [if_pos ⟨c1, by omega⟩, if_pos ⟨by omega, by omega⟩]
    exact hr _ _ (by omega) (by omega) (by omega)
  · rw [if_neg (by omega)]
    by_cases c2 : p = i
    · rw [if_pos c2, if_pos ⟨by omega, by omega⟩]
      exact .inl (h2 _ (by omega) (by omega))
    · rw [if_neg c2]
      by_cases c3 : q = i
      · rw [if_neg (show ¬ (i < q ∧ q ≤ m) by omega), if_pos c3]
        have := h1 p p1 (by omega)
        by_cases e : key (d p) = key (d m)
        · exact .inr ⟨e, hx p m p1 (by omega) (Nat.le_refl _) (by omega) e⟩
        · exact .inl (by omega)
      · by_cases c4 : i < q
        · rw [if_pos ⟨c4, by omega⟩]
          exact hr _ _ p1 (by omega) (by omega)
        · rw [if_neg (by omega), if_neg c3]
          exact hr _ _ p1 p2 (by omega)

/-- What the rotation leaves: two pairs of windows to be merged, all of the first before all of the second. -/
structure Cut (key : Nat → Int) (d : Nat → Nat) (a s mid e b : Nat) : Prop where
  l1 : SR key d a s
  l2 : SR key d s mid
  lx : SX key d a s mid
  r1 : SR key d mid e
  r2 : SR key d e b
  rx : SX key d mid e b
  cr : ∀ p q, a ≤ p → p < mid → mid ≤ q → q < b → RR key (d p) (d q)
theorem cut_of {a m b s mid e lo hi : Nat} (hl : SR key d a m) (hr : SR key d m b) (hx : SX key d a m b) (ham : a ≤ m) (hmb : m ≤ b) (hmid : 2 * mid ≤ a + b) (hmid2 : a + b < 2 * mid + 2)
    (hlohi : (mid < m ∧ lo = mid + m - b ∧ hi = mid) ∨ (m ≤ mid ∧ lo = a ∧ hi = m)) (hs1 : lo ≤ s) (hs2 : s ≤ hi) (he : e + s = mid + m)
    (hq1 : ∀ c, lo ≤ c → c < s → ¬ key (d c) < key (d (mid + m - 1 - c))) (hq2 : ∀ c, s ≤ c → c < hi → key (d c) < key (d (mid + m - 1 - c))) :
    a ≤ s ∧ s ≤ m ∧ m ≤ e ∧ e ≤ b ∧ s ≤ mid ∧ mid ≤ e ∧ Cut key (rotD d s m e) a s mid e b := by
  have g1 : a ≤ s := by omega
  have g2 : s ≤ m := by omega
  have g3 : m ≤ e := by omega
  have g4 : e ≤ b := by omega
  have g5 : s ≤ mid := by omega
  have g6 : mid ≤ e := by omega
  have em : s + (e - m) = mid := by omega
  -- the left's head comes before the right's tail
  have xz : ∀ x z, a ≤ x → x < s → e ≤ z → z < b → RR key (d x) (d z) := by
    intro x z x1 x2 z1 z2
    have hlo : lo < s := by omega
    have h1 := hq1 (s - 1) (by omega) (by omega)
    rw [show mid + m - 1 - (s - 1) = e by omega] at h1
    have h2 : RR key (d (s - 1)) (d e) := by
      by_cases ek : key (d (s - 1)) = key (d e)
      · exact .inr ⟨ek, hx (s - 1) e (by omega) (by omega) g3 (by omega) ek⟩
      · exact .inl (by omega)
    have h3 : RR key (d x) (d e) := by
      by_cases c : x = s - 1
      · rw [c]; exact h2
      · exact (hl x (s - 1) x1 (by omega) (by omega)).trans h2
    by_cases c : z = e
    · rw [c]; exact h3
    · exact h3.trans (hr e z g3 (by omega) z2)
  have yz : ∀ y z, m ≤ y → y < e → s ≤ z → z < m → RR key (d y) (d z) := by
    intro y z y1 y2 z1 z2
    have hhi : s < hi := by omega
    have h1 := hq2 s (Nat.le_refl _) hhi
    rw [show mid + m - 1 - s = e - 1 by omega] at h1
    have h2 : RR key (d (e - 1)) (d s) := .inl h1
    have h3 : RR key (d y) (d s) := by
      by_cases c : y = e - 1
      · rw [c]; exact h2
      · exact (hr y (e - 1) y1 (by omega) (by omega)).trans h2
    by_cases c : z = s
    · rw [c]; exact h3
    · exact h3.trans (hl s z g1 (by omega) z2)
  have A : ∀ p, p < s → rotD d s m e p = d p := fun p hp => by
    simp only [rotD]; rw [if_neg (by omega), if_neg (by omega)]
  have B : ∀ p, s ≤ p → p < mid → rotD d s m e p = d (p - s + m) := fun p h1 h2 => by
    simp only [rotD]; rw [if_pos ⟨h1, by omega⟩]
  have C : ∀ p, mid ≤ p → p < e → rotD d s m e p = d (p - (e - m)) := fun p h1 h2 => by
    simp only [rotD]; rw [if_neg (by omega), if_pos ⟨by omega, h2⟩]
  have D : ∀ p, e ≤ p → rotD d s m e p = d p := fun p hp => by
    simp only [rotD]; rw [if_neg (by omega), if_neg (by omega)]
  refine ⟨g1, g2, g3, g4, g5, g6, ⟨?_, ?_, ?_, ?_, ?_, ?_, ?_⟩⟩
  · intro p q p1 p2 p3
    rw [A p (by omega), A q p3]
    exact hl p q p1 p2 (by omega)
  · intro p q p1 p2 p3
    rw [B p p1 (by omega), B q (by omega) p3]
    exact hr _ _ (by omega) (by omega) (by omega)
  · intro p q p1 p2 p3 p4
    rw [A p p2, B q p3 p4]
    exact hx p _ p1 (by omega) (by omega) (by omega)
  · intro p q p1 p2 p3
    rw [C p p1 (by omega), C q (by omega) p3]
    exact hl _ _ (by omega) (by omega) (by omega)
  · intro p q p1 p2 p3
    rw [D p p1, D q (by omega)]
    exact hr _ _ (by omega) p2 p3
  · intro p q p1 p2 p3 p4
    rw [C p p1 p2, D q p3]
    exact hx _ q (by omega) (by omega) (by omega) p4
  · intro p q p1 p2 p3 p4
    by_cases c1 : p < s
    · rw [A p c1]
      by_cases c2 : q < e
      · rw [C q p3 c2]
        exact hl _ _ p1 (by omega) (by omega)
      · rw [D q (by omega)]
        exact xz p q p1 c1 (by omega) p4
    · rw [B p (by omega) p2]
      by_cases c2 : q < e
      · rw [C q p3 c2]
        exact yz _ _ (by omega) (by omega) (by omega) (by omega)
      · rw [D q (by omega)]
        exact hr _ _ (by omega) (by omega) p4
/-- Two merged halves, the first all before the second. -/
theorem sr_join {d1 d2 d3 : Nat → Nat} {a mid b : Nat} (hc : ∀ p q, a ≤ p → p < mid → mid ≤ q → q < b → RR key (d1 p) (d1 q)) (h2 : SR key d2 a mid) (w2 : WP a mid d1 d2) (h3 : SR key d3 mid b) (w3 : WP mid b d2 d3) : SR key d3 a b := by
  intro p q p1 p2 p3
  by_cases c1 : p < mid
  · rw [w3.out (p := p) (.inl c1)]
    by_cases c2 : q < mid
    · rw [w3.out (p := q) (.inl c2)]
      exact h2 p q p1 p2 c2
    · obtain ⟨u, u1, u2, eu⟩ := w2.into p1 c1
      obtain ⟨v, v1, v2, ev⟩ := w3.into (p := q) (by omega) p3
      rw [eu, ev, w2.out (p := v) (.inr v1)]
      exact hc u v u1 u2 v1 v2
  · exact h3 p q (by omega) p2 p3
theorem SR.keep {d' : Nat → Nat} {a b : Nat} (h : SR key d a b) (e : ∀ p, a ≤ p → p < b → d' p = d p) : SR key d' a b := fun p q h1 h2 h3 => by
  rw [e p h1 (by omega), e q (by omega) h3]; exact h p q h1 h2 h3
theorem SX.keep {d' : Nat → Nat} {a m b : Nat} (h : SX key d a m b) (e : ∀ p, a ≤ p → p < b → d' p = d p) (ham : a ≤ m) (hmb : m ≤ b) : SX key d' a m b := fun p q h1 h2 h3 h4 => by
  rw [e p h1 (by omega), e q (by omega) h4]; exact h p q h1 h2 h3 h4
end

end Go.Proofs.Ytcibffmhlamcdaa
