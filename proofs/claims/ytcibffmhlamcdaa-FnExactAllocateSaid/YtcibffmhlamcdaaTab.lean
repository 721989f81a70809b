/-
  Tables: rows of elements of k integers each: read by anyone, or the call's own block. Conditions: none.
-/
import Derived.Test.YtcibffmhlamcdaaCur
import Derived.OwnWalk
namespace Go.Proofs.Ytcibffmhlamcdaa
open Go.RowKit
set_option linter.unusedVariables false

def I64 (x : Int) : Prop := -9223372036854775808 ≤ x ∧ x ≤ 9223372036854775807
/-- n elements of k integers each lie at A, in blocks below L; F i j is element i's field j. -/
def Tab (k : Nat) (w : World) (L : Nat) (A : Option Addr) (n : Nat) (F : Nat → Nat → Int) : Prop :=
  ∀ i, i < n → ∃ b off, A = some ⟨b, off, none⟩ ∧ b < L ∧ ∀ j, j < k → w.cell? ⟨b, off + (i * k + j), none⟩ = some (.int .i64 (F i j)) ∧ I64 (F i j)

section
variable {k : Nat} {w w' : World} {L L' : Nat} {A : Option Addr} {n : Nat} {F : Nat → Nat → Int}
theorem Tab.keep (h : Tab k w L A n F) (hb : Below L w w') : Tab k w' L A n F := by
  intro i hi
  obtain ⟨b, off, rfl, hL, hc⟩ := h i hi
  exact ⟨b, off, rfl, hL, fun j hj => And.intro ((hb.cell (p := Addr.mk b (off + (i * k + j)) none) hL).trans (hc j hj).1) (hc j hj).2⟩
theorem Tab.more (h : Tab k w L A n F) (hL : L ≤ L') : Tab k w L' A n F := by
  intro i hi
  obtain ⟨b, off, e, h1, hc⟩ := h i hi
  exact ⟨b, off, e, by omega, hc⟩
theorem Tab.less (h : Tab k w L A n F) {m : Nat} (hm : m ≤ n) : Tab k w L A m F := fun i hi => h i (by omega)
end

/-- Block g is N cells of element type t, cell i holds f i. -/
def OwnC (t : TypeId) (w : World) (g N : Nat) (f : Nat → Value) : Prop := ∃ cs : Array Value, Blk w g t cs ∧ cs.size = N ∧ ∀ i, i < N → cs[i]? = some (f i)

section
variable {t : TypeId} {w w' : World} {g N : Nat} {f : Nat → Value}
theorem OwnC.lt (h : OwnC t w g N f) : g < w.heap.size := by obtain ⟨cs, h1, _⟩ := h; exact h1.lt
theorem OwnC.cell (h : OwnC t w g N f) (i : Nat) (hi : i < N) : w.cell? ⟨g, i, none⟩ = some (f i) := by
  obtain ⟨cs, h1, h2, h3⟩ := h
  exact (h1.cell i).trans (h3 i hi)
theorem OwnC.frozen (h : OwnC t w g N f) (i : Nat) : w.frozen? ⟨g, i, none⟩ = false := by
  obtain ⟨cs, h1, _⟩ := h
  exact h1.frozen i
theorem OwnC.set (h : OwnC t w g N f) (i : Nat) (u : Value) : OwnC t (w.setCell ⟨g, i, none⟩ u) g N (fun x => if x = i then u else f x) := by
  obtain ⟨cs, h1, h2, h3⟩ := h
  refine ⟨_, h1.set_ i u, by simpa using h2, fun x hx => ?_⟩
  rw [Array.getElem?_setIfInBounds]
  show _ = some (if x = i then u else f x)
  by_cases e : i = x
  · subst e; simp [h2, hx]
  · have e2 : ¬ x = i := fun e' => e e'.symm
    rw [if_neg e, if_neg e2]; exact h3 x hx
theorem OwnC.alloc (h : OwnC t w g N f) (o : Obj) : OwnC t (w.alloc o) g N f := by
  obtain ⟨cs, h1, h2⟩ := h
  exact ⟨cs, h1.alloc o, h2⟩
theorem OwnC.drewN (h : OwnC t w g N f) (n : Nat) : OwnC t (w.drewN n) g N f := h
theorem OwnC.below {B : Nat} (h : OwnC t w g N f) (hb : Below B w w') (hg : g < B) : OwnC t w' g N f := by
  obtain ⟨cs, h1, h2⟩ := h
  exact ⟨cs, h1.below hb hg, h2⟩
theorem OwnC.later (h : OwnC t w g N f) (hb : Below w.heap.size w w') : OwnC t w' g N f := h.below hb h.lt
theorem OwnC.grown {row : Option Nat} (h : OwnC t w g N f) (hb : w.grownBy w' row) (hg : some g ≠ row) : OwnC t w' g N f := by
  obtain ⟨cs, h1, h2⟩ := h
  exact ⟨cs, h1.grown hb hg, h2⟩
theorem OwnC.far (h : OwnC t w g N f) {p : Addr} (hp : g ≠ p.block) (u : Value) : OwnC t (w.setCell p u) g N f := by
  obtain ⟨cs, h1, h2⟩ := h
  exact ⟨cs, h1.far hp u, h2⟩
theorem OwnC.congr (h : OwnC t w g N f) {f' : Nat → Value} (hf : ∀ i, i < N → f i = f' i) : OwnC t w g N f' := by
  obtain ⟨cs, h1, h2, h3⟩ := h
  exact ⟨cs, h1, h2, fun i hi => by rw [h3 i hi, hf i hi]⟩
theorem ownC_of_owns {base size n m cap : Nat} {xs : List Value} (h : w.ownsRow base t size (.slice (some ⟨g, 0, none⟩) m cap) n xs) :
    ∃ f, OwnC t w g (cap * size) f ∧ ∀ j, j < n * size → xs[j]? = some (f j) := by
  rcases h.2 with ⟨h', _⟩ | ⟨g', cap', cur, h', hb, hh, hc, hm, hs, ht⟩
  · cases h'
  · simp only [Value.slice.injEq, Option.some.injEq, Addr.mk.injEq, and_true] at h'
    obtain ⟨rfl, rfl, rfl⟩ := h'
    refine ⟨fun i => (cur[i]?).getD (.bool false), ⟨cur, hh, hs, fun i hi => ?_⟩, fun j hj => ?_⟩
    · rw [← hs] at hi; simp [hi]
    · have e := World.ownsRow.cellAt (g := g) (cap := cap) h j hj
      rw [← e, cell_of_row w g j cur t (0, 0) hh]
      have : j < cur.size := by rw [hs]; exact Nat.lt_of_lt_of_le hj (Nat.mul_le_mul_right _ hc)
      simp [this]
end

/-- Block g is just n elements of k integers each: element i's field j is F i j. -/
def OwnR (k : Nat) (t : TypeId) (w : World) (g n : Nat) (F : Nat → Nat → Int) : Prop := ∃ f, OwnC t w g (n * k) f ∧ ∀ i, i < n → ∀ j, j < k → f (i * k + j) = .int .i64 (F i j) ∧ I64 (F i j)

section
variable {k : Nat} {t : TypeId} {w w' : World} {g n : Nat} {F : Nat → Nat → Int}
theorem OwnR.lt (h : OwnR k t w g n F) : g < w.heap.size := by obtain ⟨f, h1, _⟩ := h; exact h1.lt
theorem at_lt {i j n k : Nat} (hi : i < n) (hj : j < k) : i * k + j < n * k := by
  have := Nat.mul_le_mul_right k hi
  rw [Nat.succ_mul] at this
  omega
theorem OwnR.rows (h : OwnR k t w g n F) : Tab k w w.heap.size (some ⟨g, 0, none⟩) n F := by
  obtain ⟨f, h1, h2⟩ := h
  intro i hi
  refine ⟨g, 0, rfl, h1.lt, fun j hj => ?_⟩
  obtain ⟨e1, e2⟩ := h2 i hi j hj
  exact ⟨by rw [Nat.zero_add, h1.cell _ (at_lt hi hj), e1], e2⟩
theorem OwnR.later (h : OwnR k t w g n F) (hb : Below w.heap.size w w') : OwnR k t w' g n F := by
  obtain ⟨f, h1, h2⟩ := h
  exact ⟨f, h1.later hb, h2⟩
theorem OwnR.grown {row : Option Nat} (h : OwnR k t w g n F) (hb : w.grownBy w' row) (hg : some g ≠ row) : OwnR k t w' g n F := by
  obtain ⟨f, h1, h2⟩ := h
  exact ⟨f, h1.grown hb hg, h2⟩
end

theorem Tab.at2 {w : World} {L : Nat} {A : Option Addr} {n : Nat} {F : Nat → Nat → Int} (h : Tab 2 w L A n F) {i : Nat} (hi : i < n) :
    ∃ b off, A = some ⟨b, off, none⟩ ∧ b < L ∧ (w.cell? ⟨b, off + i * 2, none⟩ = some (.int .i64 (F i 0)) ∧ w.cell? ⟨b, off + i * 2 + 1, none⟩ = some (.int .i64 (F i 1))) ∧ (I64 (F i 0) ∧ I64 (F i 1)) := by
  obtain ⟨b, off, e, hb, hc⟩ := h i hi
  exact ⟨b, off, e, hb, ⟨by have := (hc 0 (by omega)).1; simpa using this, by have := (hc 1 (by omega)).1; rw [← Nat.add_assoc] at this; exact this⟩, ⟨(hc 0 (by omega)).2, (hc 1 (by omega)).2⟩⟩
theorem Tab.at3 {w : World} {L : Nat} {A : Option Addr} {n : Nat} {F : Nat → Nat → Int} (h : Tab 3 w L A n F) {i : Nat} (hi : i < n) :
    ∃ b off, A = some ⟨b, off, none⟩ ∧ b < L ∧ (w.cell? ⟨b, off + i * 3, none⟩ = some (.int .i64 (F i 0)) ∧ w.cell? ⟨b, off + i * 3 + 1, none⟩ = some (.int .i64 (F i 1)) ∧ w.cell? ⟨b, off + i * 3 + 2, none⟩ = some (.int .i64 (F i 2))) ∧ (I64 (F i 0) ∧ I64 (F i 1) ∧ I64 (F i 2)) := by
  obtain ⟨b, off, e, hb, hc⟩ := h i hi
  exact ⟨b, off, e, hb, ⟨by have := (hc 0 (by omega)).1; simpa using this, by have := (hc 1 (by omega)).1; rw [← Nat.add_assoc] at this; exact this, by have := (hc 2 (by omega)).1; rw [← Nat.add_assoc] at this; exact this⟩, ⟨(hc 0 (by omega)).2, (hc 1 (by omega)).2, (hc 2 (by omega)).2⟩⟩
theorem Tab.at5 {w : World} {L : Nat} {A : Option Addr} {n : Nat} {F : Nat → Nat → Int} (h : Tab 5 w L A n F) {i : Nat} (hi : i < n) :
    ∃ b off, A = some ⟨b, off, none⟩ ∧ b < L ∧ (w.cell? ⟨b, off + i * 5, none⟩ = some (.int .i64 (F i 0)) ∧ w.cell? ⟨b, off + i * 5 + 1, none⟩ = some (.int .i64 (F i 1)) ∧ w.cell? ⟨b, off + i * 5 + 2, none⟩ = some (.int .i64 (F i 2)) ∧ w.cell? ⟨b, off + i * 5 + 3, none⟩ = some (.int .i64 (F i 3)) ∧ w.cell? ⟨b, off + i * 5 + 4, none⟩ = some (.int .i64 (F i 4))) ∧ (I64 (F i 0) ∧ I64 (F i 1) ∧ I64 (F i 2) ∧ I64 (F i 3) ∧ I64 (F i 4)) := by
  obtain ⟨b, off, e, hb, hc⟩ := h i hi
  exact ⟨b, off, e, hb, ⟨by have := (hc 0 (by omega)).1; simpa using this, by have := (hc 1 (by omega)).1; rw [← Nat.add_assoc] at this; exact this, by have := (hc 2 (by omega)).1; rw [← Nat.add_assoc] at this; exact this, by have := (hc 3 (by omega)).1; rw [← Nat.add_assoc] at this; exact this, by have := (hc 4 (by omega)).1; rw [← Nat.add_assoc] at this; exact this⟩, ⟨(hc 0 (by omega)).2, (hc 1 (by omega)).2, (hc 2 (by omega)).2, (hc 3 (by omega)).2, (hc 4 (by omega)).2⟩⟩

theorem OwnC.put2 {t : TypeId} {w : World} {g N m : Nat} {f : Nat → Value} {F : Nat → Nat → Int} {x0 x1 : Int} (h : OwnC t w g N f) (hk : ∀ i, i < m → ∀ j, j < 2 → f (i * 2 + j) = .int .i64 (F i j) ∧ I64 (F i j)) (e0 : F m 0 = x0 ∧ I64 x0) (e1 : F m 1 = x1 ∧ I64 x1) :
    ∃ f', OwnC t ((w.setCell ⟨g, m * 2, none⟩ (.int .i64 x0)).setCell ⟨g, m * 2 + 1, none⟩ (.int .i64 x1)) g N f' ∧ ∀ i, i < m + 1 → ∀ j, j < 2 → f' (i * 2 + j) = .int .i64 (F i j) ∧ I64 (F i j) := by
  refine ⟨_, ((h.set (m * 2) (.int .i64 x0)).set (m * 2 + 1) (.int .i64 x1)), fun i hi j hj => ?_⟩
  rcases Nat.lt_or_ge i m with hm | hm
  · have := hk i hm j hj
    simp only [show ¬ (i * 2 + j = m * 2 + 1) by omega, show ¬ (i * 2 + j = m * 2) by omega, if_false]
    exact this
  · obtain rfl : i = m := by omega
    rcases (show j = 0 ∨ j = 1 by omega) with rfl | rfl
    · rw [e0.1]; exact ⟨by simp, e0.2⟩
    · rw [e1.1]; exact ⟨by simp, e1.2⟩
theorem OwnC.put3 {t : TypeId} {w : World} {g N m : Nat} {f : Nat → Value} {F : Nat → Nat → Int} {x0 x1 x2 : Int} (h : OwnC t w g N f) (hk : ∀ i, i < m → ∀ j, j < 3 → f (i * 3 + j) = .int .i64 (F i j) ∧ I64 (F i j)) (e0 : F m 0 = x0 ∧ I64 x0) (e1 : F m 1 = x1 ∧ I64 x1) (e2 : F m 2 = x2 ∧ I64 x2) :
    ∃ f', OwnC t (((w.setCell ⟨g, m * 3, none⟩ (.int .i64 x0)).setCell ⟨g, m * 3 + 1, none⟩ (.int .i64 x1)).setCell ⟨g, m * 3 + 2, none⟩ (.int .i64 x2)) g N f' ∧ ∀ i, i < m + 1 → ∀ j, j < 3 → f' (i * 3 + j) = .int .i64 (F i j) ∧ I64 (F i j) := by
  refine ⟨_, (((h.set (m * 3) (.int .i64 x0)).set (m * 3 + 1) (.int .i64 x1)).set (m * 3 + 2) (.int .i64 x2)), fun i hi j hj => ?_⟩
  rcases Nat.lt_or_ge i m with hm | hm
  · have := hk i hm j hj
    simp only [show ¬ (i * 3 + j = m * 3 + 1) by omega, show ¬ (i * 3 + j = m * 3 + 2) by omega, show ¬ (i * 3 + j = m * 3) by omega, if_false]
    exact this
  · obtain rfl : i = m := by omega
    rcases (show j = 0 ∨ j = 1 ∨ j = 2 by omega) with rfl | rfl | rfl
    · rw [e0.1]; exact ⟨by simp, e0.2⟩
    · rw [e1.1]; exact ⟨by simp, e1.2⟩
    · rw [e2.1]; exact ⟨by simp, e2.2⟩
theorem OwnC.put5 {t : TypeId} {w : World} {g N m : Nat} {f : Nat → Value} {F : Nat → Nat → Int} {x0 x1 x2 x3 x4 : Int} (h : OwnC t w g N f) (hk : ∀ i, i < m → ∀ j, j < 5 → f (i * 5 + j) = .int .i64 (F i j) ∧ I64 (F i j)) (e0 : F m 0 = x0 ∧ I64 x0) (e1 : F m 1 = x1 ∧ I64 x1) (e2 : F m 2 = x2 ∧ I64 x2) (e3 : F m 3 = x3 ∧ I64 x3) (e4 : F m 4 = x4 ∧ I64 x4) :
    ∃ f', OwnC t (((((w.setCell ⟨g, m * 5, none⟩ (.int .i64 x0)).setCell ⟨g, m * 5 + 1, none⟩ (.int .i64 x1)).setCell ⟨g, m * 5 + 2, none⟩ (.int .i64 x2)).setCell ⟨g, m * 5 + 3, none⟩ (.int .i64 x3)).setCell ⟨g, m * 5 + 4, none⟩ (.int .i64 x4)) g N f' ∧ ∀ i, i < m + 1 → ∀ j, j < 5 → f' (i * 5 + j) = .int .i64 (F i j) ∧ I64 (F i j) := by
  refine ⟨_, (((((h.set (m * 5) (.int .i64 x0)).set (m * 5 + 1) (.int .i64 x1)).set (m * 5 + 2) (.int .i64 x2)).set (m * 5 + 3) (.int .i64 x3)).set (m * 5 + 4) (.int .i64 x4)), fun i hi j hj => ?_⟩
  rcases Nat.lt_or_ge i m with hm | hm
  · have := hk i hm j hj
    simp only [show ¬ (i * 5 + j = m * 5 + 1) by omega, show ¬ (i * 5 + j = m * 5 + 2) by omega, show ¬ (i * 5 + j = m * 5 + 3) by omega, show ¬ (i * 5 + j = m * 5 + 4) by omega, show ¬ (i * 5 + j = m * 5) by omega, if_false]
    exact this
  · obtain rfl : i = m := by omega
    rcases (show j = 0 ∨ j = 1 ∨ j = 2 ∨ j = 3 ∨ j = 4 by omega) with rfl | rfl | rfl | rfl | rfl
    · rw [e0.1]; exact ⟨by simp, e0.2⟩
    · rw [e1.1]; exact ⟨by simp, e1.2⟩
    · rw [e2.1]; exact ⟨by simp, e2.2⟩
    · rw [e3.1]; exact ⟨by simp, e3.2⟩
    · rw [e4.1]; exact ⟨by simp, e4.2⟩
theorem below_put {w w' : World} {g : Nat} (h : Below w.heap.size w w') (hg : w.heap.size ≤ g) (i : Nat) (u : Value) : Below w.heap.size w (w'.setCell ⟨g, i, none⟩ u) := h.setCell hg u

end Go.Proofs.Ytcibffmhlamcdaa
