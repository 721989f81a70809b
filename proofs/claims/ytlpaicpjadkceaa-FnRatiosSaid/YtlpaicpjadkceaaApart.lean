/-
  A block of another element type is apart from an own slice of structs. Conditions: none.
-/
import Derived.Test.YtlpaicpjadkceaaOwnV
namespace Go.Proofs.Ytlpaicpjadkceaa
open Go.RowKit
set_option linter.unusedVariables false

section
variable {k : Nat} {t t' : TypeId} {w w' : World} {base : Nat} {v : Value} {n : Nat} {F : Nat → Nat → Int} {g : Nat} {cs : Array Value}
theorem OwnV.apart (h : OwnV k t w base v n F) (hb : Blk w g t' cs) (ht : t ≠ t') : v.ownBlock ≠ some g := by
  obtain ⟨A, cap, rfl, ⟨rfl, _⟩ | ⟨g', rfl, h1, h2, h3, f, ⟨cs', h4, _⟩, h5⟩⟩ := h
  · intro e; cases e
  · intro e
    have e : g' = g := by injection e
    subst e
    unfold Blk at h4 hb
    rw [h4] at hb
    injection hb with hb
    injection hb with h6 h7 h8
    exact ht h7
theorem Grew.blk (h : Grew w w' base v) (hb : Blk w g t' cs) (hne : v.ownBlock ≠ some g) : Blk w' g t' cs := by
  obtain ⟨row, h1, h2⟩ := h
  exact hb.grown h1 fun e => hne (h2 g e.symm).2
theorem OwnV.setOther (h : OwnV k t w base v n F) {p : Addr} (hne : v.ownBlock ≠ some p.block) (u : Value) : OwnV k t (w.setCell p u) base v n F := by
  obtain ⟨A, cap, rfl, h | ⟨g, rfl, h1, h2, h3, f, h4, h5⟩⟩ := h
  · exact ⟨A, cap, rfl, .inl h⟩
  · exact ⟨_, cap, rfl, .inr ⟨g, rfl, h1, h2, h3, f, h4.far (fun e => hne (by rw [← e]; rfl)) u, h5⟩⟩
theorem Grew.boxed (h : Grew w w' base v) {base' : Nat} (ho : OwnV k t w base' v n F) (hb : Blk w g t' cs) (ht : t ≠ t') : Blk w' g t' cs := h.blk hb (ho.apart hb ht)
theorem Blk.later (hb : Below w.heap.size w w') (h : Blk w g t cs) : Blk w' g t cs := h.below hb h.lt
theorem Blk.later' (h : Blk w g t cs) (hb : Below w.heap.size w w') : Blk w' g t cs := h.below hb h.lt
theorem Blk.cell0 {u : Value} (h : Blk w g t #[u]) : w.cell? ⟨g, 0, none⟩ = some u := h.cell 0
theorem Blk.set1 {u : Value} (h : Blk w g t #[u]) (x : Value) : Blk (w.setCell ⟨g, 0, none⟩ x) g t #[x] := by
  have := h.set_ 0 x
  simpa using this
end

theorem Blk.newAt {w : World} {g : Nat} {t : TypeId} {cs : Array Value} (hg : g = w.heap.size) : Blk (w.alloc (.cells cs t)) g t cs := by
  subst hg
  exact Blk.new _ _ _

end Go.Proofs.Ytlpaicpjadkceaa
