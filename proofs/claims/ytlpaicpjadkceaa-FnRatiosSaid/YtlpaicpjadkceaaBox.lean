/-
  A block of two cells, kept over new blocks. Conditions: none.
-/
import Derived.Test.YtlpaicpjadkceaaKit
namespace Go.Proofs.Ytlpaicpjadkceaa
open Go.RowKit
set_option linter.unusedVariables false

def Box2 (w : World) (b : Nat) (x y : Value) : Prop :=
  w.cell? ⟨b, 0, none⟩ = some x ∧ w.cell? ⟨b, 1, none⟩ = some y ∧ w.frozen? ⟨b, 0, none⟩ = false ∧ w.frozen? ⟨b, 1, none⟩ = false
theorem Box2.later {W w1 : World} {b : Nat} {x y : Value} (hb : Below W.heap.size W w1) (h : Box2 W b x y) : Box2 w1 b x y := by
  obtain ⟨h1, h2, h3, h4⟩ := h
  have l1 := World.block_lt_of_cell? _ _ h1
  exact ⟨(hb.cell l1).trans h1, (hb.cell (p := ⟨b, 1, none⟩) l1).trans h2, (hb.frozen l1).trans h3, (hb.frozen (p := ⟨b, 1, none⟩) l1).trans h4⟩
theorem keep_cell {W w1 : World} (hb : Below W.heap.size W w1) {p : Addr} {v : Value} (h : W.cell? p = some v) : w1.cell? p = some v := cell_later hb h
theorem keep_frozen {W w1 : World} (hb : Below W.heap.size W w1) {p : Addr} (hlt : p.block < W.heap.size) (h : W.frozen? p = false) : w1.frozen? p = false := (hb.frozen hlt).trans h

end Go.Proofs.Ytlpaicpjadkceaa
