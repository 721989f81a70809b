/-
  The conversion of a Store: a new row of the same numbers; eqStore of two equal ones; szStore. Conditions: the rows can be read, at most 1048576 elements.
-/
import Derived.Test.YtlpaicpjadkceaaFactIn
namespace Go.Proofs.Ytlpaicpjadkceaa
open Go.RowKit
set_option linter.unusedVariables false
set_option maxRecDepth 4000

/-- What the conversion leaves: a new row. -/
def StoreEnd (n : Nat) (F : Nat → Nat → Int) (w : World) (e : Ending) (w' : World) : Prop :=
  ∃ g, e = .returned (.agg #[.slice (some ⟨g, 0, none⟩) n n]) ∧ w.heap.size ≤ g ∧ OwnR 5 102 w' g n F ∧ Below w.heap.size w w'



end Go.Proofs.Ytlpaicpjadkceaa
