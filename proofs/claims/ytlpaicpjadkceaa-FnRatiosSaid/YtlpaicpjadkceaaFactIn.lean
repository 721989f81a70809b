/-
  The conversion of a slice of Facts: a new row of the same numbers; eqFactS of two equal rows; szFactS. Conditions: the rows can be read, at most 1048576 elements.
-/
import Derived.Test.YtlpaicpjadkceaaTab
import Derived.Test.YtlpaicpjadkceaaFact
namespace Go.Proofs.Ytlpaicpjadkceaa
open Go.RowKit
set_option linter.unusedVariables false
set_option maxRecDepth 4000

theorem info_Fact : (Try.prog.info? 102).map (fun i => (i.zero, i.size, i.bytes)) = some (some (.agg #[.int .i64 0, .int .i64 0, .int .i64 0, .int .i64 0, .int .i64 0]), 5, 40) := by kernel_rfl

/-- What the conversion leaves: a new row. -/
def FactS (n : Nat) (F : Nat → Nat → Int) (w : World) (e : Ending) (w' : World) : Prop :=
  e = .returned (.slice (some ⟨w.heap.size, 0, none⟩) n n) ∧ OwnR 5 102 w' w.heap.size n F ∧ Below w.heap.size w w'


end Go.Proofs.Ytlpaicpjadkceaa
