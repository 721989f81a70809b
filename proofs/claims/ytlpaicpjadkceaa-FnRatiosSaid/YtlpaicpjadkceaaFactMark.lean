/-
  Slices of Fact: mark writes rising numbers into a row of the call's own, held finds them; slices.Clone lays a new row. Conditions: the rows can be read, at most 1048577 elements.
-/
import Derived.Test.YtlpaicpjadkceaaFactIn
import Derived.Test.YtlpaicpjadkceaaOwnV
namespace Go.Proofs.Ytlpaicpjadkceaa
open Go.RowKit
set_option linter.unusedVariables false
set_option maxRecDepth 4000

def mkF5 (K : Int) (i j : Nat) : Int := K + 5 * (i : Int) + (j : Int)

/-- What mark leaves. -/
def MarkFact (K : Int) (base : Nat) (v : Value) (n : Nat) (w : World) (e : Ending) (w' : World) : Prop :=
  e = .returned (.int .i64 (K + 5 * (n : Int))) ∧ OwnV 5 102 w' base v n (mkF5 K) ∧ Grew w w' base v






/-- A result that is a new Store. -/
def BoxFact (n : Nat) (F : Nat → Nat → Int) (w : World) (e : Ending) (w' : World) : Prop :=
  ∃ A cap, e = .returned (.agg #[.slice A n cap]) ∧ OwnV 5 102 w' w.heap.size (.slice A n cap) n F ∧ Below w.heap.size w w'


end Go.Proofs.Ytlpaicpjadkceaa
