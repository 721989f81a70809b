/-
  No cell of these rows narrows 'for every input' (looked for: loops, veiled, ifaces, maps, wideKeys, modest, calm, conditions, laid).
  DERIVED. THE GIVEN ROWS OF THIS SEAT. 11 by the template 'for every input the law returns true; each argument reads behind the call as it read before'; 0 by the template 'total and deterministic' (their statements: YtlpaicpjadkceaaTotals.lean).
  GIVEN WITH THE SEED: the statements are not yours to turn. If you find one false, say at which input.
  Laid BY PROGRAM, IN A SANDBOX (cutbox-rows.mjs): the forced cells as the released guide's own fill.sh prints them over the translation c60573979dc6f7a3… (all of the seat's roots in one cut). By AI agents, Wed Nov 11 2026. No macro, syntax, notation, axiom, sorry.
-/
import Derived.Test.YtlpaicpjadkceaaChecked
import GoSem.Claim
import GoSem.ClaimJoined
import GoSem.ClaimMapViews
import Derived.JoinedTies
import Derived.KernelRfl
namespace Go.Proofs.Ytlpaicpjadkceaa
/- THE CELL 'sum', in the pinned program and in every row, IS THE sha256 OF THE DUMP (.gsa) THAT YtlpaicpjadkceaaProg.lean LOADS. Nothing in Lean hashes anything: it is a label: what it is worth is what the hold of that sum in a sandbox is worth. -/
noncomputable def Try.pinned : Pinned := { name := "ytlpaicpjadkceaa", sum := "c60573979dc6f7a3601294a45b1ae1139163c5e0e10f8e0e34a7e3488be1072c", checked := Try.checked }
namespace Rows
def none {H : Type} : Left H := { results := [], args := [] }

/-- 'laws.FnExactIndexAt': WHATEVER THE INPUT: true; the input reads as it did. -/
def fnExactIndexAtSpec : ChangeSpec := { name := "fnExactIndexAt", fn := fun _ => fun
  | [d1, d2, d3] => { results := [.lit (.bool true)], args := [d1, d2, d3] }
  | _ => none }
def fnExactIndexAtRow : OpenClaim := { program := "ytlpaicpjadkceaa", sum := "c60573979dc6f7a3601294a45b1ae1139163c5e0e10f8e0e34a7e3488be1072c", func := "loop.example/g00980/laws.FnExactIndexAt", spec := "fnExactIndexAt", apart := false }
def FnExactIndexAtSaid : Prop := fnExactIndexAtRow.holds Try.pinned (OpenSpec.ofChange fnExactIndexAtSpec)

/-- ITS FALSE NEIGHBOUR: 'it returns false'. Refute it at one input. -/
def fnExactIndexAtWrong : ChangeSpec := { name := "fnExactIndexAt", fn := fun _ => fun
  | [d1, d2, d3] => { results := [.lit (.bool false)], args := [d1, d2, d3] }
  | _ => none }
def FnExactIndexAtWrongFalsely : Prop := fnExactIndexAtRow.holds Try.pinned (OpenSpec.ofChange fnExactIndexAtWrong)

/-- 'laws.FnExactSeriesOk': WHATEVER THE INPUT: true; the input reads as it did. -/
def fnExactSeriesOkSpec : ChangeSpec := { name := "fnExactSeriesOk", fn := fun _ => fun
  | [d] => { results := [.lit (.bool true)], args := [d] }
  | _ => none }
def fnExactSeriesOkRow : OpenClaim := { program := "ytlpaicpjadkceaa", sum := "c60573979dc6f7a3601294a45b1ae1139163c5e0e10f8e0e34a7e3488be1072c", func := "loop.example/g00980/laws.FnExactSeriesOk", spec := "fnExactSeriesOk", apart := false }
def FnExactSeriesOkSaid : Prop := fnExactSeriesOkRow.holds Try.pinned (OpenSpec.ofChange fnExactSeriesOkSpec)

/-- ITS FALSE NEIGHBOUR: 'it returns false'. Refute it at one input. -/
def fnExactSeriesOkWrong : ChangeSpec := { name := "fnExactSeriesOk", fn := fun _ => fun
  | [d] => { results := [.lit (.bool false)], args := [d] }
  | _ => none }
def FnExactSeriesOkWrongFalsely : Prop := fnExactSeriesOkRow.holds Try.pinned (OpenSpec.ofChange fnExactSeriesOkWrong)

/-- 'laws.FnExactRevisionsOf': WHATEVER THE INPUT: true; the input reads as it did. -/
def fnExactRevisionsOfSpec : ChangeSpec := { name := "fnExactRevisionsOf", fn := fun _ => fun
  | [d1, d2] => { results := [.lit (.bool true)], args := [d1, d2] }
  | _ => none }
def fnExactRevisionsOfRow : OpenClaim := { program := "ytlpaicpjadkceaa", sum := "c60573979dc6f7a3601294a45b1ae1139163c5e0e10f8e0e34a7e3488be1072c", func := "loop.example/g00980/laws.FnExactRevisionsOf", spec := "fnExactRevisionsOf", apart := false }
def FnExactRevisionsOfSaid : Prop := fnExactRevisionsOfRow.holds Try.pinned (OpenSpec.ofChange fnExactRevisionsOfSpec)

/-- ITS FALSE NEIGHBOUR: 'it returns false'. Refute it at one input. -/
def fnExactRevisionsOfWrong : ChangeSpec := { name := "fnExactRevisionsOf", fn := fun _ => fun
  | [d1, d2] => { results := [.lit (.bool false)], args := [d1, d2] }
  | _ => none }
def FnExactRevisionsOfWrongFalsely : Prop := fnExactRevisionsOfRow.holds Try.pinned (OpenSpec.ofChange fnExactRevisionsOfWrong)

/-- 'laws.FnExactPublish': WHATEVER THE INPUT: true; the input reads as it did. -/
def fnExactPublishSpec : ChangeSpec := { name := "fnExactPublish", fn := fun _ => fun
  | [d1, d2] => { results := [.lit (.bool true)], args := [d1, d2] }
  | _ => none }
def fnExactPublishRow : OpenClaim := { program := "ytlpaicpjadkceaa", sum := "c60573979dc6f7a3601294a45b1ae1139163c5e0e10f8e0e34a7e3488be1072c", func := "loop.example/g00980/laws.FnExactPublish", spec := "fnExactPublish", apart := false }
def FnExactPublishSaid : Prop := fnExactPublishRow.holds Try.pinned (OpenSpec.ofChange fnExactPublishSpec)

/-- ITS FALSE NEIGHBOUR: 'it returns false'. Refute it at one input. -/
def fnExactPublishWrong : ChangeSpec := { name := "fnExactPublish", fn := fun _ => fun
  | [d1, d2] => { results := [.lit (.bool false)], args := [d1, d2] }
  | _ => none }
def FnExactPublishWrongFalsely : Prop := fnExactPublishRow.holds Try.pinned (OpenSpec.ofChange fnExactPublishWrong)

/-- 'laws.FnIndexes': WHATEVER THE INPUT: true; the input reads as it did. -/
def fnIndexesSpec : ChangeSpec := { name := "fnIndexes", fn := fun _ => fun
  | [d] => { results := [.lit (.bool true)], args := [d] }
  | _ => none }
def fnIndexesRow : OpenClaim := { program := "ytlpaicpjadkceaa", sum := "c60573979dc6f7a3601294a45b1ae1139163c5e0e10f8e0e34a7e3488be1072c", func := "loop.example/g00980/laws.FnIndexes", spec := "fnIndexes", apart := false }
def FnIndexesSaid : Prop := fnIndexesRow.holds Try.pinned (OpenSpec.ofChange fnIndexesSpec)

/-- ITS FALSE NEIGHBOUR: 'it returns false'. Refute it at one input. -/
def fnIndexesWrong : ChangeSpec := { name := "fnIndexes", fn := fun _ => fun
  | [d] => { results := [.lit (.bool false)], args := [d] }
  | _ => none }
def FnIndexesWrongFalsely : Prop := fnIndexesRow.holds Try.pinned (OpenSpec.ofChange fnIndexesWrong)

/-- 'laws.FnExactIndexRatio': WHATEVER THE INPUT: true; the input reads as it did. -/
def fnExactIndexRatioSpec : ChangeSpec := { name := "fnExactIndexRatio", fn := fun _ => fun
  | [d1, d2, d3, d4] => { results := [.lit (.bool true)], args := [d1, d2, d3, d4] }
  | _ => none }
def fnExactIndexRatioRow : OpenClaim := { program := "ytlpaicpjadkceaa", sum := "c60573979dc6f7a3601294a45b1ae1139163c5e0e10f8e0e34a7e3488be1072c", func := "loop.example/g00980/laws.FnExactIndexRatio", spec := "fnExactIndexRatio", apart := false }
def FnExactIndexRatioSaid : Prop := fnExactIndexRatioRow.holds Try.pinned (OpenSpec.ofChange fnExactIndexRatioSpec)

/-- ITS FALSE NEIGHBOUR: 'it returns false'. Refute it at one input. -/
def fnExactIndexRatioWrong : ChangeSpec := { name := "fnExactIndexRatio", fn := fun _ => fun
  | [d1, d2, d3, d4] => { results := [.lit (.bool false)], args := [d1, d2, d3, d4] }
  | _ => none }
def FnExactIndexRatioWrongFalsely : Prop := fnExactIndexRatioRow.holds Try.pinned (OpenSpec.ofChange fnExactIndexRatioWrong)

/-- 'laws.FnRatios': WHATEVER THE INPUT: true; the input reads as it did. -/
def fnRatiosSpec : ChangeSpec := { name := "fnRatios", fn := fun _ => fun
  | [d] => { results := [.lit (.bool true)], args := [d] }
  | _ => none }
def fnRatiosRow : OpenClaim := { program := "ytlpaicpjadkceaa", sum := "c60573979dc6f7a3601294a45b1ae1139163c5e0e10f8e0e34a7e3488be1072c", func := "loop.example/g00980/laws.FnRatios", spec := "fnRatios", apart := false }
def FnRatiosSaid : Prop := fnRatiosRow.holds Try.pinned (OpenSpec.ofChange fnRatiosSpec)

/-- ITS FALSE NEIGHBOUR: 'it returns false'. Refute it at one input. -/
def fnRatiosWrong : ChangeSpec := { name := "fnRatios", fn := fun _ => fun
  | [d] => { results := [.lit (.bool false)], args := [d] }
  | _ => none }
def FnRatiosWrongFalsely : Prop := fnRatiosRow.holds Try.pinned (OpenSpec.ofChange fnRatiosWrong)

/-- 'laws.FnExactNodeOk': WHATEVER THE INPUT: true; the input reads as it did. -/
def fnExactNodeOkSpec : ChangeSpec := { name := "fnExactNodeOk", fn := fun _ => fun
  | [d1, d2] => { results := [.lit (.bool true)], args := [d1, d2] }
  | _ => none }
def fnExactNodeOkRow : OpenClaim := { program := "ytlpaicpjadkceaa", sum := "c60573979dc6f7a3601294a45b1ae1139163c5e0e10f8e0e34a7e3488be1072c", func := "loop.example/g00980/laws.FnExactNodeOk", spec := "fnExactNodeOk", apart := false }
def FnExactNodeOkSaid : Prop := fnExactNodeOkRow.holds Try.pinned (OpenSpec.ofChange fnExactNodeOkSpec)

/-- ITS FALSE NEIGHBOUR: 'it returns false'. Refute it at one input. -/
def fnExactNodeOkWrong : ChangeSpec := { name := "fnExactNodeOk", fn := fun _ => fun
  | [d1, d2] => { results := [.lit (.bool false)], args := [d1, d2] }
  | _ => none }
def FnExactNodeOkWrongFalsely : Prop := fnExactNodeOkRow.holds Try.pinned (OpenSpec.ofChange fnExactNodeOkWrong)

/-- 'laws.FnExactFormulaOk': WHATEVER THE INPUT: true; the input reads as it did. -/
def fnExactFormulaOkSpec : ChangeSpec := { name := "fnExactFormulaOk", fn := fun _ => fun
  | [d] => { results := [.lit (.bool true)], args := [d] }
  | _ => none }
def fnExactFormulaOkRow : OpenClaim := { program := "ytlpaicpjadkceaa", sum := "c60573979dc6f7a3601294a45b1ae1139163c5e0e10f8e0e34a7e3488be1072c", func := "loop.example/g00980/laws.FnExactFormulaOk", spec := "fnExactFormulaOk", apart := false }
def FnExactFormulaOkSaid : Prop := fnExactFormulaOkRow.holds Try.pinned (OpenSpec.ofChange fnExactFormulaOkSpec)

/-- ITS FALSE NEIGHBOUR: 'it returns false'. Refute it at one input. -/
def fnExactFormulaOkWrong : ChangeSpec := { name := "fnExactFormulaOk", fn := fun _ => fun
  | [d] => { results := [.lit (.bool false)], args := [d] }
  | _ => none }
def FnExactFormulaOkWrongFalsely : Prop := fnExactFormulaOkRow.holds Try.pinned (OpenSpec.ofChange fnExactFormulaOkWrong)

/-- 'laws.FnExactVarsOf': WHATEVER THE INPUT: true; the input reads as it did. -/
def fnExactVarsOfSpec : ChangeSpec := { name := "fnExactVarsOf", fn := fun _ => fun
  | [d] => { results := [.lit (.bool true)], args := [d] }
  | _ => none }
def fnExactVarsOfRow : OpenClaim := { program := "ytlpaicpjadkceaa", sum := "c60573979dc6f7a3601294a45b1ae1139163c5e0e10f8e0e34a7e3488be1072c", func := "loop.example/g00980/laws.FnExactVarsOf", spec := "fnExactVarsOf", apart := false }
def FnExactVarsOfSaid : Prop := fnExactVarsOfRow.holds Try.pinned (OpenSpec.ofChange fnExactVarsOfSpec)

/-- ITS FALSE NEIGHBOUR: 'it returns false'. Refute it at one input. -/
def fnExactVarsOfWrong : ChangeSpec := { name := "fnExactVarsOf", fn := fun _ => fun
  | [d] => { results := [.lit (.bool false)], args := [d] }
  | _ => none }
def FnExactVarsOfWrongFalsely : Prop := fnExactVarsOfRow.holds Try.pinned (OpenSpec.ofChange fnExactVarsOfWrong)

/-- 'laws.FnCommonMonths': WHATEVER THE INPUT: true; the input reads as it did. -/
def fnCommonMonthsSpec : ChangeSpec := { name := "fnCommonMonths", fn := fun _ => fun
  | [d] => { results := [.lit (.bool true)], args := [d] }
  | _ => none }
def fnCommonMonthsRow : OpenClaim := { program := "ytlpaicpjadkceaa", sum := "c60573979dc6f7a3601294a45b1ae1139163c5e0e10f8e0e34a7e3488be1072c", func := "loop.example/g00980/laws.FnCommonMonths", spec := "fnCommonMonths", unfollowed := true, recurses := true, apart := false }
def FnCommonMonthsSaid : Prop := fnCommonMonthsRow.holds Try.pinned (OpenSpec.ofChange fnCommonMonthsSpec)

/-- ITS FALSE NEIGHBOUR: 'it returns false'. Refute it at one input. -/
def fnCommonMonthsWrong : ChangeSpec := { name := "fnCommonMonths", fn := fun _ => fun
  | [d] => { results := [.lit (.bool false)], args := [d] }
  | _ => none }
def FnCommonMonthsWrongFalsely : Prop := fnCommonMonthsRow.holds Try.pinned (OpenSpec.ofChange fnCommonMonthsWrong)

/- THE SECOND FORM. 'bulk': how many values and letters a reading holds, each counted each time it is reached (what is shared counts as often as it is met; a slice's spare places count too). A statement '..UptoSaid' is the law's where the arguments, and the package variables that the reading takes, are together of bulk at most 1048576: NARROWER than '..Said'. Prove '..Said' where nothing that the law and all that it calls make is longer than what came in: it says more and counts as full. Else prove '..UptoSaid'. A law counts once. -/
mutual
def uptoBulk {H : Type} : DataW H → Nat
  | .lit (.string bytes) => bytes.length + 1
  | .lit _ => 1
  | .nil => 1
  | .ptr d => uptoBulk d + 1
  | .slice elems spare => uptoBulkAll elems + uptoBulkAll spare + 1
  | .agg parts => uptoBulkAll parts + 1
  | .iface _ d => uptoBulk d + 1
  | .map entries => uptoBulkEntries entries + 1
  | .held _ => 1
def uptoBulkAll {H : Type} : List (DataW H) → Nat
  | [] => 0
  | d :: r => uptoBulk d + uptoBulkAll r
def uptoBulkEntries {H : Type} : List (Lit × DataW H) → Nat
  | [] => 0
  | x :: r => uptoBulkEntry x + uptoBulkEntries r
def uptoBulkEntry {H : Type} : Lit × DataW H → Nat
  | (.string bytes, d) => bytes.length + uptoBulk d + 1
  | (_, d) => uptoBulk d + 1
 end
def uptoSmall : (H : Type) → List (DataW H) → Bool := fun _ ds => decide (uptoBulkAll ds ≤ 1048576)
def OpenSpec.upto (s : _root_.Go.ChangeSpec) : _root_.Go.OpenSpec := { _root_.Go.OpenSpec.ofChange s with cond := some uptoSmall }

/-- 'laws.FnExactIndexAt', WHERE WHAT IT READS IS OF BULK AT MOST 1048576: true; the input reads as it did. -/
def fnExactIndexAtUptoRow : OpenClaim := { program := "ytlpaicpjadkceaa", sum := "c60573979dc6f7a3601294a45b1ae1139163c5e0e10f8e0e34a7e3488be1072c", func := "loop.example/g00980/laws.FnExactIndexAt", spec := "fnExactIndexAt", apart := false, narrowed := true }
def FnExactIndexAtUptoSaid : Prop := fnExactIndexAtUptoRow.holds Try.pinned (OpenSpec.upto fnExactIndexAtSpec)

/-- 'laws.FnExactSeriesOk', WHERE WHAT IT READS IS OF BULK AT MOST 1048576: true; the input reads as it did. -/
def fnExactSeriesOkUptoRow : OpenClaim := { program := "ytlpaicpjadkceaa", sum := "c60573979dc6f7a3601294a45b1ae1139163c5e0e10f8e0e34a7e3488be1072c", func := "loop.example/g00980/laws.FnExactSeriesOk", spec := "fnExactSeriesOk", apart := false, narrowed := true }
def FnExactSeriesOkUptoSaid : Prop := fnExactSeriesOkUptoRow.holds Try.pinned (OpenSpec.upto fnExactSeriesOkSpec)

/-- 'laws.FnExactRevisionsOf', WHERE WHAT IT READS IS OF BULK AT MOST 1048576: true; the input reads as it did. -/
def fnExactRevisionsOfUptoRow : OpenClaim := { program := "ytlpaicpjadkceaa", sum := "c60573979dc6f7a3601294a45b1ae1139163c5e0e10f8e0e34a7e3488be1072c", func := "loop.example/g00980/laws.FnExactRevisionsOf", spec := "fnExactRevisionsOf", apart := false, narrowed := true }
def FnExactRevisionsOfUptoSaid : Prop := fnExactRevisionsOfUptoRow.holds Try.pinned (OpenSpec.upto fnExactRevisionsOfSpec)

/-- 'laws.FnExactPublish', WHERE WHAT IT READS IS OF BULK AT MOST 1048576: true; the input reads as it did. -/
def fnExactPublishUptoRow : OpenClaim := { program := "ytlpaicpjadkceaa", sum := "c60573979dc6f7a3601294a45b1ae1139163c5e0e10f8e0e34a7e3488be1072c", func := "loop.example/g00980/laws.FnExactPublish", spec := "fnExactPublish", apart := false, narrowed := true }
def FnExactPublishUptoSaid : Prop := fnExactPublishUptoRow.holds Try.pinned (OpenSpec.upto fnExactPublishSpec)

/-- 'laws.FnIndexes', WHERE WHAT IT READS IS OF BULK AT MOST 1048576: true; the input reads as it did. -/
def fnIndexesUptoRow : OpenClaim := { program := "ytlpaicpjadkceaa", sum := "c60573979dc6f7a3601294a45b1ae1139163c5e0e10f8e0e34a7e3488be1072c", func := "loop.example/g00980/laws.FnIndexes", spec := "fnIndexes", apart := false, narrowed := true }
def FnIndexesUptoSaid : Prop := fnIndexesUptoRow.holds Try.pinned (OpenSpec.upto fnIndexesSpec)

/-- 'laws.FnExactIndexRatio', WHERE WHAT IT READS IS OF BULK AT MOST 1048576: true; the input reads as it did. -/
def fnExactIndexRatioUptoRow : OpenClaim := { program := "ytlpaicpjadkceaa", sum := "c60573979dc6f7a3601294a45b1ae1139163c5e0e10f8e0e34a7e3488be1072c", func := "loop.example/g00980/laws.FnExactIndexRatio", spec := "fnExactIndexRatio", apart := false, narrowed := true }
def FnExactIndexRatioUptoSaid : Prop := fnExactIndexRatioUptoRow.holds Try.pinned (OpenSpec.upto fnExactIndexRatioSpec)

/-- 'laws.FnRatios', WHERE WHAT IT READS IS OF BULK AT MOST 1048576: true; the input reads as it did. -/
def fnRatiosUptoRow : OpenClaim := { program := "ytlpaicpjadkceaa", sum := "c60573979dc6f7a3601294a45b1ae1139163c5e0e10f8e0e34a7e3488be1072c", func := "loop.example/g00980/laws.FnRatios", spec := "fnRatios", apart := false, narrowed := true }
def FnRatiosUptoSaid : Prop := fnRatiosUptoRow.holds Try.pinned (OpenSpec.upto fnRatiosSpec)

/-- 'laws.FnExactNodeOk', WHERE WHAT IT READS IS OF BULK AT MOST 1048576: true; the input reads as it did. -/
def fnExactNodeOkUptoRow : OpenClaim := { program := "ytlpaicpjadkceaa", sum := "c60573979dc6f7a3601294a45b1ae1139163c5e0e10f8e0e34a7e3488be1072c", func := "loop.example/g00980/laws.FnExactNodeOk", spec := "fnExactNodeOk", apart := false, narrowed := true }
def FnExactNodeOkUptoSaid : Prop := fnExactNodeOkUptoRow.holds Try.pinned (OpenSpec.upto fnExactNodeOkSpec)

/-- 'laws.FnExactFormulaOk', WHERE WHAT IT READS IS OF BULK AT MOST 1048576: true; the input reads as it did. -/
def fnExactFormulaOkUptoRow : OpenClaim := { program := "ytlpaicpjadkceaa", sum := "c60573979dc6f7a3601294a45b1ae1139163c5e0e10f8e0e34a7e3488be1072c", func := "loop.example/g00980/laws.FnExactFormulaOk", spec := "fnExactFormulaOk", apart := false, narrowed := true }
def FnExactFormulaOkUptoSaid : Prop := fnExactFormulaOkUptoRow.holds Try.pinned (OpenSpec.upto fnExactFormulaOkSpec)

/-- 'laws.FnExactVarsOf', WHERE WHAT IT READS IS OF BULK AT MOST 1048576: true; the input reads as it did. -/
def fnExactVarsOfUptoRow : OpenClaim := { program := "ytlpaicpjadkceaa", sum := "c60573979dc6f7a3601294a45b1ae1139163c5e0e10f8e0e34a7e3488be1072c", func := "loop.example/g00980/laws.FnExactVarsOf", spec := "fnExactVarsOf", apart := false, narrowed := true }
def FnExactVarsOfUptoSaid : Prop := fnExactVarsOfUptoRow.holds Try.pinned (OpenSpec.upto fnExactVarsOfSpec)

/-- 'laws.FnCommonMonths', WHERE WHAT IT READS IS OF BULK AT MOST 1048576: true; the input reads as it did. -/
def fnCommonMonthsUptoRow : OpenClaim := { program := "ytlpaicpjadkceaa", sum := "c60573979dc6f7a3601294a45b1ae1139163c5e0e10f8e0e34a7e3488be1072c", func := "loop.example/g00980/laws.FnCommonMonths", spec := "fnCommonMonths", unfollowed := true, recurses := true, apart := false, narrowed := true }
def FnCommonMonthsUptoSaid : Prop := fnCommonMonthsUptoRow.holds Try.pinned (OpenSpec.upto fnCommonMonthsSpec)

end Rows
end Go.Proofs.Ytlpaicpjadkceaa
