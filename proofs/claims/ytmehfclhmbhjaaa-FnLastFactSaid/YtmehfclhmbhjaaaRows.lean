/-
  No cell of these rows narrows 'for every input' (looked for: loops, veiled, ifaces, maps, wideKeys, modest, calm, conditions, laid).
  DERIVED. THE GIVEN ROWS OF THIS SEAT. 12 by the template 'for every input the law returns true; each argument reads behind the call as it read before'; 0 by the template 'total and deterministic' (their statements: YtmehfclhmbhjaaaTotals.lean).
  GIVEN WITH THE SEED: the statements are not yours to turn. If you find one false, say at which input.
  Laid BY PROGRAM, IN A SANDBOX (cutbox-rows.mjs): the forced cells as the released guide's own fill.sh prints them over the translation e0dd7c6a44ee32bd… (all of the seat's roots in one cut). By AI agents, Wed Nov 11 2026. No macro, syntax, notation, axiom, sorry.
-/
import Derived.Test.YtmehfclhmbhjaaaChecked
import GoSem.Claim
import GoSem.ClaimJoined
import GoSem.ClaimMapViews
import Derived.JoinedTies
import Derived.KernelRfl
namespace Go.Proofs.Ytmehfclhmbhjaaa
/- THE CELL 'sum', in the pinned program and in every row, IS THE sha256 OF THE DUMP (.gsa) THAT YtmehfclhmbhjaaaProg.lean LOADS. Nothing in Lean hashes anything: it is a label: what it is worth is what the hold of that sum in a sandbox is worth. -/
noncomputable def Try.pinned : Pinned := { name := "ytmehfclhmbhjaaa", sum := "e0dd7c6a44ee32bd61acfe976f470bc78a5bd3193423a7e3b06d6be7e6fc7ce1", checked := Try.checked }
namespace Rows
def none {H : Type} : Left H := { results := [], args := [] }

/-- 'laws.FnExactSegmentAt': WHATEVER THE INPUT: true; the input reads as it did. -/
def fnExactSegmentAtSpec : ChangeSpec := { name := "fnExactSegmentAt", fn := fun _ => fun
  | [d1, d2] => { results := [.lit (.bool true)], args := [d1, d2] }
  | _ => none }
def fnExactSegmentAtRow : OpenClaim := { program := "ytmehfclhmbhjaaa", sum := "e0dd7c6a44ee32bd61acfe976f470bc78a5bd3193423a7e3b06d6be7e6fc7ce1", func := "loop.example/g00980/laws.FnExactSegmentAt", spec := "fnExactSegmentAt", unfollowed := true, recurses := true, apart := false }
def FnExactSegmentAtSaid : Prop := fnExactSegmentAtRow.holds Try.pinned (OpenSpec.ofChange fnExactSegmentAtSpec)

/-- ITS FALSE NEIGHBOUR: 'it returns false'. Refute it at one input. -/
def fnExactSegmentAtWrong : ChangeSpec := { name := "fnExactSegmentAt", fn := fun _ => fun
  | [d1, d2] => { results := [.lit (.bool false)], args := [d1, d2] }
  | _ => none }
def FnExactSegmentAtWrongFalsely : Prop := fnExactSegmentAtRow.holds Try.pinned (OpenSpec.ofChange fnExactSegmentAtWrong)

/-- 'laws.FnExactTimelineOk': WHATEVER THE INPUT: true; the input reads as it did. -/
def fnExactTimelineOkSpec : ChangeSpec := { name := "fnExactTimelineOk", fn := fun _ => fun
  | [d] => { results := [.lit (.bool true)], args := [d] }
  | _ => none }
def fnExactTimelineOkRow : OpenClaim := { program := "ytmehfclhmbhjaaa", sum := "e0dd7c6a44ee32bd61acfe976f470bc78a5bd3193423a7e3b06d6be7e6fc7ce1", func := "loop.example/g00980/laws.FnExactTimelineOk", spec := "fnExactTimelineOk", apart := false }
def FnExactTimelineOkSaid : Prop := fnExactTimelineOkRow.holds Try.pinned (OpenSpec.ofChange fnExactTimelineOkSpec)

/-- ITS FALSE NEIGHBOUR: 'it returns false'. Refute it at one input. -/
def fnExactTimelineOkWrong : ChangeSpec := { name := "fnExactTimelineOk", fn := fun _ => fun
  | [d] => { results := [.lit (.bool false)], args := [d] }
  | _ => none }
def FnExactTimelineOkWrongFalsely : Prop := fnExactTimelineOkRow.holds Try.pinned (OpenSpec.ofChange fnExactTimelineOkWrong)

/-- 'laws.FnExactStoreOk': WHATEVER THE INPUT: true; the input reads as it did. -/
def fnExactStoreOkSpec : ChangeSpec := { name := "fnExactStoreOk", fn := fun _ => fun
  | [d] => { results := [.lit (.bool true)], args := [d] }
  | _ => none }
def fnExactStoreOkRow : OpenClaim := { program := "ytmehfclhmbhjaaa", sum := "e0dd7c6a44ee32bd61acfe976f470bc78a5bd3193423a7e3b06d6be7e6fc7ce1", func := "loop.example/g00980/laws.FnExactStoreOk", spec := "fnExactStoreOk", apart := false }
def FnExactStoreOkSaid : Prop := fnExactStoreOkRow.holds Try.pinned (OpenSpec.ofChange fnExactStoreOkSpec)

/-- ITS FALSE NEIGHBOUR: 'it returns false'. Refute it at one input. -/
def fnExactStoreOkWrong : ChangeSpec := { name := "fnExactStoreOk", fn := fun _ => fun
  | [d] => { results := [.lit (.bool false)], args := [d] }
  | _ => none }
def FnExactStoreOkWrongFalsely : Prop := fnExactStoreOkRow.holds Try.pinned (OpenSpec.ofChange fnExactStoreOkWrong)

/-- 'laws.FnExactValueAt': WHATEVER THE INPUT: true; the input reads as it did. -/
def fnExactValueAtSpec : ChangeSpec := { name := "fnExactValueAt", fn := fun _ => fun
  | [d1, d2, d3, d4] => { results := [.lit (.bool true)], args := [d1, d2, d3, d4] }
  | _ => none }
def fnExactValueAtRow : OpenClaim := { program := "ytmehfclhmbhjaaa", sum := "e0dd7c6a44ee32bd61acfe976f470bc78a5bd3193423a7e3b06d6be7e6fc7ce1", func := "loop.example/g00980/laws.FnExactValueAt", spec := "fnExactValueAt", unfollowed := true, recurses := true, apart := false }
def FnExactValueAtSaid : Prop := fnExactValueAtRow.holds Try.pinned (OpenSpec.ofChange fnExactValueAtSpec)

/-- ITS FALSE NEIGHBOUR: 'it returns false'. Refute it at one input. -/
def fnExactValueAtWrong : ChangeSpec := { name := "fnExactValueAt", fn := fun _ => fun
  | [d1, d2, d3, d4] => { results := [.lit (.bool false)], args := [d1, d2, d3, d4] }
  | _ => none }
def FnExactValueAtWrongFalsely : Prop := fnExactValueAtRow.holds Try.pinned (OpenSpec.ofChange fnExactValueAtWrong)

/-- 'laws.FnExactSumOver': WHATEVER THE INPUT: true; the input reads as it did. -/
def fnExactSumOverSpec : ChangeSpec := { name := "fnExactSumOver", fn := fun _ => fun
  | [d1, d2, d3] => { results := [.lit (.bool true)], args := [d1, d2, d3] }
  | _ => none }
def fnExactSumOverRow : OpenClaim := { program := "ytmehfclhmbhjaaa", sum := "e0dd7c6a44ee32bd61acfe976f470bc78a5bd3193423a7e3b06d6be7e6fc7ce1", func := "loop.example/g00980/laws.FnExactSumOver", spec := "fnExactSumOver", unfollowed := true, recurses := true, apart := false }
def FnExactSumOverSaid : Prop := fnExactSumOverRow.holds Try.pinned (OpenSpec.ofChange fnExactSumOverSpec)

/-- ITS FALSE NEIGHBOUR: 'it returns false'. Refute it at one input. -/
def fnExactSumOverWrong : ChangeSpec := { name := "fnExactSumOver", fn := fun _ => fun
  | [d1, d2, d3] => { results := [.lit (.bool false)], args := [d1, d2, d3] }
  | _ => none }
def FnExactSumOverWrongFalsely : Prop := fnExactSumOverRow.holds Try.pinned (OpenSpec.ofChange fnExactSumOverWrong)

/-- 'laws.FnExactStoreAsOf': WHATEVER THE INPUT: true; the input reads as it did. -/
def fnExactStoreAsOfSpec : ChangeSpec := { name := "fnExactStoreAsOf", fn := fun _ => fun
  | [d1, d2] => { results := [.lit (.bool true)], args := [d1, d2] }
  | _ => none }
def fnExactStoreAsOfRow : OpenClaim := { program := "ytmehfclhmbhjaaa", sum := "e0dd7c6a44ee32bd61acfe976f470bc78a5bd3193423a7e3b06d6be7e6fc7ce1", func := "loop.example/g00980/laws.FnExactStoreAsOf", spec := "fnExactStoreAsOf", unfollowed := true, recurses := true, apart := false }
def FnExactStoreAsOfSaid : Prop := fnExactStoreAsOfRow.holds Try.pinned (OpenSpec.ofChange fnExactStoreAsOfSpec)

/-- ITS FALSE NEIGHBOUR: 'it returns false'. Refute it at one input. -/
def fnExactStoreAsOfWrong : ChangeSpec := { name := "fnExactStoreAsOf", fn := fun _ => fun
  | [d1, d2] => { results := [.lit (.bool false)], args := [d1, d2] }
  | _ => none }
def FnExactStoreAsOfWrongFalsely : Prop := fnExactStoreAsOfRow.holds Try.pinned (OpenSpec.ofChange fnExactStoreAsOfWrong)

/-- 'laws.FnExactAddFact': WHATEVER THE INPUT: true; the input reads as it did. -/
def fnExactAddFactSpec : ChangeSpec := { name := "fnExactAddFact", fn := fun _ => fun
  | [d1, d2] => { results := [.lit (.bool true)], args := [d1, d2] }
  | _ => none }
def fnExactAddFactRow : OpenClaim := { program := "ytmehfclhmbhjaaa", sum := "e0dd7c6a44ee32bd61acfe976f470bc78a5bd3193423a7e3b06d6be7e6fc7ce1", func := "loop.example/g00980/laws.FnExactAddFact", spec := "fnExactAddFact", apart := false }
def FnExactAddFactSaid : Prop := fnExactAddFactRow.holds Try.pinned (OpenSpec.ofChange fnExactAddFactSpec)

/-- ITS FALSE NEIGHBOUR: 'it returns false'. Refute it at one input. -/
def fnExactAddFactWrong : ChangeSpec := { name := "fnExactAddFact", fn := fun _ => fun
  | [d1, d2] => { results := [.lit (.bool false)], args := [d1, d2] }
  | _ => none }
def FnExactAddFactWrongFalsely : Prop := fnExactAddFactRow.holds Try.pinned (OpenSpec.ofChange fnExactAddFactWrong)

/-- 'laws.FnExactChangedMonths': WHATEVER THE INPUT: true; the input reads as it did. -/
def fnExactChangedMonthsSpec : ChangeSpec := { name := "fnExactChangedMonths", fn := fun _ => fun
  | [d1, d2, d3, d4] => { results := [.lit (.bool true)], args := [d1, d2, d3, d4] }
  | _ => none }
def fnExactChangedMonthsRow : OpenClaim := { program := "ytmehfclhmbhjaaa", sum := "e0dd7c6a44ee32bd61acfe976f470bc78a5bd3193423a7e3b06d6be7e6fc7ce1", func := "loop.example/g00980/laws.FnExactChangedMonths", spec := "fnExactChangedMonths", unfollowed := true, recurses := true, apart := false }
def FnExactChangedMonthsSaid : Prop := fnExactChangedMonthsRow.holds Try.pinned (OpenSpec.ofChange fnExactChangedMonthsSpec)

/-- ITS FALSE NEIGHBOUR: 'it returns false'. Refute it at one input. -/
def fnExactChangedMonthsWrong : ChangeSpec := { name := "fnExactChangedMonths", fn := fun _ => fun
  | [d1, d2, d3, d4] => { results := [.lit (.bool false)], args := [d1, d2, d3, d4] }
  | _ => none }
def FnExactChangedMonthsWrongFalsely : Prop := fnExactChangedMonthsRow.holds Try.pinned (OpenSpec.ofChange fnExactChangedMonthsWrong)

/-- 'laws.FnExactTimelineOf': WHATEVER THE INPUT: true; the input reads as it did. -/
def fnExactTimelineOfSpec : ChangeSpec := { name := "fnExactTimelineOf", fn := fun _ => fun
  | [d1, d2, d3, d4, d5] => { results := [.lit (.bool true)], args := [d1, d2, d3, d4, d5] }
  | _ => none }
def fnExactTimelineOfRow : OpenClaim := { program := "ytmehfclhmbhjaaa", sum := "e0dd7c6a44ee32bd61acfe976f470bc78a5bd3193423a7e3b06d6be7e6fc7ce1", func := "loop.example/g00980/laws.FnExactTimelineOf", spec := "fnExactTimelineOf", unfollowed := true, recurses := true, apart := false }
def FnExactTimelineOfSaid : Prop := fnExactTimelineOfRow.holds Try.pinned (OpenSpec.ofChange fnExactTimelineOfSpec)

/-- ITS FALSE NEIGHBOUR: 'it returns false'. Refute it at one input. -/
def fnExactTimelineOfWrong : ChangeSpec := { name := "fnExactTimelineOf", fn := fun _ => fun
  | [d1, d2, d3, d4, d5] => { results := [.lit (.bool false)], args := [d1, d2, d3, d4, d5] }
  | _ => none }
def FnExactTimelineOfWrongFalsely : Prop := fnExactTimelineOfRow.holds Try.pinned (OpenSpec.ofChange fnExactTimelineOfWrong)

/-- 'laws.FnChangedMonths': WHATEVER THE INPUT: true; the input reads as it did. -/
def fnChangedMonthsSpec : ChangeSpec := { name := "fnChangedMonths", fn := fun _ => fun
  | [d] => { results := [.lit (.bool true)], args := [d] }
  | _ => none }
def fnChangedMonthsRow : OpenClaim := { program := "ytmehfclhmbhjaaa", sum := "e0dd7c6a44ee32bd61acfe976f470bc78a5bd3193423a7e3b06d6be7e6fc7ce1", func := "loop.example/g00980/laws.FnChangedMonths", spec := "fnChangedMonths", unfollowed := true, recurses := true, apart := false }
def FnChangedMonthsSaid : Prop := fnChangedMonthsRow.holds Try.pinned (OpenSpec.ofChange fnChangedMonthsSpec)

/-- ITS FALSE NEIGHBOUR: 'it returns false'. Refute it at one input. -/
def fnChangedMonthsWrong : ChangeSpec := { name := "fnChangedMonths", fn := fun _ => fun
  | [d] => { results := [.lit (.bool false)], args := [d] }
  | _ => none }
def FnChangedMonthsWrongFalsely : Prop := fnChangedMonthsRow.holds Try.pinned (OpenSpec.ofChange fnChangedMonthsWrong)

/-- 'laws.FnLastFact': WHATEVER THE INPUT: true; the input reads as it did. -/
def fnLastFactSpec : ChangeSpec := { name := "fnLastFact", fn := fun _ => fun
  | [d] => { results := [.lit (.bool true)], args := [d] }
  | _ => none }
def fnLastFactRow : OpenClaim := { program := "ytmehfclhmbhjaaa", sum := "e0dd7c6a44ee32bd61acfe976f470bc78a5bd3193423a7e3b06d6be7e6fc7ce1", func := "loop.example/g00980/laws.FnLastFact", spec := "fnLastFact", unfollowed := true, recurses := true, apart := false }
def FnLastFactSaid : Prop := fnLastFactRow.holds Try.pinned (OpenSpec.ofChange fnLastFactSpec)

/-- ITS FALSE NEIGHBOUR: 'it returns false'. Refute it at one input. -/
def fnLastFactWrong : ChangeSpec := { name := "fnLastFact", fn := fun _ => fun
  | [d] => { results := [.lit (.bool false)], args := [d] }
  | _ => none }
def FnLastFactWrongFalsely : Prop := fnLastFactRow.holds Try.pinned (OpenSpec.ofChange fnLastFactWrong)

/-- 'laws.FnKnownThen': WHATEVER THE INPUT: true; the input reads as it did. -/
def fnKnownThenSpec : ChangeSpec := { name := "fnKnownThen", fn := fun _ => fun
  | [d] => { results := [.lit (.bool true)], args := [d] }
  | _ => none }
def fnKnownThenRow : OpenClaim := { program := "ytmehfclhmbhjaaa", sum := "e0dd7c6a44ee32bd61acfe976f470bc78a5bd3193423a7e3b06d6be7e6fc7ce1", func := "loop.example/g00980/laws.FnKnownThen", spec := "fnKnownThen", unfollowed := true, recurses := true, apart := false }
def FnKnownThenSaid : Prop := fnKnownThenRow.holds Try.pinned (OpenSpec.ofChange fnKnownThenSpec)

/-- ITS FALSE NEIGHBOUR: 'it returns false'. Refute it at one input. -/
def fnKnownThenWrong : ChangeSpec := { name := "fnKnownThen", fn := fun _ => fun
  | [d] => { results := [.lit (.bool false)], args := [d] }
  | _ => none }
def FnKnownThenWrongFalsely : Prop := fnKnownThenRow.holds Try.pinned (OpenSpec.ofChange fnKnownThenWrong)

/- THE SECOND FORM. 'bulk': how many values and letters a reading holds, each counted each time it is reached (what is shared counts as often as it is met; a slice's spare places count too). A statement '..UptoSaid' is the law's where the arguments, and the package variables that the reading takes, are together of bulk at most 1048576: NARROWER than '..Said'. Prove '..Said' where nothing that the law and all that it calls make is longer than what came in: it says more and counts as full. Else prove '..UptoSaid'. A law counts once. -/
mutual
def uptoBulk {H : Type} : DataW H → Nat
  | .lit (.string bytes) => bytes.length + 1
  | .lit _ => 1
  | .nil => 1
  | .ptr d => uptoBulk d + 1
  | .slice elems spare => uptoBulkAll elems + uptoBulkAll spare + 1
  | .agg parts => uptoBulkAll parts + 1
  | .iface _ d => uptoBulk d + 1
  | .map entries => uptoBulkEntries entries + 1
  | .held _ => 1
def uptoBulkAll {H : Type} : List (DataW H) → Nat
  | [] => 0
  | d :: r => uptoBulk d + uptoBulkAll r
def uptoBulkEntries {H : Type} : List (Lit × DataW H) → Nat
  | [] => 0
  | x :: r => uptoBulkEntry x + uptoBulkEntries r
def uptoBulkEntry {H : Type} : Lit × DataW H → Nat
  | (.string bytes, d) => bytes.length + uptoBulk d + 1
  | (_, d) => uptoBulk d + 1
 end
def uptoSmall : (H : Type) → List (DataW H) → Bool := fun _ ds => decide (uptoBulkAll ds ≤ 1048576)
def OpenSpec.upto (s : _root_.Go.ChangeSpec) : _root_.Go.OpenSpec := { _root_.Go.OpenSpec.ofChange s with cond := some uptoSmall }

/-- 'laws.FnExactSegmentAt', WHERE WHAT IT READS IS OF BULK AT MOST 1048576: true; the input reads as it did. -/
def fnExactSegmentAtUptoRow : OpenClaim := { program := "ytmehfclhmbhjaaa", sum := "e0dd7c6a44ee32bd61acfe976f470bc78a5bd3193423a7e3b06d6be7e6fc7ce1", func := "loop.example/g00980/laws.FnExactSegmentAt", spec := "fnExactSegmentAt", unfollowed := true, recurses := true, apart := false, narrowed := true }
def FnExactSegmentAtUptoSaid : Prop := fnExactSegmentAtUptoRow.holds Try.pinned (OpenSpec.upto fnExactSegmentAtSpec)

/-- 'laws.FnExactTimelineOk', WHERE WHAT IT READS IS OF BULK AT MOST 1048576: true; the input reads as it did. -/
def fnExactTimelineOkUptoRow : OpenClaim := { program := "ytmehfclhmbhjaaa", sum := "e0dd7c6a44ee32bd61acfe976f470bc78a5bd3193423a7e3b06d6be7e6fc7ce1", func := "loop.example/g00980/laws.FnExactTimelineOk", spec := "fnExactTimelineOk", apart := false, narrowed := true }
def FnExactTimelineOkUptoSaid : Prop := fnExactTimelineOkUptoRow.holds Try.pinned (OpenSpec.upto fnExactTimelineOkSpec)

/-- 'laws.FnExactStoreOk', WHERE WHAT IT READS IS OF BULK AT MOST 1048576: true; the input reads as it did. -/
def fnExactStoreOkUptoRow : OpenClaim := { program := "ytmehfclhmbhjaaa", sum := "e0dd7c6a44ee32bd61acfe976f470bc78a5bd3193423a7e3b06d6be7e6fc7ce1", func := "loop.example/g00980/laws.FnExactStoreOk", spec := "fnExactStoreOk", apart := false, narrowed := true }
def FnExactStoreOkUptoSaid : Prop := fnExactStoreOkUptoRow.holds Try.pinned (OpenSpec.upto fnExactStoreOkSpec)

/-- 'laws.FnExactValueAt', WHERE WHAT IT READS IS OF BULK AT MOST 1048576: true; the input reads as it did. -/
def fnExactValueAtUptoRow : OpenClaim := { program := "ytmehfclhmbhjaaa", sum := "e0dd7c6a44ee32bd61acfe976f470bc78a5bd3193423a7e3b06d6be7e6fc7ce1", func := "loop.example/g00980/laws.FnExactValueAt", spec := "fnExactValueAt", unfollowed := true, recurses := true, apart := false, narrowed := true }
def FnExactValueAtUptoSaid : Prop := fnExactValueAtUptoRow.holds Try.pinned (OpenSpec.upto fnExactValueAtSpec)

/-- 'laws.FnExactSumOver', WHERE WHAT IT READS IS OF BULK AT MOST 1048576: true; the input reads as it did. -/
def fnExactSumOverUptoRow : OpenClaim := { program := "ytmehfclhmbhjaaa", sum := "e0dd7c6a44ee32bd61acfe976f470bc78a5bd3193423a7e3b06d6be7e6fc7ce1", func := "loop.example/g00980/laws.FnExactSumOver", spec := "fnExactSumOver", unfollowed := true, recurses := true, apart := false, narrowed := true }
def FnExactSumOverUptoSaid : Prop := fnExactSumOverUptoRow.holds Try.pinned (OpenSpec.upto fnExactSumOverSpec)

/-- 'laws.FnExactStoreAsOf', WHERE WHAT IT READS IS OF BULK AT MOST 1048576: true; the input reads as it did. -/
def fnExactStoreAsOfUptoRow : OpenClaim := { program := "ytmehfclhmbhjaaa", sum := "e0dd7c6a44ee32bd61acfe976f470bc78a5bd3193423a7e3b06d6be7e6fc7ce1", func := "loop.example/g00980/laws.FnExactStoreAsOf", spec := "fnExactStoreAsOf", unfollowed := true, recurses := true, apart := false, narrowed := true }
def FnExactStoreAsOfUptoSaid : Prop := fnExactStoreAsOfUptoRow.holds Try.pinned (OpenSpec.upto fnExactStoreAsOfSpec)

/-- 'laws.FnExactAddFact', WHERE WHAT IT READS IS OF BULK AT MOST 1048576: true; the input reads as it did. -/
def fnExactAddFactUptoRow : OpenClaim := { program := "ytmehfclhmbhjaaa", sum := "e0dd7c6a44ee32bd61acfe976f470bc78a5bd3193423a7e3b06d6be7e6fc7ce1", func := "loop.example/g00980/laws.FnExactAddFact", spec := "fnExactAddFact", apart := false, narrowed := true }
def FnExactAddFactUptoSaid : Prop := fnExactAddFactUptoRow.holds Try.pinned (OpenSpec.upto fnExactAddFactSpec)

/-- 'laws.FnExactChangedMonths', WHERE WHAT IT READS IS OF BULK AT MOST 1048576: true; the input reads as it did. -/
def fnExactChangedMonthsUptoRow : OpenClaim := { program := "ytmehfclhmbhjaaa", sum := "e0dd7c6a44ee32bd61acfe976f470bc78a5bd3193423a7e3b06d6be7e6fc7ce1", func := "loop.example/g00980/laws.FnExactChangedMonths", spec := "fnExactChangedMonths", unfollowed := true, recurses := true, apart := false, narrowed := true }
def FnExactChangedMonthsUptoSaid : Prop := fnExactChangedMonthsUptoRow.holds Try.pinned (OpenSpec.upto fnExactChangedMonthsSpec)

/-- 'laws.FnExactTimelineOf', WHERE WHAT IT READS IS OF BULK AT MOST 1048576: true; the input reads as it did. -/
def fnExactTimelineOfUptoRow : OpenClaim := { program := "ytmehfclhmbhjaaa", sum := "e0dd7c6a44ee32bd61acfe976f470bc78a5bd3193423a7e3b06d6be7e6fc7ce1", func := "loop.example/g00980/laws.FnExactTimelineOf", spec := "fnExactTimelineOf", unfollowed := true, recurses := true, apart := false, narrowed := true }
def FnExactTimelineOfUptoSaid : Prop := fnExactTimelineOfUptoRow.holds Try.pinned (OpenSpec.upto fnExactTimelineOfSpec)

/-- 'laws.FnChangedMonths', WHERE WHAT IT READS IS OF BULK AT MOST 1048576: true; the input reads as it did. -/
def fnChangedMonthsUptoRow : OpenClaim := { program := "ytmehfclhmbhjaaa", sum := "e0dd7c6a44ee32bd61acfe976f470bc78a5bd3193423a7e3b06d6be7e6fc7ce1", func := "loop.example/g00980/laws.FnChangedMonths", spec := "fnChangedMonths", unfollowed := true, recurses := true, apart := false, narrowed := true }
def FnChangedMonthsUptoSaid : Prop := fnChangedMonthsUptoRow.holds Try.pinned (OpenSpec.upto fnChangedMonthsSpec)

/-- 'laws.FnLastFact', WHERE WHAT IT READS IS OF BULK AT MOST 1048576: true; the input reads as it did. -/
def fnLastFactUptoRow : OpenClaim := { program := "ytmehfclhmbhjaaa", sum := "e0dd7c6a44ee32bd61acfe976f470bc78a5bd3193423a7e3b06d6be7e6fc7ce1", func := "loop.example/g00980/laws.FnLastFact", spec := "fnLastFact", unfollowed := true, recurses := true, apart := false, narrowed := true }
def FnLastFactUptoSaid : Prop := fnLastFactUptoRow.holds Try.pinned (OpenSpec.upto fnLastFactSpec)

/-- 'laws.FnKnownThen', WHERE WHAT IT READS IS OF BULK AT MOST 1048576: true; the input reads as it did. -/
def fnKnownThenUptoRow : OpenClaim := { program := "ytmehfclhmbhjaaa", sum := "e0dd7c6a44ee32bd61acfe976f470bc78a5bd3193423a7e3b06d6be7e6fc7ce1", func := "loop.example/g00980/laws.FnKnownThen", spec := "fnKnownThen", unfollowed := true, recurses := true, apart := false, narrowed := true }
def FnKnownThenUptoSaid : Prop := fnKnownThenUptoRow.holds Try.pinned (OpenSpec.upto fnKnownThenSpec)

end Rows
end Go.Proofs.Ytmehfclhmbhjaaa
