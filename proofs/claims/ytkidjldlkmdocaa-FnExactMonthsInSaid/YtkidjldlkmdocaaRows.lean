/-
  No cell of these rows narrows 'for every input' (looked for: loops, veiled, ifaces, maps, wideKeys, modest, calm, conditions, laid).
  DERIVED. THE GIVEN ROWS OF THIS SEAT. 12 by the template 'for every input the law returns true; each argument reads behind the call as it read before'; 0 by the template 'total and deterministic' (their statements: YtkidjldlkmdocaaTotals.lean).
  GIVEN WITH THE SEED: the statements are not yours to turn. If you find one false, say at which input.
  Laid BY PROGRAM, IN A SANDBOX (cutbox-rows.mjs): the forced cells as the released guide's own fill.sh prints them over the translation 28111d205cf0f295… (all of the seat's roots in one cut). By AI agents, Wed Nov 11 2026. No macro, syntax, notation, axiom, sorry.
-/
import Derived.Test.YtkidjldlkmdocaaChecked
import GoSem.Claim
import GoSem.ClaimJoined
import GoSem.ClaimMapViews
import Derived.JoinedTies
import Derived.KernelRfl
namespace Go.Proofs.Ytkidjldlkmdocaa
/- THE CELL 'sum', in the pinned program and in every row, IS THE sha256 OF THE DUMP (.gsa) THAT YtkidjldlkmdocaaProg.lean LOADS. Nothing in Lean hashes anything: it is a label: what it is worth is what the hold of that sum in a sandbox is worth. -/
noncomputable def Try.pinned : Pinned := { name := "ytkidjldlkmdocaa", sum := "28111d205cf0f295968fa1a02ef50dc6967d8937c8efd5035ab70b120b99aecb", checked := Try.checked }
namespace Rows
def none {H : Type} : Left H := { results := [], args := [] }

/-- 'laws.FnExactConstants': WHATEVER THE INPUT: true; the input reads as it did. -/
def fnExactConstantsSpec : ChangeSpec := { name := "fnExactConstants", fn := fun _ => fun
  | [] => { results := [.lit (.bool true)], args := [] }
  | _ => none }
def fnExactConstantsRow : OpenClaim := { program := "ytkidjldlkmdocaa", sum := "28111d205cf0f295968fa1a02ef50dc6967d8937c8efd5035ab70b120b99aecb", func := "loop.example/g00980/laws.FnExactConstants", spec := "fnExactConstants", apart := false }
def FnExactConstantsSaid : Prop := fnExactConstantsRow.holds Try.pinned (OpenSpec.ofChange fnExactConstantsSpec)

/-- ITS FALSE NEIGHBOUR: 'it returns false'. Refute it at one input. -/
def fnExactConstantsWrong : ChangeSpec := { name := "fnExactConstants", fn := fun _ => fun
  | [] => { results := [.lit (.bool false)], args := [] }
  | _ => none }
def FnExactConstantsWrongFalsely : Prop := fnExactConstantsRow.holds Try.pinned (OpenSpec.ofChange fnExactConstantsWrong)

/-- 'laws.FnExactMonthOk': WHATEVER THE INPUT: true; the input reads as it did. -/
def fnExactMonthOkSpec : ChangeSpec := { name := "fnExactMonthOk", fn := fun _ => fun
  | [d] => { results := [.lit (.bool true)], args := [d] }
  | _ => none }
def fnExactMonthOkRow : OpenClaim := { program := "ytkidjldlkmdocaa", sum := "28111d205cf0f295968fa1a02ef50dc6967d8937c8efd5035ab70b120b99aecb", func := "loop.example/g00980/laws.FnExactMonthOk", spec := "fnExactMonthOk", apart := false }
def FnExactMonthOkSaid : Prop := fnExactMonthOkRow.holds Try.pinned (OpenSpec.ofChange fnExactMonthOkSpec)

/-- ITS FALSE NEIGHBOUR: 'it returns false'. Refute it at one input. -/
def fnExactMonthOkWrong : ChangeSpec := { name := "fnExactMonthOk", fn := fun _ => fun
  | [d] => { results := [.lit (.bool false)], args := [d] }
  | _ => none }
def FnExactMonthOkWrongFalsely : Prop := fnExactMonthOkRow.holds Try.pinned (OpenSpec.ofChange fnExactMonthOkWrong)

/-- 'laws.FnExactClamp': WHATEVER THE INPUT: true; the input reads as it did. -/
def fnExactClampSpec : ChangeSpec := { name := "fnExactClamp", fn := fun _ => fun
  | [d1, d2, d3] => { results := [.lit (.bool true)], args := [d1, d2, d3] }
  | _ => none }
def fnExactClampRow : OpenClaim := { program := "ytkidjldlkmdocaa", sum := "28111d205cf0f295968fa1a02ef50dc6967d8937c8efd5035ab70b120b99aecb", func := "loop.example/g00980/laws.FnExactClamp", spec := "fnExactClamp", apart := false }
def FnExactClampSaid : Prop := fnExactClampRow.holds Try.pinned (OpenSpec.ofChange fnExactClampSpec)

/-- ITS FALSE NEIGHBOUR: 'it returns false'. Refute it at one input. -/
def fnExactClampWrong : ChangeSpec := { name := "fnExactClamp", fn := fun _ => fun
  | [d1, d2, d3] => { results := [.lit (.bool false)], args := [d1, d2, d3] }
  | _ => none }
def FnExactClampWrongFalsely : Prop := fnExactClampRow.holds Try.pinned (OpenSpec.ofChange fnExactClampWrong)

/-- 'laws.FnExactMonthOf': WHATEVER THE INPUT: true; the input reads as it did. -/
def fnExactMonthOfSpec : ChangeSpec := { name := "fnExactMonthOf", fn := fun _ => fun
  | [d1, d2] => { results := [.lit (.bool true)], args := [d1, d2] }
  | _ => none }
def fnExactMonthOfRow : OpenClaim := { program := "ytkidjldlkmdocaa", sum := "28111d205cf0f295968fa1a02ef50dc6967d8937c8efd5035ab70b120b99aecb", func := "loop.example/g00980/laws.FnExactMonthOf", spec := "fnExactMonthOf", apart := false }
def FnExactMonthOfSaid : Prop := fnExactMonthOfRow.holds Try.pinned (OpenSpec.ofChange fnExactMonthOfSpec)

/-- ITS FALSE NEIGHBOUR: 'it returns false'. Refute it at one input. -/
def fnExactMonthOfWrong : ChangeSpec := { name := "fnExactMonthOf", fn := fun _ => fun
  | [d1, d2] => { results := [.lit (.bool false)], args := [d1, d2] }
  | _ => none }
def FnExactMonthOfWrongFalsely : Prop := fnExactMonthOfRow.holds Try.pinned (OpenSpec.ofChange fnExactMonthOfWrong)

/-- 'laws.FnExactFactOk': WHATEVER THE INPUT: true; the input reads as it did. -/
def fnExactFactOkSpec : ChangeSpec := { name := "fnExactFactOk", fn := fun _ => fun
  | [d] => { results := [.lit (.bool true)], args := [d] }
  | _ => none }
def fnExactFactOkRow : OpenClaim := { program := "ytkidjldlkmdocaa", sum := "28111d205cf0f295968fa1a02ef50dc6967d8937c8efd5035ab70b120b99aecb", func := "loop.example/g00980/laws.FnExactFactOk", spec := "fnExactFactOk", apart := false }
def FnExactFactOkSaid : Prop := fnExactFactOkRow.holds Try.pinned (OpenSpec.ofChange fnExactFactOkSpec)

/-- ITS FALSE NEIGHBOUR: 'it returns false'. Refute it at one input. -/
def fnExactFactOkWrong : ChangeSpec := { name := "fnExactFactOk", fn := fun _ => fun
  | [d] => { results := [.lit (.bool false)], args := [d] }
  | _ => none }
def FnExactFactOkWrongFalsely : Prop := fnExactFactOkRow.holds Try.pinned (OpenSpec.ofChange fnExactFactOkWrong)

/-- 'laws.FnExactMonthsIn': WHATEVER THE INPUT: true; the input reads as it did. -/
def fnExactMonthsInSpec : ChangeSpec := { name := "fnExactMonthsIn", fn := fun _ => fun
  | [d1, d2, d3, d4] => { results := [.lit (.bool true)], args := [d1, d2, d3, d4] }
  | _ => none }
def fnExactMonthsInRow : OpenClaim := { program := "ytkidjldlkmdocaa", sum := "28111d205cf0f295968fa1a02ef50dc6967d8937c8efd5035ab70b120b99aecb", func := "loop.example/g00980/laws.FnExactMonthsIn", spec := "fnExactMonthsIn", unfollowed := true, recurses := true, apart := false }
def FnExactMonthsInSaid : Prop := fnExactMonthsInRow.holds Try.pinned (OpenSpec.ofChange fnExactMonthsInSpec)

/-- ITS FALSE NEIGHBOUR: 'it returns false'. Refute it at one input. -/
def fnExactMonthsInWrong : ChangeSpec := { name := "fnExactMonthsIn", fn := fun _ => fun
  | [d1, d2, d3, d4] => { results := [.lit (.bool false)], args := [d1, d2, d3, d4] }
  | _ => none }
def FnExactMonthsInWrongFalsely : Prop := fnExactMonthsInRow.holds Try.pinned (OpenSpec.ofChange fnExactMonthsInWrong)

/-- 'laws.FnExactFracOk': WHATEVER THE INPUT: true; the input reads as it did. -/
def fnExactFracOkSpec : ChangeSpec := { name := "fnExactFracOk", fn := fun _ => fun
  | [d] => { results := [.lit (.bool true)], args := [d] }
  | _ => none }
def fnExactFracOkRow : OpenClaim := { program := "ytkidjldlkmdocaa", sum := "28111d205cf0f295968fa1a02ef50dc6967d8937c8efd5035ab70b120b99aecb", func := "loop.example/g00980/laws.FnExactFracOk", spec := "fnExactFracOk", apart := false }
def FnExactFracOkSaid : Prop := fnExactFracOkRow.holds Try.pinned (OpenSpec.ofChange fnExactFracOkSpec)

/-- ITS FALSE NEIGHBOUR: 'it returns false'. Refute it at one input. -/
def fnExactFracOkWrong : ChangeSpec := { name := "fnExactFracOk", fn := fun _ => fun
  | [d] => { results := [.lit (.bool false)], args := [d] }
  | _ => none }
def FnExactFracOkWrongFalsely : Prop := fnExactFracOkRow.holds Try.pinned (OpenSpec.ofChange fnExactFracOkWrong)

/-- 'laws.FnExactAgeAt': WHATEVER THE INPUT: true; the input reads as it did. -/
def fnExactAgeAtSpec : ChangeSpec := { name := "fnExactAgeAt", fn := fun _ => fun
  | [d1, d2, d3] => { results := [.lit (.bool true)], args := [d1, d2, d3] }
  | _ => none }
def fnExactAgeAtRow : OpenClaim := { program := "ytkidjldlkmdocaa", sum := "28111d205cf0f295968fa1a02ef50dc6967d8937c8efd5035ab70b120b99aecb", func := "loop.example/g00980/laws.FnExactAgeAt", spec := "fnExactAgeAt", apart := false }
def FnExactAgeAtSaid : Prop := fnExactAgeAtRow.holds Try.pinned (OpenSpec.ofChange fnExactAgeAtSpec)

/-- ITS FALSE NEIGHBOUR: 'it returns false'. Refute it at one input. -/
def fnExactAgeAtWrong : ChangeSpec := { name := "fnExactAgeAt", fn := fun _ => fun
  | [d1, d2, d3] => { results := [.lit (.bool false)], args := [d1, d2, d3] }
  | _ => none }
def FnExactAgeAtWrongFalsely : Prop := fnExactAgeAtRow.holds Try.pinned (OpenSpec.ofChange fnExactAgeAtWrong)

/-- 'laws.FnExactSpreadYear': WHATEVER THE INPUT: true; the input reads as it did. -/
def fnExactSpreadYearSpec : ChangeSpec := { name := "fnExactSpreadYear", fn := fun _ => fun
  | [d1, d2] => { results := [.lit (.bool true)], args := [d1, d2] }
  | _ => none }
def fnExactSpreadYearRow : OpenClaim := { program := "ytkidjldlkmdocaa", sum := "28111d205cf0f295968fa1a02ef50dc6967d8937c8efd5035ab70b120b99aecb", func := "loop.example/g00980/laws.FnExactSpreadYear", spec := "fnExactSpreadYear", apart := false }
def FnExactSpreadYearSaid : Prop := fnExactSpreadYearRow.holds Try.pinned (OpenSpec.ofChange fnExactSpreadYearSpec)

/-- ITS FALSE NEIGHBOUR: 'it returns false'. Refute it at one input. -/
def fnExactSpreadYearWrong : ChangeSpec := { name := "fnExactSpreadYear", fn := fun _ => fun
  | [d1, d2] => { results := [.lit (.bool false)], args := [d1, d2] }
  | _ => none }
def FnExactSpreadYearWrongFalsely : Prop := fnExactSpreadYearRow.holds Try.pinned (OpenSpec.ofChange fnExactSpreadYearWrong)

/-- 'laws.FnSpread': WHATEVER THE INPUT: true; the input reads as it did. -/
def fnSpreadSpec : ChangeSpec := { name := "fnSpread", fn := fun _ => fun
  | [d] => { results := [.lit (.bool true)], args := [d] }
  | _ => none }
def fnSpreadRow : OpenClaim := { program := "ytkidjldlkmdocaa", sum := "28111d205cf0f295968fa1a02ef50dc6967d8937c8efd5035ab70b120b99aecb", func := "loop.example/g00980/laws.FnSpread", spec := "fnSpread", apart := false }
def FnSpreadSaid : Prop := fnSpreadRow.holds Try.pinned (OpenSpec.ofChange fnSpreadSpec)

/-- ITS FALSE NEIGHBOUR: 'it returns false'. Refute it at one input. -/
def fnSpreadWrong : ChangeSpec := { name := "fnSpread", fn := fun _ => fun
  | [d] => { results := [.lit (.bool false)], args := [d] }
  | _ => none }
def FnSpreadWrongFalsely : Prop := fnSpreadRow.holds Try.pinned (OpenSpec.ofChange fnSpreadWrong)

/-- 'laws.FnClamped': WHATEVER THE INPUT: true; the input reads as it did. -/
def fnClampedSpec : ChangeSpec := { name := "fnClamped", fn := fun _ => fun
  | [d] => { results := [.lit (.bool true)], args := [d] }
  | _ => none }
def fnClampedRow : OpenClaim := { program := "ytkidjldlkmdocaa", sum := "28111d205cf0f295968fa1a02ef50dc6967d8937c8efd5035ab70b120b99aecb", func := "loop.example/g00980/laws.FnClamped", spec := "fnClamped", apart := false }
def FnClampedSaid : Prop := fnClampedRow.holds Try.pinned (OpenSpec.ofChange fnClampedSpec)

/-- ITS FALSE NEIGHBOUR: 'it returns false'. Refute it at one input. -/
def fnClampedWrong : ChangeSpec := { name := "fnClamped", fn := fun _ => fun
  | [d] => { results := [.lit (.bool false)], args := [d] }
  | _ => none }
def FnClampedWrongFalsely : Prop := fnClampedRow.holds Try.pinned (OpenSpec.ofChange fnClampedWrong)

/-- 'laws.FnAges': WHATEVER THE INPUT: true; the input reads as it did. -/
def fnAgesSpec : ChangeSpec := { name := "fnAges", fn := fun _ => fun
  | [d] => { results := [.lit (.bool true)], args := [d] }
  | _ => none }
def fnAgesRow : OpenClaim := { program := "ytkidjldlkmdocaa", sum := "28111d205cf0f295968fa1a02ef50dc6967d8937c8efd5035ab70b120b99aecb", func := "loop.example/g00980/laws.FnAges", spec := "fnAges", apart := false }
def FnAgesSaid : Prop := fnAgesRow.holds Try.pinned (OpenSpec.ofChange fnAgesSpec)

/-- ITS FALSE NEIGHBOUR: 'it returns false'. Refute it at one input. -/
def fnAgesWrong : ChangeSpec := { name := "fnAges", fn := fun _ => fun
  | [d] => { results := [.lit (.bool false)], args := [d] }
  | _ => none }
def FnAgesWrongFalsely : Prop := fnAgesRow.holds Try.pinned (OpenSpec.ofChange fnAgesWrong)

/- THE SECOND FORM. 'bulk': how many values and letters a reading holds, each counted each time it is reached (what is shared counts as often as it is met; a slice's spare places count too). A statement '..UptoSaid' is the law's where the arguments, and the package variables that the reading takes, are together of bulk at most 1048576: NARROWER than '..Said'. Prove '..Said' where nothing that the law and all that it calls make is longer than what came in: it says more and counts as full. Else prove '..UptoSaid'. A law counts once. -/
mutual
def uptoBulk {H : Type} : DataW H → Nat
  | .lit (.string bytes) => bytes.length + 1
  | .lit _ => 1
  | .nil => 1
  | .ptr d => uptoBulk d + 1
  | .slice elems spare => uptoBulkAll elems + uptoBulkAll spare + 1
  | .agg parts => uptoBulkAll parts + 1
  | .iface _ d => uptoBulk d + 1
  | .map entries => uptoBulkEntries entries + 1
  | .held _ => 1
def uptoBulkAll {H : Type} : List (DataW H) → Nat
  | [] => 0
  | d :: r => uptoBulk d + uptoBulkAll r
def uptoBulkEntries {H : Type} : List (Lit × DataW H) → Nat
  | [] => 0
  | x :: r => uptoBulkEntry x + uptoBulkEntries r
def uptoBulkEntry {H : Type} : Lit × DataW H → Nat
  | (.string bytes, d) => bytes.length + uptoBulk d + 1
  | (_, d) => uptoBulk d + 1
 end
def uptoSmall : (H : Type) → List (DataW H) → Bool := fun _ ds => decide (uptoBulkAll ds ≤ 1048576)
def OpenSpec.upto (s : _root_.Go.ChangeSpec) : _root_.Go.OpenSpec := { _root_.Go.OpenSpec.ofChange s with cond := some uptoSmall }

/-- 'laws.FnExactConstants', WHERE WHAT IT READS IS OF BULK AT MOST 1048576: true; the input reads as it did. -/
def fnExactConstantsUptoRow : OpenClaim := { program := "ytkidjldlkmdocaa", sum := "28111d205cf0f295968fa1a02ef50dc6967d8937c8efd5035ab70b120b99aecb", func := "loop.example/g00980/laws.FnExactConstants", spec := "fnExactConstants", apart := false, narrowed := true }
def FnExactConstantsUptoSaid : Prop := fnExactConstantsUptoRow.holds Try.pinned (OpenSpec.upto fnExactConstantsSpec)

/-- 'laws.FnExactMonthOk', WHERE WHAT IT READS IS OF BULK AT MOST 1048576: true; the input reads as it did. -/
def fnExactMonthOkUptoRow : OpenClaim := { program := "ytkidjldlkmdocaa", sum := "28111d205cf0f295968fa1a02ef50dc6967d8937c8efd5035ab70b120b99aecb", func := "loop.example/g00980/laws.FnExactMonthOk", spec := "fnExactMonthOk", apart := false, narrowed := true }
def FnExactMonthOkUptoSaid : Prop := fnExactMonthOkUptoRow.holds Try.pinned (OpenSpec.upto fnExactMonthOkSpec)

/-- 'laws.FnExactClamp', WHERE WHAT IT READS IS OF BULK AT MOST 1048576: true; the input reads as it did. -/
def fnExactClampUptoRow : OpenClaim := { program := "ytkidjldlkmdocaa", sum := "28111d205cf0f295968fa1a02ef50dc6967d8937c8efd5035ab70b120b99aecb", func := "loop.example/g00980/laws.FnExactClamp", spec := "fnExactClamp", apart := false, narrowed := true }
def FnExactClampUptoSaid : Prop := fnExactClampUptoRow.holds Try.pinned (OpenSpec.upto fnExactClampSpec)

/-- 'laws.FnExactMonthOf', WHERE WHAT IT READS IS OF BULK AT MOST 1048576: true; the input reads as it did. -/
def fnExactMonthOfUptoRow : OpenClaim := { program := "ytkidjldlkmdocaa", sum := "28111d205cf0f295968fa1a02ef50dc6967d8937c8efd5035ab70b120b99aecb", func := "loop.example/g00980/laws.FnExactMonthOf", spec := "fnExactMonthOf", apart := false, narrowed := true }
def FnExactMonthOfUptoSaid : Prop := fnExactMonthOfUptoRow.holds Try.pinned (OpenSpec.upto fnExactMonthOfSpec)

/-- 'laws.FnExactFactOk', WHERE WHAT IT READS IS OF BULK AT MOST 1048576: true; the input reads as it did. -/
def fnExactFactOkUptoRow : OpenClaim := { program := "ytkidjldlkmdocaa", sum := "28111d205cf0f295968fa1a02ef50dc6967d8937c8efd5035ab70b120b99aecb", func := "loop.example/g00980/laws.FnExactFactOk", spec := "fnExactFactOk", apart := false, narrowed := true }
def FnExactFactOkUptoSaid : Prop := fnExactFactOkUptoRow.holds Try.pinned (OpenSpec.upto fnExactFactOkSpec)

/-- 'laws.FnExactMonthsIn', WHERE WHAT IT READS IS OF BULK AT MOST 1048576: true; the input reads as it did. -/
def fnExactMonthsInUptoRow : OpenClaim := { program := "ytkidjldlkmdocaa", sum := "28111d205cf0f295968fa1a02ef50dc6967d8937c8efd5035ab70b120b99aecb", func := "loop.example/g00980/laws.FnExactMonthsIn", spec := "fnExactMonthsIn", unfollowed := true, recurses := true, apart := false, narrowed := true }
def FnExactMonthsInUptoSaid : Prop := fnExactMonthsInUptoRow.holds Try.pinned (OpenSpec.upto fnExactMonthsInSpec)

/-- 'laws.FnExactFracOk', WHERE WHAT IT READS IS OF BULK AT MOST 1048576: true; the input reads as it did. -/
def fnExactFracOkUptoRow : OpenClaim := { program := "ytkidjldlkmdocaa", sum := "28111d205cf0f295968fa1a02ef50dc6967d8937c8efd5035ab70b120b99aecb", func := "loop.example/g00980/laws.FnExactFracOk", spec := "fnExactFracOk", apart := false, narrowed := true }
def FnExactFracOkUptoSaid : Prop := fnExactFracOkUptoRow.holds Try.pinned (OpenSpec.upto fnExactFracOkSpec)

/-- 'laws.FnExactAgeAt', WHERE WHAT IT READS IS OF BULK AT MOST 1048576: true; the input reads as it did. -/
def fnExactAgeAtUptoRow : OpenClaim := { program := "ytkidjldlkmdocaa", sum := "28111d205cf0f295968fa1a02ef50dc6967d8937c8efd5035ab70b120b99aecb", func := "loop.example/g00980/laws.FnExactAgeAt", spec := "fnExactAgeAt", apart := false, narrowed := true }
def FnExactAgeAtUptoSaid : Prop := fnExactAgeAtUptoRow.holds Try.pinned (OpenSpec.upto fnExactAgeAtSpec)

/-- 'laws.FnExactSpreadYear', WHERE WHAT IT READS IS OF BULK AT MOST 1048576: true; the input reads as it did. -/
def fnExactSpreadYearUptoRow : OpenClaim := { program := "ytkidjldlkmdocaa", sum := "28111d205cf0f295968fa1a02ef50dc6967d8937c8efd5035ab70b120b99aecb", func := "loop.example/g00980/laws.FnExactSpreadYear", spec := "fnExactSpreadYear", apart := false, narrowed := true }
def FnExactSpreadYearUptoSaid : Prop := fnExactSpreadYearUptoRow.holds Try.pinned (OpenSpec.upto fnExactSpreadYearSpec)

/-- 'laws.FnSpread', WHERE WHAT IT READS IS OF BULK AT MOST 1048576: true; the input reads as it did. -/
def fnSpreadUptoRow : OpenClaim := { program := "ytkidjldlkmdocaa", sum := "28111d205cf0f295968fa1a02ef50dc6967d8937c8efd5035ab70b120b99aecb", func := "loop.example/g00980/laws.FnSpread", spec := "fnSpread", apart := false, narrowed := true }
def FnSpreadUptoSaid : Prop := fnSpreadUptoRow.holds Try.pinned (OpenSpec.upto fnSpreadSpec)

/-- 'laws.FnClamped', WHERE WHAT IT READS IS OF BULK AT MOST 1048576: true; the input reads as it did. -/
def fnClampedUptoRow : OpenClaim := { program := "ytkidjldlkmdocaa", sum := "28111d205cf0f295968fa1a02ef50dc6967d8937c8efd5035ab70b120b99aecb", func := "loop.example/g00980/laws.FnClamped", spec := "fnClamped", apart := false, narrowed := true }
def FnClampedUptoSaid : Prop := fnClampedUptoRow.holds Try.pinned (OpenSpec.upto fnClampedSpec)

/-- 'laws.FnAges', WHERE WHAT IT READS IS OF BULK AT MOST 1048576: true; the input reads as it did. -/
def fnAgesUptoRow : OpenClaim := { program := "ytkidjldlkmdocaa", sum := "28111d205cf0f295968fa1a02ef50dc6967d8937c8efd5035ab70b120b99aecb", func := "loop.example/g00980/laws.FnAges", spec := "fnAges", apart := false, narrowed := true }
def FnAgesUptoSaid : Prop := fnAgesUptoRow.holds Try.pinned (OpenSpec.upto fnAgesSpec)

end Rows
end Go.Proofs.Ytkidjldlkmdocaa
