/-
  No cell of these rows narrows 'for every input' (looked for: loops, veiled, ifaces, maps, wideKeys, modest, calm, conditions, laid).
  DERIVED. THE GIVEN ROWS OF THIS SEAT. 11 by the template 'for every input the law returns true; each argument reads behind the call as it read before'; 0 by the template 'total and deterministic' (their statements: YtlkkbekfkgliaaaTotals.lean).
  GIVEN WITH THE SEED: the statements are not yours to turn. If you find one false, say at which input.
  Laid BY PROGRAM, IN A SANDBOX (cutbox-rows.mjs): the forced cells as the released guide's own fill.sh prints them over the translation f3dc47512814d76a… (all of the seat's roots in one cut). By AI agents, Wed Nov 11 2026. No macro, syntax, notation, axiom, sorry.
-/
import Derived.Test.YtlkkbekfkgliaaaChecked
import GoSem.Claim
import GoSem.ClaimJoined
import GoSem.ClaimMapViews
import Derived.JoinedTies
import Derived.KernelRfl
namespace Go.Proofs.Ytlkkbekfkgliaaa
/- THE CELL 'sum', in the pinned program and in every row, IS THE sha256 OF THE DUMP (.gsa) THAT YtlkkbekfkgliaaaProg.lean LOADS. Nothing in Lean hashes anything: it is a label: what it is worth is what the hold of that sum in a sandbox is worth. -/
noncomputable def Try.pinned : Pinned := { name := "ytlkkbekfkgliaaa", sum := "f3dc47512814d76a333e57e809209965df8c523bfb678abbfcf2ba2fa397fd5a", checked := Try.checked }
namespace Rows
def none {H : Type} : Left H := { results := [], args := [] }

/-- 'laws.FnExactFracNew': WHATEVER THE INPUT: true; the input reads as it did. -/
def fnExactFracNewSpec : ChangeSpec := { name := "fnExactFracNew", fn := fun _ => fun
  | [d1, d2] => { results := [.lit (.bool true)], args := [d1, d2] }
  | _ => none }
def fnExactFracNewRow : OpenClaim := { program := "ytlkkbekfkgliaaa", sum := "f3dc47512814d76a333e57e809209965df8c523bfb678abbfcf2ba2fa397fd5a", func := "loop.example/g00980/laws.FnExactFracNew", spec := "fnExactFracNew", apart := false }
def FnExactFracNewSaid : Prop := fnExactFracNewRow.holds Try.pinned (OpenSpec.ofChange fnExactFracNewSpec)

/-- ITS FALSE NEIGHBOUR: 'it returns false'. Refute it at one input. -/
def fnExactFracNewWrong : ChangeSpec := { name := "fnExactFracNew", fn := fun _ => fun
  | [d1, d2] => { results := [.lit (.bool false)], args := [d1, d2] }
  | _ => none }
def FnExactFracNewWrongFalsely : Prop := fnExactFracNewRow.holds Try.pinned (OpenSpec.ofChange fnExactFracNewWrong)

/-- 'laws.FnExactFloorFrac': WHATEVER THE INPUT: true; the input reads as it did. -/
def fnExactFloorFracSpec : ChangeSpec := { name := "fnExactFloorFrac", fn := fun _ => fun
  | [d] => { results := [.lit (.bool true)], args := [d] }
  | _ => none }
def fnExactFloorFracRow : OpenClaim := { program := "ytlkkbekfkgliaaa", sum := "f3dc47512814d76a333e57e809209965df8c523bfb678abbfcf2ba2fa397fd5a", func := "loop.example/g00980/laws.FnExactFloorFrac", spec := "fnExactFloorFrac", apart := false }
def FnExactFloorFracSaid : Prop := fnExactFloorFracRow.holds Try.pinned (OpenSpec.ofChange fnExactFloorFracSpec)

/-- ITS FALSE NEIGHBOUR: 'it returns false'. Refute it at one input. -/
def fnExactFloorFracWrong : ChangeSpec := { name := "fnExactFloorFrac", fn := fun _ => fun
  | [d] => { results := [.lit (.bool false)], args := [d] }
  | _ => none }
def FnExactFloorFracWrongFalsely : Prop := fnExactFloorFracRow.holds Try.pinned (OpenSpec.ofChange fnExactFloorFracWrong)

/-- 'laws.FnExactFracCmp': WHATEVER THE INPUT: true; the input reads as it did. -/
def fnExactFracCmpSpec : ChangeSpec := { name := "fnExactFracCmp", fn := fun _ => fun
  | [d1, d2] => { results := [.lit (.bool true)], args := [d1, d2] }
  | _ => none }
def fnExactFracCmpRow : OpenClaim := { program := "ytlkkbekfkgliaaa", sum := "f3dc47512814d76a333e57e809209965df8c523bfb678abbfcf2ba2fa397fd5a", func := "loop.example/g00980/laws.FnExactFracCmp", spec := "fnExactFracCmp", apart := false }
def FnExactFracCmpSaid : Prop := fnExactFracCmpRow.holds Try.pinned (OpenSpec.ofChange fnExactFracCmpSpec)

/-- ITS FALSE NEIGHBOUR: 'it returns false'. Refute it at one input. -/
def fnExactFracCmpWrong : ChangeSpec := { name := "fnExactFracCmp", fn := fun _ => fun
  | [d1, d2] => { results := [.lit (.bool false)], args := [d1, d2] }
  | _ => none }
def FnExactFracCmpWrongFalsely : Prop := fnExactFracCmpRow.holds Try.pinned (OpenSpec.ofChange fnExactFracCmpWrong)

/-- 'laws.FnExactFracAdd': WHATEVER THE INPUT: true; the input reads as it did. -/
def fnExactFracAddSpec : ChangeSpec := { name := "fnExactFracAdd", fn := fun _ => fun
  | [d1, d2] => { results := [.lit (.bool true)], args := [d1, d2] }
  | _ => none }
def fnExactFracAddRow : OpenClaim := { program := "ytlkkbekfkgliaaa", sum := "f3dc47512814d76a333e57e809209965df8c523bfb678abbfcf2ba2fa397fd5a", func := "loop.example/g00980/laws.FnExactFracAdd", spec := "fnExactFracAdd", apart := false }
def FnExactFracAddSaid : Prop := fnExactFracAddRow.holds Try.pinned (OpenSpec.ofChange fnExactFracAddSpec)

/-- ITS FALSE NEIGHBOUR: 'it returns false'. Refute it at one input. -/
def fnExactFracAddWrong : ChangeSpec := { name := "fnExactFracAdd", fn := fun _ => fun
  | [d1, d2] => { results := [.lit (.bool false)], args := [d1, d2] }
  | _ => none }
def FnExactFracAddWrongFalsely : Prop := fnExactFracAddRow.holds Try.pinned (OpenSpec.ofChange fnExactFracAddWrong)

/-- 'laws.FnExactFracSub': WHATEVER THE INPUT: true; the input reads as it did. -/
def fnExactFracSubSpec : ChangeSpec := { name := "fnExactFracSub", fn := fun _ => fun
  | [d1, d2] => { results := [.lit (.bool true)], args := [d1, d2] }
  | _ => none }
def fnExactFracSubRow : OpenClaim := { program := "ytlkkbekfkgliaaa", sum := "f3dc47512814d76a333e57e809209965df8c523bfb678abbfcf2ba2fa397fd5a", func := "loop.example/g00980/laws.FnExactFracSub", spec := "fnExactFracSub", apart := false }
def FnExactFracSubSaid : Prop := fnExactFracSubRow.holds Try.pinned (OpenSpec.ofChange fnExactFracSubSpec)

/-- ITS FALSE NEIGHBOUR: 'it returns false'. Refute it at one input. -/
def fnExactFracSubWrong : ChangeSpec := { name := "fnExactFracSub", fn := fun _ => fun
  | [d1, d2] => { results := [.lit (.bool false)], args := [d1, d2] }
  | _ => none }
def FnExactFracSubWrongFalsely : Prop := fnExactFracSubRow.holds Try.pinned (OpenSpec.ofChange fnExactFracSubWrong)

/-- 'laws.FnExactFracDiv': WHATEVER THE INPUT: true; the input reads as it did. -/
def fnExactFracDivSpec : ChangeSpec := { name := "fnExactFracDiv", fn := fun _ => fun
  | [d1, d2] => { results := [.lit (.bool true)], args := [d1, d2] }
  | _ => none }
def fnExactFracDivRow : OpenClaim := { program := "ytlkkbekfkgliaaa", sum := "f3dc47512814d76a333e57e809209965df8c523bfb678abbfcf2ba2fa397fd5a", func := "loop.example/g00980/laws.FnExactFracDiv", spec := "fnExactFracDiv", apart := false }
def FnExactFracDivSaid : Prop := fnExactFracDivRow.holds Try.pinned (OpenSpec.ofChange fnExactFracDivSpec)

/-- ITS FALSE NEIGHBOUR: 'it returns false'. Refute it at one input. -/
def fnExactFracDivWrong : ChangeSpec := { name := "fnExactFracDiv", fn := fun _ => fun
  | [d1, d2] => { results := [.lit (.bool false)], args := [d1, d2] }
  | _ => none }
def FnExactFracDivWrongFalsely : Prop := fnExactFracDivRow.holds Try.pinned (OpenSpec.ofChange fnExactFracDivWrong)

/-- 'laws.FnExactFracMul': WHATEVER THE INPUT: true; the input reads as it did. -/
def fnExactFracMulSpec : ChangeSpec := { name := "fnExactFracMul", fn := fun _ => fun
  | [d1, d2] => { results := [.lit (.bool true)], args := [d1, d2] }
  | _ => none }
def fnExactFracMulRow : OpenClaim := { program := "ytlkkbekfkgliaaa", sum := "f3dc47512814d76a333e57e809209965df8c523bfb678abbfcf2ba2fa397fd5a", func := "loop.example/g00980/laws.FnExactFracMul", spec := "fnExactFracMul", apart := false }
def FnExactFracMulSaid : Prop := fnExactFracMulRow.holds Try.pinned (OpenSpec.ofChange fnExactFracMulSpec)

/-- ITS FALSE NEIGHBOUR: 'it returns false'. Refute it at one input. -/
def fnExactFracMulWrong : ChangeSpec := { name := "fnExactFracMul", fn := fun _ => fun
  | [d1, d2] => { results := [.lit (.bool false)], args := [d1, d2] }
  | _ => none }
def FnExactFracMulWrongFalsely : Prop := fnExactFracMulRow.holds Try.pinned (OpenSpec.ofChange fnExactFracMulWrong)

/-- 'laws.FnExactRoundFrac': WHATEVER THE INPUT: true; the input reads as it did. -/
def fnExactRoundFracSpec : ChangeSpec := { name := "fnExactRoundFrac", fn := fun _ => fun
  | [d1, d2] => { results := [.lit (.bool true)], args := [d1, d2] }
  | _ => none }
def fnExactRoundFracRow : OpenClaim := { program := "ytlkkbekfkgliaaa", sum := "f3dc47512814d76a333e57e809209965df8c523bfb678abbfcf2ba2fa397fd5a", func := "loop.example/g00980/laws.FnExactRoundFrac", spec := "fnExactRoundFrac", apart := false }
def FnExactRoundFracSaid : Prop := fnExactRoundFracRow.holds Try.pinned (OpenSpec.ofChange fnExactRoundFracSpec)

/-- ITS FALSE NEIGHBOUR: 'it returns false'. Refute it at one input. -/
def fnExactRoundFracWrong : ChangeSpec := { name := "fnExactRoundFrac", fn := fun _ => fun
  | [d1, d2] => { results := [.lit (.bool false)], args := [d1, d2] }
  | _ => none }
def FnExactRoundFracWrongFalsely : Prop := fnExactRoundFracRow.holds Try.pinned (OpenSpec.ofChange fnExactRoundFracWrong)

/-- 'laws.FnRounded': WHATEVER THE INPUT: true; the input reads as it did. -/
def fnRoundedSpec : ChangeSpec := { name := "fnRounded", fn := fun _ => fun
  | [d] => { results := [.lit (.bool true)], args := [d] }
  | _ => none }
def fnRoundedRow : OpenClaim := { program := "ytlkkbekfkgliaaa", sum := "f3dc47512814d76a333e57e809209965df8c523bfb678abbfcf2ba2fa397fd5a", func := "loop.example/g00980/laws.FnRounded", spec := "fnRounded", apart := false }
def FnRoundedSaid : Prop := fnRoundedRow.holds Try.pinned (OpenSpec.ofChange fnRoundedSpec)

/-- ITS FALSE NEIGHBOUR: 'it returns false'. Refute it at one input. -/
def fnRoundedWrong : ChangeSpec := { name := "fnRounded", fn := fun _ => fun
  | [d] => { results := [.lit (.bool false)], args := [d] }
  | _ => none }
def FnRoundedWrongFalsely : Prop := fnRoundedRow.holds Try.pinned (OpenSpec.ofChange fnRoundedWrong)

/-- 'laws.FnOrder': WHATEVER THE INPUT: true; the input reads as it did. -/
def fnOrderSpec : ChangeSpec := { name := "fnOrder", fn := fun _ => fun
  | [d] => { results := [.lit (.bool true)], args := [d] }
  | _ => none }
def fnOrderRow : OpenClaim := { program := "ytlkkbekfkgliaaa", sum := "f3dc47512814d76a333e57e809209965df8c523bfb678abbfcf2ba2fa397fd5a", func := "loop.example/g00980/laws.FnOrder", spec := "fnOrder", apart := false }
def FnOrderSaid : Prop := fnOrderRow.holds Try.pinned (OpenSpec.ofChange fnOrderSpec)

/-- ITS FALSE NEIGHBOUR: 'it returns false'. Refute it at one input. -/
def fnOrderWrong : ChangeSpec := { name := "fnOrder", fn := fun _ => fun
  | [d] => { results := [.lit (.bool false)], args := [d] }
  | _ => none }
def FnOrderWrongFalsely : Prop := fnOrderRow.holds Try.pinned (OpenSpec.ofChange fnOrderWrong)

/-- 'laws.FnFractions': WHATEVER THE INPUT: true; the input reads as it did. -/
def fnFractionsSpec : ChangeSpec := { name := "fnFractions", fn := fun _ => fun
  | [d] => { results := [.lit (.bool true)], args := [d] }
  | _ => none }
def fnFractionsRow : OpenClaim := { program := "ytlkkbekfkgliaaa", sum := "f3dc47512814d76a333e57e809209965df8c523bfb678abbfcf2ba2fa397fd5a", func := "loop.example/g00980/laws.FnFractions", spec := "fnFractions", apart := false }
def FnFractionsSaid : Prop := fnFractionsRow.holds Try.pinned (OpenSpec.ofChange fnFractionsSpec)

/-- ITS FALSE NEIGHBOUR: 'it returns false'. Refute it at one input. -/
def fnFractionsWrong : ChangeSpec := { name := "fnFractions", fn := fun _ => fun
  | [d] => { results := [.lit (.bool false)], args := [d] }
  | _ => none }
def FnFractionsWrongFalsely : Prop := fnFractionsRow.holds Try.pinned (OpenSpec.ofChange fnFractionsWrong)

/- THE SECOND FORM. 'bulk': how many values and letters a reading holds, each counted each time it is reached (what is shared counts as often as it is met; a slice's spare places count too). A statement '..UptoSaid' is the law's where the arguments, and the package variables that the reading takes, are together of bulk at most 1048576: NARROWER than '..Said'. Prove '..Said' where nothing that the law and all that it calls make is longer than what came in: it says more and counts as full. Else prove '..UptoSaid'. A law counts once. -/
mutual
def uptoBulk {H : Type} : DataW H → Nat
  | .lit (.string bytes) => bytes.length + 1
  | .lit _ => 1
  | .nil => 1
  | .ptr d => uptoBulk d + 1
  | .slice elems spare => uptoBulkAll elems + uptoBulkAll spare + 1
  | .agg parts => uptoBulkAll parts + 1
  | .iface _ d => uptoBulk d + 1
  | .map entries => uptoBulkEntries entries + 1
  | .held _ => 1
def uptoBulkAll {H : Type} : List (DataW H) → Nat
  | [] => 0
  | d :: r => uptoBulk d + uptoBulkAll r
def uptoBulkEntries {H : Type} : List (Lit × DataW H) → Nat
  | [] => 0
  | x :: r => uptoBulkEntry x + uptoBulkEntries r
def uptoBulkEntry {H : Type} : Lit × DataW H → Nat
  | (.string bytes, d) => bytes.length + uptoBulk d + 1
  | (_, d) => uptoBulk d + 1
 end
def uptoSmall : (H : Type) → List (DataW H) → Bool := fun _ ds => decide (uptoBulkAll ds ≤ 1048576)
def OpenSpec.upto (s : _root_.Go.ChangeSpec) : _root_.Go.OpenSpec := { _root_.Go.OpenSpec.ofChange s with cond := some uptoSmall }

/-- 'laws.FnExactFracNew', WHERE WHAT IT READS IS OF BULK AT MOST 1048576: true; the input reads as it did. -/
def fnExactFracNewUptoRow : OpenClaim := { program := "ytlkkbekfkgliaaa", sum := "f3dc47512814d76a333e57e809209965df8c523bfb678abbfcf2ba2fa397fd5a", func := "loop.example/g00980/laws.FnExactFracNew", spec := "fnExactFracNew", apart := false, narrowed := true }
def FnExactFracNewUptoSaid : Prop := fnExactFracNewUptoRow.holds Try.pinned (OpenSpec.upto fnExactFracNewSpec)

/-- 'laws.FnExactFloorFrac', WHERE WHAT IT READS IS OF BULK AT MOST 1048576: true; the input reads as it did. -/
def fnExactFloorFracUptoRow : OpenClaim := { program := "ytlkkbekfkgliaaa", sum := "f3dc47512814d76a333e57e809209965df8c523bfb678abbfcf2ba2fa397fd5a", func := "loop.example/g00980/laws.FnExactFloorFrac", spec := "fnExactFloorFrac", apart := false, narrowed := true }
def FnExactFloorFracUptoSaid : Prop := fnExactFloorFracUptoRow.holds Try.pinned (OpenSpec.upto fnExactFloorFracSpec)

/-- 'laws.FnExactFracCmp', WHERE WHAT IT READS IS OF BULK AT MOST 1048576: true; the input reads as it did. -/
def fnExactFracCmpUptoRow : OpenClaim := { program := "ytlkkbekfkgliaaa", sum := "f3dc47512814d76a333e57e809209965df8c523bfb678abbfcf2ba2fa397fd5a", func := "loop.example/g00980/laws.FnExactFracCmp", spec := "fnExactFracCmp", apart := false, narrowed := true }
def FnExactFracCmpUptoSaid : Prop := fnExactFracCmpUptoRow.holds Try.pinned (OpenSpec.upto fnExactFracCmpSpec)

/-- 'laws.FnExactFracAdd', WHERE WHAT IT READS IS OF BULK AT MOST 1048576: true; the input reads as it did. -/
def fnExactFracAddUptoRow : OpenClaim := { program := "ytlkkbekfkgliaaa", sum := "f3dc47512814d76a333e57e809209965df8c523bfb678abbfcf2ba2fa397fd5a", func := "loop.example/g00980/laws.FnExactFracAdd", spec := "fnExactFracAdd", apart := false, narrowed := true }
def FnExactFracAddUptoSaid : Prop := fnExactFracAddUptoRow.holds Try.pinned (OpenSpec.upto fnExactFracAddSpec)

/-- 'laws.FnExactFracSub', WHERE WHAT IT READS IS OF BULK AT MOST 1048576: true; the input reads as it did. -/
def fnExactFracSubUptoRow : OpenClaim := { program := "ytlkkbekfkgliaaa", sum := "f3dc47512814d76a333e57e809209965df8c523bfb678abbfcf2ba2fa397fd5a", func := "loop.example/g00980/laws.FnExactFracSub", spec := "fnExactFracSub", apart := false, narrowed := true }
def FnExactFracSubUptoSaid : Prop := fnExactFracSubUptoRow.holds Try.pinned (OpenSpec.upto fnExactFracSubSpec)

/-- 'laws.FnExactFracDiv', WHERE WHAT IT READS IS OF BULK AT MOST 1048576: true; the input reads as it did. -/
def fnExactFracDivUptoRow : OpenClaim := { program := "ytlkkbekfkgliaaa", sum := "f3dc47512814d76a333e57e809209965df8c523bfb678abbfcf2ba2fa397fd5a", func := "loop.example/g00980/laws.FnExactFracDiv", spec := "fnExactFracDiv", apart := false, narrowed := true }
def FnExactFracDivUptoSaid : Prop := fnExactFracDivUptoRow.holds Try.pinned (OpenSpec.upto fnExactFracDivSpec)

/-- 'laws.FnExactFracMul', WHERE WHAT IT READS IS OF BULK AT MOST 1048576: true; the input reads as it did. -/
def fnExactFracMulUptoRow : OpenClaim := { program := "ytlkkbekfkgliaaa", sum := "f3dc47512814d76a333e57e809209965df8c523bfb678abbfcf2ba2fa397fd5a", func := "loop.example/g00980/laws.FnExactFracMul", spec := "fnExactFracMul", apart := false, narrowed := true }
def FnExactFracMulUptoSaid : Prop := fnExactFracMulUptoRow.holds Try.pinned (OpenSpec.upto fnExactFracMulSpec)

/-- 'laws.FnExactRoundFrac', WHERE WHAT IT READS IS OF BULK AT MOST 1048576: true; the input reads as it did. -/
def fnExactRoundFracUptoRow : OpenClaim := { program := "ytlkkbekfkgliaaa", sum := "f3dc47512814d76a333e57e809209965df8c523bfb678abbfcf2ba2fa397fd5a", func := "loop.example/g00980/laws.FnExactRoundFrac", spec := "fnExactRoundFrac", apart := false, narrowed := true }
def FnExactRoundFracUptoSaid : Prop := fnExactRoundFracUptoRow.holds Try.pinned (OpenSpec.upto fnExactRoundFracSpec)

/-- 'laws.FnRounded', WHERE WHAT IT READS IS OF BULK AT MOST 1048576: true; the input reads as it did. -/
def fnRoundedUptoRow : OpenClaim := { program := "ytlkkbekfkgliaaa", sum := "f3dc47512814d76a333e57e809209965df8c523bfb678abbfcf2ba2fa397fd5a", func := "loop.example/g00980/laws.FnRounded", spec := "fnRounded", apart := false, narrowed := true }
def FnRoundedUptoSaid : Prop := fnRoundedUptoRow.holds Try.pinned (OpenSpec.upto fnRoundedSpec)

/-- 'laws.FnOrder', WHERE WHAT IT READS IS OF BULK AT MOST 1048576: true; the input reads as it did. -/
def fnOrderUptoRow : OpenClaim := { program := "ytlkkbekfkgliaaa", sum := "f3dc47512814d76a333e57e809209965df8c523bfb678abbfcf2ba2fa397fd5a", func := "loop.example/g00980/laws.FnOrder", spec := "fnOrder", apart := false, narrowed := true }
def FnOrderUptoSaid : Prop := fnOrderUptoRow.holds Try.pinned (OpenSpec.upto fnOrderSpec)

/-- 'laws.FnFractions', WHERE WHAT IT READS IS OF BULK AT MOST 1048576: true; the input reads as it did. -/
def fnFractionsUptoRow : OpenClaim := { program := "ytlkkbekfkgliaaa", sum := "f3dc47512814d76a333e57e809209965df8c523bfb678abbfcf2ba2fa397fd5a", func := "loop.example/g00980/laws.FnFractions", spec := "fnFractions", apart := false, narrowed := true }
def FnFractionsUptoSaid : Prop := fnFractionsUptoRow.holds Try.pinned (OpenSpec.upto fnFractionsSpec)

end Rows
end Go.Proofs.Ytlkkbekfkgliaaa
