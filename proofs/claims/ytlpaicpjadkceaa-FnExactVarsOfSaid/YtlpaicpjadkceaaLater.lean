/-
  A region that draws its order, whose operations only read, whose callees may lay new blocks: one walk in the text's order, over the class of the worlds in which all that lay at the region's start lies unturned (the kit's 'wp_region_quiet' at that class). Conditions: none.
-/
import Derived.Test.YtlpaicpjadkceaaKit
import Derived.BigQuiet
namespace Go.Proofs.Ytlpaicpjadkceaa
open Go.RowKit
set_option linter.unusedVariables false

/-- A world in which all that lay in W lies as it lay. -/
structure Later (W : World) where
  w : World
  h : Below W.heap.size W w

instance (W : World) : Nonempty (Later W) := ⟨⟨W, Below.refl _ _⟩⟩

theorem Later.cell {W : World} {p : Addr} {v : Value} (hc : W.cell? p = some v) (s : Later W) : s.w.cell? p = some v := cell_later s.h hc

theorem wp_region_later {P : Program} {id : Nat} {Q : Exit → Act → World → Prop} {a : Act} {w : World} {l : List Oper} (hm : P.follows .mixedOrders = true) (hB : Region.lexB .any l.toArray = true)
    (h : wpQuiet P l.toArray (fun w' => ∃ s : Later w, w' = s.w) (fun a' => ∀ w', (∃ s : Later w, w' = s.w) → Q .normal a' w') l a) : (Code.region id l.toArray true).wp P Q a w :=
  wp_region_quiet (C := fun w' => ∃ s : Later w, w' = s.w) hm hB ⟨⟨w.drewN 1, andDrewN (Below.refl _ _) 1⟩, rfl⟩ (by simpa using h)

theorem later_of {P : Program} {f : FuncId} {args : Array Value} {W : World} {s : Later W} {v : Value} (h : Calls P f args s.w fun e w' => e = .returned v ∧ Below s.w.heap.size s.w w') :
    Calls P f args s.w fun e w'' => e = .returned v ∧ ∃ s' : Later W, w'' = s'.w :=
  h.mono fun _ w' ⟨he, hb⟩ => ⟨he, ⟨w', andThen s.h hb⟩, rfl⟩
theorem later_same {P : Program} {f : FuncId} {args : Array Value} {W : World} {s : Later W} {v : Value} (h : Calls P f args s.w fun e w' => e = .returned v ∧ s.w = w') :
    Calls P f args s.w fun e w'' => e = .returned v ∧ ∃ s' : Later W, w'' = s'.w :=
  h.mono fun _ w' ⟨he, hb⟩ => ⟨he, s, hb.symm⟩
theorem later_bool {P : Program} {f : FuncId} {args : Array Value} {W : World} {s : Later W} {b c : Bool} (hc : b = c) (h : Calls P f args s.w fun e w' => e = .returned (.bool b) ∧ Below s.w.heap.size s.w w') :
    Calls P f args s.w fun e w'' => e = .returned (.bool c) ∧ ∃ s' : Later W, w'' = s'.w := by subst hc; exact later_of h
theorem later_bool' {P : Program} {f : FuncId} {args : Array Value} {W : World} {s : Later W} {b c : Bool} (hc : b = c) (h : Calls P f args s.w fun e w' => e = .returned (.bool b) ∧ s.w = w') :
    Calls P f args s.w fun e w'' => e = .returned (.bool c) ∧ ∃ s' : Later W, w'' = s'.w := by subst hc; exact later_same h

end Go.Proofs.Ytlpaicpjadkceaa
