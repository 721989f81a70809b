/-
  DrawPlaces returns twelve numbers from 0 to 9999, in a new row. Conditions: the slice of bytes can be read, at most 2000000 of them.
-/
import Derived.Test.YtcibffmhlamcdaaNew
import Derived.Maps.AppendAt
namespace Go.Proofs.Ytcibffmhlamcdaa
open Go.RowKit
set_option linter.unusedVariables false
set_option maxRecDepth 4000

theorem info_int : (Try.prog.info? 3).map (fun i => (i.zero, i.size, i.bytes)) = some (some (.int .i64 0), 1, 8) := by kernel_rfl

/-- A row of integers of the call's own. -/
def OwnInts (w : World) (base : Nat) (v : Value) (zs : List Int) : Prop := w.ownsRow base 3 1 v zs.length (zs.map (Value.int .i64))

theorem OwnInts.below {w w' : World} {base : Nat} {v : Value} {zs : List Int} (h : OwnInts w base v zs) (hb : Below w.heap.size w w') : OwnInts w' base v zs :=
  World.ownsRow.kept h (row := none) ⟨hb.os, hb.tape, hb.output, hb.size, fun i hi _ => hb.block i hi⟩ (by
    rcases v.ownBlock with _ | k
    · exact .inl rfl
    · exact .inr (by simp))
theorem OwnInts.grown {w w' : World} {base : Nat} {v : Value} {zs : List Int} {row : Option Nat} (h : OwnInts w base v zs) (hg : w.grownBy w' row) (hne : v.ownBlock ≠ row ∨ v.ownBlock = none) : OwnInts w' base v zs :=
  World.ownsRow.kept h hg (hne.symm.imp id id)
/-- What the walk wants of an own row that is not empty. -/
theorem OwnInts.form {w : World} {base : Nat} {v : Value} {zs : List Int} (h : OwnInts w base v zs) (hn : 0 < zs.length) :
    ∃ g cap, v = .slice (some ⟨g, 0, none⟩) zs.length cap ∧ base ≤ g ∧ g < w.heap.size ∧ zs.length ≤ cap ∧ ∀ j (hj : j < zs.length), w.cell? ⟨g, j, none⟩ = some (.int .i64 zs[j]) := by
  rcases h.2 with ⟨rfl, h0⟩ | ⟨g, cap, cur, rfl, hb, hh, hc, hm, hs, ht⟩
  · omega
  · refine ⟨g, cap, rfl, hb, ?_, hc, fun j hj => ?_⟩
    · rcases Nat.lt_or_ge g w.heap.size with hlt | hge
      · exact hlt
      · rw [Array.getElem?_eq_none hge] at hh; cases hh
    · have := World.ownsRow.cellAt (g := g) (cap := cap) h j (by omega)
      rw [this]
      simp [List.getElem?_eq_getElem hj]

theorem own_push {w : World} {base : Nat} {v : Value} {zs : List Int} {x : Int} (h : w.ownsRow base 3 1 v (zs.length + 1) (List.map (Value.int IntKind.i64) zs ++ [Value.int IntKind.i64 x])) : OwnInts w base v (zs ++ [x]) := by
  unfold OwnInts
  rw [List.length_append, List.map_append]
  exact h
theorem one_news (w : World) (x : Value) (t : TypeId) : ∀ j u, [x][j]? = some u → (w.alloc (.cells #[x] t)).cell? ((⟨w.heap.size, 0, none⟩ : Addr).add j) = some u := cell_one_new w x t
theorem one_cell (x : Int) : ∀ u ∈ [Value.int .i64 x], u.oneCell' = true := by
  intro u hu; simp at hu; subst hu; rfl


end Go.Proofs.Ytcibffmhlamcdaa
