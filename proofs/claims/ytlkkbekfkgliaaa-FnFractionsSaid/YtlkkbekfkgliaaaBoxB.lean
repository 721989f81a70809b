/-
  A block of two cells: stores into it, new blocks behind it. Conditions: none.
-/
import Derived.Test.YtlkkbekfkgliaaaBox
namespace Go.Proofs.Ytlkkbekfkgliaaa
open Go.RowKit
set_option linter.unusedVariables false

theorem box2_new (w : World) (x y : Value) (t : TypeId) : Box2 (w.alloc (.cells #[x, y] t)) w.heap.size x y := ⟨by go_simp, by go_simp, by go_simp, by go_simp⟩
theorem box2_alloc {w : World} {b : Nat} {x y : Value} (h : Box2 w b x y) (o : Obj) : Box2 (w.alloc o) b x y := Box2.later ((Below.refl _ _).alloc (Nat.le_refl _) o) h
theorem box2_set {w : World} {b : Nat} {x y : Value} (h : Box2 w b x y) (u v : Value) : Box2 ((w.setCell ⟨b, 0, none⟩ u).setCell ⟨b, 1, none⟩ v) b u v := by
  obtain ⟨h1, h2, h3, h4⟩ := h
  exact ⟨by go_simp, by go_simp, by go_simp, by go_simp⟩
theorem box2_keep {w w' : World} {b : Nat} {x y : Value} {row : Option Nat} (h : Box2 w b x y) (hg : w.grownBy w' row) (hne : some b ≠ row) : Box2 w' b x y := by
  obtain ⟨r0, r1, r2, r3⟩ := h
  have hb := hg.block b (World.block_lt_of_cell? _ _ r0) hne
  exact ⟨(World.cell?_of_block (a := ⟨b, 0, none⟩) hb).trans r0, (World.cell?_of_block (a := ⟨b, 1, none⟩) hb).trans r1, (World.frozen?_of_block (a := ⟨b, 0, none⟩) hb).trans r2, (World.frozen?_of_block (a := ⟨b, 1, none⟩) hb).trans r3⟩
theorem box2_lt {w : World} {b : Nat} {x y : Value} (h : Box2 w b x y) : b < w.heap.size := World.block_lt_of_cell? _ _ h.1

end Go.Proofs.Ytlkkbekfkgliaaa
