/-
  The walks of the laws FnExactFracNew, FnExactFracAdd, FnExactFracSub, FnExactFracMul, FnExactFracDiv. Conditions: none.
-/
import Derived.Test.YtlkkbekfkgliaaaFracCmp
import Derived.Test.YtlkkbekfkgliaaaFracAdd
import Derived.Test.YtlkkbekfkgliaaaFracMul
import Derived.Deep.DeepCutAuto
import Derived.Deep.DrawnRows
namespace Go.Proofs.Ytlkkbekfkgliaaa
open Go.RowKit
set_option linter.unusedVariables false
attribute [local go_sem ↓] Go.wp_at_zero Go.wp_at_succ

theorem Box2.new (w : World) (x y : Value) (t : TypeId) : Box2 (w.alloc (.cells #[x, y] t)) w.heap.size x y := ⟨by go_simp, by go_simp, by go_simp, by go_simp⟩
theorem Box2.drewN {w : World} {b : Nat} {x y : Value} (h : Box2 w b x y) (n : Nat) : Box2 (w.drewN n) b x y := h
theorem Box2.alloc {w : World} {b : Nat} {x y : Value} (h : Box2 w b x y) (o : Obj) : Box2 (w.alloc o) b x y := Box2.later ((Below.refl _ _).alloc (Nat.le_refl _) o) h
theorem Box2.set2 {w : World} {b : Nat} {x y : Value} (h : Box2 w b x y) (u v : Value) : Box2 ((w.setCell ⟨b, 0, none⟩ u).setCell ⟨b, 1, none⟩ v) b u v := by
  obtain ⟨h1, h2, h3, h4⟩ := h
  exact ⟨by go_simp, by go_simp, by go_simp, by go_simp⟩

theorem keep4 {W w1 : World} {p q r t : Addr} {x y u v : Value} (hb : Below W.heap.size W w1) (h : W.cell? p = some x ∧ W.cell? q = some y ∧ W.cell? r = some u ∧ W.cell? t = some v) :
    w1.cell? p = some x ∧ w1.cell? q = some y ∧ w1.cell? r = some u ∧ w1.cell? t = some v := ⟨keep_cell hb h.1, keep_cell hb h.2.1, keep_cell hb h.2.2.1, keep_cell hb h.2.2.2⟩
theorem keep4_alloc {W : World} {p q r t : Addr} {x y u v : Value} {o : Obj} (h : W.cell? p = some x ∧ W.cell? q = some y ∧ W.cell? r = some u ∧ W.cell? t = some v) :
    (W.alloc o).cell? p = some x ∧ (W.alloc o).cell? q = some y ∧ (W.alloc o).cell? r = some u ∧ (W.alloc o).cell? t = some v := keep4 ((Below.refl _ _).alloc (Nat.le_refl _) o) h
theorem re_alloc {W : World} {p : Addr} {o o' : Obj} (h : p.block < W.heap.size) : (W.alloc o').cell? p = (W.alloc o).cell? p := (World.cell?_alloc_lt W o' p h).trans (World.cell?_alloc_lt W o p h).symm
theorem keep4_re {W : World} {p q r t : Addr} {x y u v : Value} {o o' : Obj} (h : (W.alloc o).cell? p = some x ∧ (W.alloc o).cell? q = some y ∧ (W.alloc o).cell? r = some u ∧ (W.alloc o).cell? t = some v) (h1 : p.block < W.heap.size) (h2 : q.block < W.heap.size) (h3 : r.block < W.heap.size) (h4 : t.block < W.heap.size) :
    (W.alloc o').cell? p = some x ∧ (W.alloc o').cell? q = some y ∧ (W.alloc o').cell? r = some u ∧ (W.alloc o').cell? t = some v := ⟨(re_alloc h1).trans h.1, (re_alloc h2).trans h.2.1, (re_alloc h3).trans h.2.2.1, (re_alloc h4).trans h.2.2.2⟩
theorem set2_far {W : World} {g : Nat} {a b : Value} {p : Addr} (h : g ≠ p.block) : ((W.setCell ⟨g, 0, none⟩ a).setCell ⟨g, 1, none⟩ b).cell? p = W.cell? p :=
  (World.cell?_setCell_far _ _ _ _ h).trans (World.cell?_setCell_far _ _ _ _ h)
theorem keep4_set {W : World} {p q r t : Addr} {x y u v a b : Value} {g : Nat} (h : W.cell? p = some x ∧ W.cell? q = some y ∧ W.cell? r = some u ∧ W.cell? t = some v) (h1 : g ≠ p.block) (h2 : g ≠ q.block) (h3 : g ≠ r.block) (h4 : g ≠ t.block) :
    ((W.setCell ⟨g, 0, none⟩ a).setCell ⟨g, 1, none⟩ b).cell? p = some x ∧ ((W.setCell ⟨g, 0, none⟩ a).setCell ⟨g, 1, none⟩ b).cell? q = some y ∧ ((W.setCell ⟨g, 0, none⟩ a).setCell ⟨g, 1, none⟩ b).cell? r = some u ∧ ((W.setCell ⟨g, 0, none⟩ a).setCell ⟨g, 1, none⟩ b).cell? t = some v :=
  ⟨(set2_far h1).trans h.1, (set2_far h2).trans h.2.1, (set2_far h3).trans h.2.2.1, (set2_far h4).trans h.2.2.2⟩

set_option maxHeartbeats 400000 in
theorem eqFrac_c (a b : Int) (w : World) :
    Calls Try.prog 16 #[.agg #[.int .i64 a, .int .i64 b], .agg #[.int .i64 a, .int .i64 b]] w fun e w' => e = .returned (.bool true) ∧ Below w.heap.size w w' := by
  go_enter Try.func16, Try.ntmps16
  go_wp2
  go_ret
  exact ⟨rfl, by go_grown⟩

set_option maxHeartbeats 400000 in
theorem walk_FnExactFracNew (n : Int) {q0 : Prop} (_ : q0) (d : Int) {q1 : Prop} (_ : q1) (w : World) :
    Calls Try.prog 3 #[.int .i64 n, .int .i64 d] w fun e w' => e = .returned (.bool true) ∧ Below w.heap.size w w' := by
  obtain ⟨x, y, o, hx⟩ : ∃ x y o, newF n d = (x, y, o) := ⟨_, _, _, rfl⟩
  have HX := Lib.hid hx
  clear hx
  go_enter Try.func3, Try.ntmps3
  go_wp2_with fail
  refine (specFracNew_c _ _ _).mono ?_
  rintro e w1 ⟨rfl, b1⟩
  rw [HX.out]
  go_wp2_with fail
  refine (implFracNew_c _ _ _).mono ?_
  rintro e w2 ⟨rfl, b2⟩
  rw [HX.out]
  obtain ⟨x20, x21, x22, x23⟩ : Box2 w2 w1.heap.size (.int .i64 x) (.int .i64 y) := Box2.later b2 ⟨by go_simp, by go_simp, by go_simp, by go_simp⟩
  have z2 : w1.heap.size < w2.heap.size := by have := b2.size; simp at this; omega
  go_wp2_with fail
  refine (eqFrac_c _ _ _).mono ?_
  rintro e w3 ⟨rfl, b3⟩
  go_wp2_with fail
  go_ret
  exact ⟨rfl, andThen (andAlloc (andThen (andAlloc (andThen (Below.refl _ _) b1) _) b2) _) b3⟩

end Go.Proofs.Ytlkkbekfkgliaaa
