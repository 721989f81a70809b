/-
  Arguments opened: structs of two, three, five integers by value. Conditions: none.
-/
import Derived.Test.YtlpaicpjadkceaaKit
import Derived.ProofKit
import Derived.OpenShut
import Derived.Deep.Slices
import Derived.Lib.SmallJoins
namespace Go.Proofs.Ytlpaicpjadkceaa
open Go.Joins Go.ChangeShapes Go.WideShapes Go.RowKit Go.Deep
set_option linter.unusedVariables false
section
variable {H : Type} {enc : TypeId × Value → H} {P : Program} {w : World} {base : Nat} {spare : Nat → Bool} {held : Bool}

theorem open_ints2 {r : Reach} {b0 : Nat} {t I : TypeId} {f0 f1 : Field} {v : Value} {d : DataW H} {p : List MemPlace} (hs : P.underlying t = some (.struct #[f0, f1])) (hi : P.underlying I = some (.int .i64)) (hone : oneCellFields P #[f0, f1] = true) (hC : P.cellsOf t = 2)
    (hv : Value.okWide P w r b0 t v) (h : DataW.Trod enc P w base spare held t v d p) (ht : f0.type = I ∧ f1.type = I := by exact ⟨rfl, rfl⟩) :
    ∃ a0 a1 : Int, v = .agg #[.int .i64 a0, .int .i64 a1] ∧ ((Lit.int .i64 a0).wf = true ∧ (Lit.int .i64 a1).wf = true) := by
  obtain ⟨cs, rfl, hsz⟩ := okWide_struct hs hv
  obtain ⟨l⟩ := cs
  match l, hsz.trans hC with
  | [c0, c1], _ =>
    obtain ⟨fuel, hf⟩ := h
    obtain ⟨xs, n, _, hx, _, hlen, hg⟩ := DataW.trod_struct hs hf
    obtain ⟨o0, k0⟩ := hone_of hone 0 f0 rfl
    obtain ⟨o1, k1⟩ := hone_of hone 1 f1 rfl
    obtain ⟨t0, t1⟩ := ht
    have g0 := hg 0 f0 rfl
    rw [o0, k0, t0] at g0
    obtain ⟨y0, hy0⟩ : ∃ y, xs[0]? = some y := ⟨_, List.getElem?_eq_getElem (by rw [hlen]; simp)⟩
    rw [hy0] at g0
    obtain ⟨a0, e0, _, wf0⟩ := DataW.trod_int hi g0
    simp [Value.cells] at e0
    have g1 := hg 1 f1 rfl
    rw [o1, k1, t1] at g1
    obtain ⟨y1, hy1⟩ : ∃ y, xs[1]? = some y := ⟨_, List.getElem?_eq_getElem (by rw [hlen]; simp)⟩
    rw [hy1] at g1
    obtain ⟨a1, e1, _, wf1⟩ := DataW.trod_int hi g1
    simp [Value.cells] at e1
    subst e0 e1
    exact ⟨a0, a1, rfl, wf0, wf1⟩

theorem open_ints3 {r : Reach} {b0 : Nat} {t I : TypeId} {f0 f1 f2 : Field} {v : Value} {d : DataW H} {p : List MemPlace} (hs : P.underlying t = some (.struct #[f0, f1, f2])) (hi : P.underlying I = some (.int .i64)) (hone : oneCellFields P #[f0, f1, f2] = true) (hC : P.cellsOf t = 3)
    (hv : Value.okWide P w r b0 t v) (h : DataW.Trod enc P w base spare held t v d p) (ht : f0.type = I ∧ f1.type = I ∧ f2.type = I := by exact ⟨rfl, rfl, rfl⟩) :
    ∃ a0 a1 a2 : Int, v = .agg #[.int .i64 a0, .int .i64 a1, .int .i64 a2] ∧ ((Lit.int .i64 a0).wf = true ∧ (Lit.int .i64 a1).wf = true ∧ (Lit.int .i64 a2).wf = true) := by
  obtain ⟨cs, rfl, hsz⟩ := okWide_struct hs hv
  obtain ⟨l⟩ := cs
  match l, hsz.trans hC with
  | [c0, c1, c2], _ =>
    obtain ⟨fuel, hf⟩ := h
    obtain ⟨xs, n, _, hx, _, hlen, hg⟩ := DataW.trod_struct hs hf
    obtain ⟨o0, k0⟩ := hone_of hone 0 f0 rfl
    obtain ⟨o1, k1⟩ := hone_of hone 1 f1 rfl
    obtain ⟨o2, k2⟩ := hone_of hone 2 f2 rfl
    obtain ⟨t0, t1, t2⟩ := ht
    have g0 := hg 0 f0 rfl
    rw [o0, k0, t0] at g0
    obtain ⟨y0, hy0⟩ : ∃ y, xs[0]? = some y := ⟨_, List.getElem?_eq_getElem (by rw [hlen]; simp)⟩
    rw [hy0] at g0
    obtain ⟨a0, e0, _, wf0⟩ := DataW.trod_int hi g0
    simp [Value.cells] at e0
    have g1 := hg 1 f1 rfl
    rw [o1, k1, t1] at g1
    obtain ⟨y1, hy1⟩ : ∃ y, xs[1]? = some y := ⟨_, List.getElem?_eq_getElem (by rw [hlen]; simp)⟩
    rw [hy1] at g1
    obtain ⟨a1, e1, _, wf1⟩ := DataW.trod_int hi g1
    simp [Value.cells] at e1
    have g2 := hg 2 f2 rfl
    rw [o2, k2, t2] at g2
    obtain ⟨y2, hy2⟩ : ∃ y, xs[2]? = some y := ⟨_, List.getElem?_eq_getElem (by rw [hlen]; simp)⟩
    rw [hy2] at g2
    obtain ⟨a2, e2, _, wf2⟩ := DataW.trod_int hi g2
    simp [Value.cells] at e2
    subst e0 e1 e2
    exact ⟨a0, a1, a2, rfl, wf0, wf1, wf2⟩

theorem open_ints5 {r : Reach} {b0 : Nat} {t I : TypeId} {f0 f1 f2 f3 f4 : Field} {v : Value} {d : DataW H} {p : List MemPlace} (hs : P.underlying t = some (.struct #[f0, f1, f2, f3, f4])) (hi : P.underlying I = some (.int .i64)) (hone : oneCellFields P #[f0, f1, f2, f3, f4] = true) (hC : P.cellsOf t = 5)
    (hv : Value.okWide P w r b0 t v) (h : DataW.Trod enc P w base spare held t v d p) (ht : f0.type = I ∧ f1.type = I ∧ f2.type = I ∧ f3.type = I ∧ f4.type = I := by exact ⟨rfl, rfl, rfl, rfl, rfl⟩) :
    ∃ a0 a1 a2 a3 a4 : Int, v = .agg #[.int .i64 a0, .int .i64 a1, .int .i64 a2, .int .i64 a3, .int .i64 a4] ∧ ((Lit.int .i64 a0).wf = true ∧ (Lit.int .i64 a1).wf = true ∧ (Lit.int .i64 a2).wf = true ∧ (Lit.int .i64 a3).wf = true ∧ (Lit.int .i64 a4).wf = true) := by
  obtain ⟨cs, rfl, hsz⟩ := okWide_struct hs hv
  obtain ⟨l⟩ := cs
  match l, hsz.trans hC with
  | [c0, c1, c2, c3, c4], _ =>
    obtain ⟨fuel, hf⟩ := h
    obtain ⟨xs, n, _, hx, _, hlen, hg⟩ := DataW.trod_struct hs hf
    obtain ⟨o0, k0⟩ := hone_of hone 0 f0 rfl
    obtain ⟨o1, k1⟩ := hone_of hone 1 f1 rfl
    obtain ⟨o2, k2⟩ := hone_of hone 2 f2 rfl
    obtain ⟨o3, k3⟩ := hone_of hone 3 f3 rfl
    obtain ⟨o4, k4⟩ := hone_of hone 4 f4 rfl
    obtain ⟨t0, t1, t2, t3, t4⟩ := ht
    have g0 := hg 0 f0 rfl
    rw [o0, k0, t0] at g0
    obtain ⟨y0, hy0⟩ : ∃ y, xs[0]? = some y := ⟨_, List.getElem?_eq_getElem (by rw [hlen]; simp)⟩
    rw [hy0] at g0
    obtain ⟨a0, e0, _, wf0⟩ := DataW.trod_int hi g0
    simp [Value.cells] at e0
    have g1 := hg 1 f1 rfl
    rw [o1, k1, t1] at g1
    obtain ⟨y1, hy1⟩ : ∃ y, xs[1]? = some y := ⟨_, List.getElem?_eq_getElem (by rw [hlen]; simp)⟩
    rw [hy1] at g1
    obtain ⟨a1, e1, _, wf1⟩ := DataW.trod_int hi g1
    simp [Value.cells] at e1
    have g2 := hg 2 f2 rfl
    rw [o2, k2, t2] at g2
    obtain ⟨y2, hy2⟩ : ∃ y, xs[2]? = some y := ⟨_, List.getElem?_eq_getElem (by rw [hlen]; simp)⟩
    rw [hy2] at g2
    obtain ⟨a2, e2, _, wf2⟩ := DataW.trod_int hi g2
    simp [Value.cells] at e2
    have g3 := hg 3 f3 rfl
    rw [o3, k3, t3] at g3
    obtain ⟨y3, hy3⟩ : ∃ y, xs[3]? = some y := ⟨_, List.getElem?_eq_getElem (by rw [hlen]; simp)⟩
    rw [hy3] at g3
    obtain ⟨a3, e3, _, wf3⟩ := DataW.trod_int hi g3
    simp [Value.cells] at e3
    have g4 := hg 4 f4 rfl
    rw [o4, k4, t4] at g4
    obtain ⟨y4, hy4⟩ : ∃ y, xs[4]? = some y := ⟨_, List.getElem?_eq_getElem (by rw [hlen]; simp)⟩
    rw [hy4] at g4
    obtain ⟨a4, e4, _, wf4⟩ := DataW.trod_int hi g4
    simp [Value.cells] at e4
    subst e0 e1 e2 e3 e4
    exact ⟨a0, a1, a2, a3, a4, rfl, wf0, wf1, wf2, wf3, wf4⟩

end
end Go.Proofs.Ytlpaicpjadkceaa
