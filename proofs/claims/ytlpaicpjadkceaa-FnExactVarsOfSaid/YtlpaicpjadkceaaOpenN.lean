/-
  Arguments opened: a node (four integers and a fraction), a slice of nodes. Conditions: none.
-/
import Derived.Test.YtlpaicpjadkceaaOpenT
namespace Go.Proofs.Ytlpaicpjadkceaa
open Go.Joins Go.ChangeShapes Go.WideShapes Go.RowKit Go.Deep
set_option linter.unusedVariables false
section
variable {H : Type} {enc : TypeId × Value → H} {P : Program} {w : World} {base : Nat} {spare : Nat → Bool} {held : Bool}

theorem node_cells {N FT I : TypeId} {f0 f1 f2 f3 f4 g0 g1 : Field} {fuel : Nat} {cs : List Value} {x : DataW H × List MemPlace} (hs : P.underlying N = some (.struct #[f0, f1, f2, f3, f4])) (hF : P.underlying FT = some (.struct #[g0, g1])) (hi : P.underlying I = some (.int .i64))
    (hone : oneCellFields P #[f0, f1, f2, f3] = true) (honeF : oneCellFields P #[g0, g1] = true) (hC : (P.cellsOf N == 6 && (P.cellsOf FT == 2 && f4.offset == 4)) = true)
    (hT : (f0.type == I && (f1.type == I && (f2.type == I && (f3.type == I && (f4.type == FT && (g0.type == I && g1.type == I)))))) = true) (h : DataW.trod enc P w base spare held fuel N cs = some x) :
    ∃ a b c d n e : Int, cs = [.int .i64 a, .int .i64 b, .int .i64 c, .int .i64 d, .int .i64 n, .int .i64 e] ∧ ((Lit.int .i64 a).wf = true ∧ (Lit.int .i64 b).wf = true ∧ (Lit.int .i64 c).wf = true ∧ (Lit.int .i64 d).wf = true ∧ (Lit.int .i64 n).wf = true ∧ (Lit.int .i64 e).wf = true) := by
  simp only [Bool.and_eq_true, beq_iff_eq] at hC hT
  obtain ⟨hN, hFC, ho4⟩ := hC
  obtain ⟨t0, t1, t2, t3, t4, u0, u1⟩ := hT
  obtain ⟨xs, n, _, hx, hl, hlen, hg⟩ := DataW.trod_struct hs h
  rw [hN] at hl
  match cs, hl with
  | [c0, c1, c2, c3, c4, c5], _ =>
    have one : ∀ (i : Nat) (f : Field) (c : Value), #[f0, f1, f2, f3][i]? = some f → #[f0, f1, f2, f3, f4][i]? = some f → f.type = I → [c0, c1, c2, c3, c4, c5][i]? = some c → ∃ z : Int, c = .int .i64 z ∧ (Lit.int .i64 z).wf = true := by
      intro i f c hf hf' ht hc
      obtain ⟨o, k⟩ := hone_of hone i f hf
      have g := hg i f hf'
      have hlt : i < [c0, c1, c2, c3, c4, c5].length := (List.getElem?_eq_some_iff.1 hc).1
      have he : ([c0, c1, c2, c3, c4, c5].drop i).take 1 = [c] := by
        rw [List.drop_eq_getElem_cons hlt]
        have := (List.getElem?_eq_some_iff.1 hc).2
        rw [this]; rfl
      rw [o, k, ht, he] at g
      have hi5 : i < #[f0, f1, f2, f3, f4].size := (Array.getElem?_eq_some_iff.1 hf').1
      obtain ⟨y, hy⟩ : ∃ y, xs[i]? = some y := ⟨_, List.getElem?_eq_getElem (by rw [hlen]; simpa using hi5)⟩
      rw [hy] at g
      obtain ⟨z, e0, _, wf0⟩ := DataW.trod_int hi g
      simp at e0
      exact ⟨z, e0, wf0⟩
    obtain ⟨a, rfl, wa⟩ := one 0 f0 c0 rfl rfl t0 rfl
    obtain ⟨b, rfl, wb⟩ := one 1 f1 c1 rfl rfl t1 rfl
    obtain ⟨c, rfl, wc⟩ := one 2 f2 c2 rfl rfl t2 rfl
    obtain ⟨d, rfl, wd⟩ := one 3 f3 c3 rfl rfl t3 rfl
    have g := hg 4 f4 rfl
    rw [ho4, t4, hFC] at g
    obtain ⟨y, hy⟩ : ∃ y, xs[4]? = some y := ⟨_, List.getElem?_eq_getElem (by rw [hlen]; simp)⟩
    rw [hy] at g
    simp only [List.drop_succ_cons, List.drop_zero, List.take_succ_cons, List.take_zero] at g
    obtain ⟨ys, n', _, hx', _, hlen', hg'⟩ := DataW.trod_struct hF g
    obtain ⟨p0, k0⟩ := hone_of honeF 0 g0 rfl
    obtain ⟨p1, k1⟩ := hone_of honeF 1 g1 rfl
    have q0 := hg' 0 g0 rfl
    rw [p0, k0, u0] at q0
    obtain ⟨y0, hy0⟩ : ∃ y, ys[0]? = some y := ⟨_, List.getElem?_eq_getElem (by rw [hlen']; simp)⟩
    rw [hy0] at q0
    obtain ⟨n, e0, _, wn⟩ := DataW.trod_int hi q0
    simp at e0
    have q1 := hg' 1 g1 rfl
    rw [p1, k1, u1] at q1
    obtain ⟨y1, hy1⟩ : ∃ y, ys[1]? = some y := ⟨_, List.getElem?_eq_getElem (by rw [hlen']; simp)⟩
    rw [hy1] at q1
    obtain ⟨e, e1, _, we⟩ := DataW.trod_int hi q1
    simp at e1
    subst e0 e1
    exact ⟨a, b, c, d, n, e, rfl, wa, wb, wc, wd, wn, we⟩

theorem open_node {r : Reach} {b0 : Nat} {t FT I : TypeId} {f0 f1 f2 f3 f4 g0 g1 : Field} {v : Value} {d : DataW H} {p : List MemPlace} (hs : P.underlying t = some (.struct #[f0, f1, f2, f3, f4])) (hF : P.underlying FT = some (.struct #[g0, g1])) (hi : P.underlying I = some (.int .i64))
    (hone : oneCellFields P #[f0, f1, f2, f3] = true) (honeF : oneCellFields P #[g0, g1] = true) (hC : (P.cellsOf t == 6 && (P.cellsOf FT == 2 && f4.offset == 4)) = true)
    (hT : (f0.type == I && (f1.type == I && (f2.type == I && (f3.type == I && (f4.type == FT && (g0.type == I && g1.type == I)))))) = true) (hv : Value.okWide P w r b0 t v) (h : DataW.Trod enc P w base spare held t v d p) :
    ∃ a b c d n e : Int, v = .agg #[.int .i64 a, .int .i64 b, .int .i64 c, .int .i64 d, .int .i64 n, .int .i64 e] ∧ ((Lit.int .i64 a).wf = true ∧ (Lit.int .i64 b).wf = true ∧ (Lit.int .i64 c).wf = true ∧ (Lit.int .i64 d).wf = true ∧ (Lit.int .i64 n).wf = true ∧ (Lit.int .i64 e).wf = true) := by
  obtain ⟨cs, rfl, hsz⟩ := okWide_struct hs hv
  obtain ⟨fuel, hf⟩ := h
  obtain ⟨a, b, c, d, n, e, hcs, hw⟩ := node_cells hs hF hi hone honeF hC hT hf
  obtain ⟨l⟩ := cs
  simp [Value.cells] at hcs
  subst hcs
  exact ⟨a, b, c, d, n, e, rfl, hw⟩

theorem open_nodes {r : Reach} {b0 : Nat} {t E FT I : TypeId} {f0 f1 f2 f3 f4 g0 g1 : Field} {v : Value} {d : DataW H} {p : List MemPlace} (ht : P.underlying t = some (.slice E)) (hs : P.underlying E = some (.struct #[f0, f1, f2, f3, f4])) (hF : P.underlying FT = some (.struct #[g0, g1])) (hi : P.underlying I = some (.int .i64))
    (hone : oneCellFields P #[f0, f1, f2, f3] = true) (honeF : oneCellFields P #[g0, g1] = true) (hC : (P.cellsOf E == 6 && (P.cellsOf FT == 2 && f4.offset == 4)) = true)
    (hT : (f0.type == I && (f1.type == I && (f2.type == I && (f3.type == I && (f4.type == FT && (g0.type == I && g1.type == I)))))) = true) (hv : Value.okWide P w r b0 t v) (h : DataW.Trod enc P w base spare held t v d p) :
    ∃ (A : Option Addr) (len cap : Nat) (F : Nat → Nat → Int), v = .slice A len cap ∧ (Tab 6 w w.heap.size A len F ∧ len ≤ 9223372036854775807) := by
  obtain ⟨A, len, cap, rfl⟩ := okWide_slice ht hv
  obtain ⟨fuel, hf⟩ := h
  have hCE : P.cellsOf E = 6 := by
    simp only [Bool.and_eq_true, beq_iff_eq] at hC
    exact hC.1
  rcases open_slice ht hf with ⟨hcs, _⟩ | ⟨a, len', cap', m, n, D, Pl, hcs, hb, hl, hm, hmm, hx, hel⟩
  · simp [Value.cells] at hcs
    obtain ⟨rfl, rfl, rfl⟩ := hcs
    exact ⟨none, 0, 0, fun _ _ => 0, rfl, (fun i hi => by omega), by omega⟩
  · simp [Value.cells] at hcs
    obtain ⟨rfl, rfl, rfl⟩ := hcs
    have hle : len ≤ m := by rw [hmm]; split <;> omega
    have key : ∀ i j, i < len → j < 6 → ∃ z : Int, w.cell? (a.add (i * 6 + j)) = some (.int .i64 z) ∧ I64 z := by
      intro i j hi' hj
      obtain ⟨cs', hc, ht'⟩ := hel i (by omega)
      rw [hCE] at hc
      obtain ⟨a0, a1, a2, a3, a4, a5, rfl, w0, w1, w2, w3, w4, w5⟩ := node_cells hs hF hi hone honeF hC hT ht'
      obtain ⟨_, hcl, hat⟩ := World.cells?_some hc
      have hA := hat j hj
      rcases (show j = 0 ∨ j = 1 ∨ j = 2 ∨ j = 3 ∨ j = 4 ∨ j = 5 by omega) with rfl | rfl | rfl | rfl | rfl | rfl
      · exact ⟨a0, by rw [← add_add, hA]; rfl, bounds_i64 w0⟩
      · exact ⟨a1, by rw [← add_add, hA]; rfl, bounds_i64 w1⟩
      · exact ⟨a2, by rw [← add_add, hA]; rfl, bounds_i64 w2⟩
      · exact ⟨a3, by rw [← add_add, hA]; rfl, bounds_i64 w3⟩
      · exact ⟨a4, by rw [← add_add, hA]; rfl, bounds_i64 w4⟩
      · exact ⟨a5, by rw [← add_add, hA]; rfl, bounds_i64 w5⟩
    refine ⟨some a, len, cap, fun i j => if h : i < len ∧ j < 6 then (key i j h.1 h.2).choose else 0, rfl, ?_, by unfold maxLen at hm; omega⟩
    intro i hi'
    obtain ⟨b, off, spot⟩ := a
    have hspot : spot = none := by
      have h1 := (key 0 0 (by omega) (by omega)).choose_spec.1
      simpa [Addr.add] using World.cell?_spot h1
    subst hspot
    have e : ∀ x, (Addr.add ⟨b, off, none⟩ x) = ⟨b, off + x, none⟩ := by
      intro x
      unfold Addr.add
      split
      · rename_i h; subst h; rfl
      · rfl
    have c0 := (key i 0 hi' (by omega)).choose_spec.1
    have c1 := (congrArg w.cell? (e _)).symm.trans c0
    refine ⟨b, off, rfl, World.block_lt_of_cell? _ _ c1, fun j hj => ?_⟩
    have hsp := (key i j hi' hj).choose_spec
    dsimp only
    rw [dif_pos (And.intro hi' hj)]
    exact ⟨(congrArg w.cell? (e _)).symm.trans hsp.1, hsp.2⟩
end
end Go.Proofs.Ytlpaicpjadkceaa
