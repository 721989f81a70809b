/-
  Arguments opened: a slice of structs of integers; a struct that holds one such slice. Conditions: none.
-/
import Derived.Test.YtlpaicpjadkceaaOpen
import Derived.Test.YtlpaicpjadkceaaTab
import Derived.ChangeSame
namespace Go.Proofs.Ytlpaicpjadkceaa
open Go.Joins Go.ChangeShapes Go.WideShapes Go.RowKit Go.Deep
set_option linter.unusedVariables false
section
variable {H : Type} {enc : TypeId × Value → H} {P : Program} {w : World} {base : Nat} {spare : Nat → Bool} {held : Bool}

theorem tab_of_trod {t e I : TypeId} {fs : Array Field} {fuel : Nat} {cs : List Value} {x : DataW H × List MemPlace} (ht : P.underlying t = some (.slice e)) (he : P.underlying e = some (.struct fs)) (hi : P.underlying I = some (.int .i64))
    (hone : oneCellFields P fs = true) (hC : P.cellsOf e = fs.size) (hall' : (decide (0 < fs.size) && fs.all (fun f => f.type == I)) = true) (h : DataW.trod enc P w base spare held fuel t cs = some x) :
    ∃ (A : Option Addr) (len cap : Nat) (F : Nat → Nat → Int), cs = [.slice A len cap] ∧ (Tab fs.size w w.heap.size A len F ∧ len ≤ 9223372036854775807) := by
  obtain ⟨hpos, hall⟩ : 0 < fs.size ∧ fs.all (fun f => f.type == I) = true := by simpa only [Bool.and_eq_true, decide_eq_true_eq] using hall'
  rcases open_slice ht h with ⟨rfl, _⟩ | ⟨a, len, cap, m, n, D, Pl, rfl, hb, hl, hm, hmm, hx, hel⟩
  · exact ⟨none, 0, 0, fun _ _ => 0, rfl, (fun i hi => by omega), by omega⟩
  · have hle : len ≤ m := by rw [hmm]; split <;> omega
    have key : ∀ i j, i < len → j < fs.size → ∃ z : Int, w.cell? (a.add (i * fs.size + j)) = some (.int .i64 z) ∧ I64 z := by
      intro i j hi' hj
      obtain ⟨cs', hc, ht'⟩ := hel i (by omega)
      rw [hC] at hc
      obtain ⟨ys, n', hn', hy, hlen, hyl, hf⟩ := DataW.trod_struct he ht'
      obtain ⟨_, hcl, hat⟩ := World.cells?_some hc
      have hjf : fs[j]? = some fs[j] := Array.getElem?_eq_getElem hj
      obtain ⟨ho, hk⟩ := hone_of hone j fs[j] hjf
      have h1 := hf j fs[j] hjf
      have htI : fs[j].type = I := by
        have := (Array.all_eq_true.1 hall) j hj
        simpa using this
      have hcj : cs'[j]? = some (cs'[j]'(by omega)) := List.getElem?_eq_getElem (by omega)
      have hone' : (cs'.drop j).take 1 = [cs'[j]'(by omega)] := by
        rw [List.drop_eq_getElem_cons (by omega)]
        rfl
      rw [ho, hk, htI, hone'] at h1
      have hyj : ys[j]? = some (ys[j]'(by omega)) := List.getElem?_eq_getElem (by omega)
      rw [hyj] at h1
      obtain ⟨z, e0, _, wf0⟩ := DataW.trod_int hi h1
      simp at e0
      refine ⟨z, ?_, ?_⟩
      · rw [← add_add, hat j hj, hcj, e0]
      · exact bounds_i64 wf0
    refine ⟨some a, len, cap, fun i j => if h : i < len ∧ j < fs.size then (key i j h.1 h.2).choose else 0, rfl, ?_, by unfold maxLen at hm; omega⟩
    intro i hi'
    obtain ⟨b, off, spot⟩ := a
    have hspot : spot = none := by
      have h1 := (key 0 0 (by omega) hpos).choose_spec.1
      simpa [Addr.add] using World.cell?_spot h1
    subst hspot
    have e : ∀ x, (Addr.add ⟨b, off, none⟩ x) = ⟨b, off + x, none⟩ := by
      intro x
      unfold Addr.add
      split
      · rename_i h; subst h; rfl
      · rfl
    have c0 := (key i 0 hi' hpos).choose_spec.1
    have c1 := (congrArg w.cell? (e _)).symm.trans c0
    refine ⟨b, off, rfl, World.block_lt_of_cell? _ _ c1, fun j hj => ?_⟩
    have hsp := (key i j hi' hj).choose_spec
    dsimp only
    rw [dif_pos (And.intro hi' hj)]
    exact ⟨(congrArg w.cell? (e _)).symm.trans hsp.1, hsp.2⟩

theorem open_rows {r : Reach} {b0 : Nat} {t e I : TypeId} {fs : Array Field} {v : Value} {d : DataW H} {p : List MemPlace} (ht : P.underlying t = some (.slice e)) (he : P.underlying e = some (.struct fs)) (hi : P.underlying I = some (.int .i64))
    (hone : oneCellFields P fs = true) (hC : P.cellsOf e = fs.size) (hall : (decide (0 < fs.size) && fs.all (fun f => f.type == I)) = true) (hv : Value.okWide P w r b0 t v) (h : DataW.Trod enc P w base spare held t v d p) :
    ∃ (A : Option Addr) (len cap : Nat) (F : Nat → Nat → Int), v = .slice A len cap ∧ (Tab fs.size w w.heap.size A len F ∧ len ≤ 9223372036854775807) := by
  obtain ⟨A, len, cap, rfl⟩ := okWide_slice ht hv
  obtain ⟨fuel, hf⟩ := h
  obtain ⟨A', len', cap', F, hcs, hT⟩ := tab_of_trod ht he hi hone hC hall hf
  simp [Value.cells] at hcs
  obtain ⟨rfl, rfl, rfl⟩ := hcs
  exact ⟨_, _, _, F, rfl, hT⟩

theorem open_box {r : Reach} {b0 : Nat} {t S e I : TypeId} {f0 : Field} {fs : Array Field} {v : Value} {d : DataW H} {p : List MemPlace} (hs : P.underlying t = some (.struct #[f0])) (ht : P.underlying S = some (.slice e)) (he : P.underlying e = some (.struct fs)) (hi : P.underlying I = some (.int .i64))
    (hone0 : (oneCellFields P #[f0] && P.cellsOf t == 1) = true) (hone : oneCellFields P fs = true) (hC : P.cellsOf e = fs.size) (hall : (decide (0 < fs.size) && fs.all (fun f => f.type == I)) = true) (hv : Value.okWide P w r b0 t v) (h : DataW.Trod enc P w base spare held t v d p)
    (hS : f0.type = S := by rfl) :
    ∃ (A : Option Addr) (len cap : Nat) (F : Nat → Nat → Int), v = .agg #[.slice A len cap] ∧ (Tab fs.size w w.heap.size A len F ∧ len ≤ 9223372036854775807) := by
  obtain ⟨ho, hCt⟩ : oneCellFields P #[f0] = true ∧ P.cellsOf t = 1 := by simpa using hone0
  obtain ⟨cs, rfl, hsz⟩ := okWide_struct hs hv
  obtain ⟨l⟩ := cs
  match l, hsz.trans hCt with
  | [c0], _ =>
    obtain ⟨fuel, hf⟩ := h
    obtain ⟨xs, n, _, hx, _, hlen, hg⟩ := DataW.trod_struct hs hf
    obtain ⟨o0, k0⟩ := hone_of ho 0 f0 rfl
    have g0 := hg 0 f0 rfl
    rw [o0, k0, hS] at g0
    obtain ⟨y0, hy0⟩ : ∃ y, xs[0]? = some y := ⟨_, List.getElem?_eq_getElem (by rw [hlen]; simp)⟩
    rw [hy0] at g0
    obtain ⟨A, len, cap, F, hcs, hT⟩ := tab_of_trod ht he hi hone hC hall g0
    simp [Value.cells] at hcs
    subst hcs
    exact ⟨A, len, cap, F, rfl, hT⟩
end
end Go.Proofs.Ytlpaicpjadkceaa
