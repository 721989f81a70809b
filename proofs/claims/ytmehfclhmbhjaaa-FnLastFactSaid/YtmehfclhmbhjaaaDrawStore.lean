/-
  DrawStore returns a valid store of at most nine facts, in a new row. Conditions: the slice of bytes can be read, at most 2000000 of them.
-/
import Derived.Test.YtmehfclhmbhjaaaStoreOk
import Derived.Test.YtmehfclhmbhjaaaNew
import Derived.Test.YtmehfclhmbhjaaaFactMark
import Derived.Deep.RegionHeld3
import Derived.Deep.RegionLaw
namespace Go.Proofs.Ytmehfclhmbhjaaa
open Go.RowKit
set_option linter.unusedVariables false
set_option maxRecDepth 4000

theorem only_grew {a w w' : World} {B base : Nat} {v : Value} (h : a.grownBy w (some B)) (g : Grew w w' base v) (hb : a.heap.size ≤ base) : a.grownBy w' (some B) := by
  obtain ⟨row, h1, h2⟩ := g
  refine ⟨h1.os.trans h.os, h1.tape.trans h.tape, h1.output.trans h.output, Nat.le_trans h.size h1.size, fun i hi hne => (h1.block i (Nat.lt_of_lt_of_le hi h.size) (fun e => ?_)).trans (h.block i hi hne)⟩
  have := (h2 i e.symm).1
  omega

/-- A drawn fact. -/
def factD (x0 x1 x2 x4 : Int) : Prop := 1 ≤ x0 ∧ x0 ≤ 4 ∧ 0 ≤ x1 ∧ x1 ≤ 59 ∧ x1 < x2 ∧ x2 ≤ 100 ∧ 0 ≤ x4 ∧ x4 ≤ 49900
def FactDrawn (kn : Int) (base B : Nat) (w : World) (e : Ending) (w' : World) : Prop :=
  ∃ x0 x1 x2 x4 : Int, factD x0 x1 x2 x4 ∧ e = .returned (.agg #[.int .i64 x0, .int .i64 x1, .int .i64 x2, .int .i64 kn, .int .i64 x4]) ∧ Cur w' base B ∧ w.grownBy w' (some B)

set_option maxHeartbeats 2000000 in
theorem l05Fact_c (kn : Int) (base B : Nat) (w : World) (hc : Cur w base B) : Calls Try.prog 83 #[.pointer (some ⟨B, 0, none⟩), .int .i64 kn] w (FactDrawn kn base B w) := by
  have hB := hc.lt
  have R0 : Blk (w.alloc (.cells #[.int .i64 0, .int .i64 0, .int .i64 0, .int .i64 0, .int .i64 0] 54)) w.heap.size 54 #[.int .i64 0, .int .i64 0, .int .i64 0, .int .i64 0, .int .i64 0] := Blk.new _ _ _
  have g0 := only_alloc (only_refl w (some B)) (.cells #[.int .i64 0, .int .i64 0, .int .i64 0, .int .i64 0, .int .i64 0] 54)
  have hc0 := hc.below ((Below.refl _ _).alloc (Nat.le_refl _) (.cells #[.int .i64 0, .int .i64 0, .int .i64 0, .int .i64 0, .int .i64 0] 54))
  have hne : some w.heap.size ≠ some B := fun e => by injection e with e; omega
  clear hc
  go_enter Try.func83, Try.ntmps83
  go_wp2_with fail
  generalize w.alloc (.cells #[.int .i64 0, .int .i64 0, .int .i64 0, .int .i64 0, .int .i64 0] 54) = W0 at R0 g0 hc0 ⊢
  refine (l01Below_c base B 60 _ hc0 (by omega)).mono ?_
  rintro e w1 ⟨y1, ⟨p1, p2⟩, rfl, c1, h1⟩
  have R1 := R0.grown h1 hne
  have g1 := only_trans g0 h1
  clear R0 g0 h1 hc0
  go_wp2_with fail
  refine (l01Below_c base B 4 _ c1 (by omega)).mono ?_
  rintro e w2 ⟨y0, ⟨p3, p4⟩, rfl, c2, h2⟩
  have R2 := R1.grown h2 hne
  have g2 := only_trans g1 h2
  clear R1 g1 h2 c1
  go_wp2_with fail
  refine (l01Below_c base B 40 _ c2 (by omega)).mono ?_
  rintro e w3 ⟨y2, ⟨p5, p6⟩, rfl, c3, h3⟩
  have R3 := R2.grown h3 hne
  have g3 := only_trans g2 h3
  clear R2 g2 h3 c2
  go_wp2_with fail
  refine (l01Below_c base B 500 _ c3 (by omega)).mono ?_
  rintro e w4 ⟨y4, ⟨p7, p8⟩, rfl, c4, h4⟩
  have R4 := R3.grown h4 hne
  have g4 := only_trans g3 h4
  have hz := R4.lt
  have e0 : w4.cell? ⟨w.heap.size, 0, none⟩ = some (.int .i64 0) := R4.cell 0
  have e1 : w4.cell? ⟨w.heap.size, 1, none⟩ = some (.int .i64 0) := R4.cell 1
  have e2 : w4.cell? ⟨w.heap.size, 2, none⟩ = some (.int .i64 0) := R4.cell 2
  have e3 : w4.cell? ⟨w.heap.size, 3, none⟩ = some (.int .i64 0) := R4.cell 3
  have e4 : w4.cell? ⟨w.heap.size, 4, none⟩ = some (.int .i64 0) := R4.cell 4
  have f0 := R4.frozen 0
  have f1 := R4.frozen 1
  have f2 := R4.frozen 2
  have f3 := R4.frozen 3
  have f4 := R4.frozen 4
  have HC := Lib.hid (And.intro c4 g4)
  clear R3 g3 h4 c3 R4 c4 g4
  go_wp2_with fail
  refine bodyPost_ret (v := .agg #[.int .i64 (1 + y0), .int .i64 y1, .int .i64 (y1 + 1 + y2), .int .i64 kn, .int .i64 (y4 * 100)]) (by simp [results, Try.results83, go_sem, e0, e1, e2, e3, e4]) rfl ?_
  obtain ⟨c4, g4⟩ := HC.out
  have gs := only_setCell (p := ⟨w.heap.size, 4, none⟩) (only_setCell (p := ⟨w.heap.size, 3, none⟩) (only_setCell (p := ⟨w.heap.size, 2, none⟩) (only_setCell (p := ⟨w.heap.size, 1, none⟩) (only_setCell (p := ⟨w.heap.size, 0, none⟩) g4 (Or.inr (Nat.le_refl _)) (.int .i64 (1 + y0))) (Or.inr (Nat.le_refl _)) (.int .i64 y1)) (Or.inr (Nat.le_refl _)) (.int .i64 (y1 + 1 + y2))) (Or.inr (Nat.le_refl _)) (.int .i64 kn)) (Or.inr (Nat.le_refl _)) (.int .i64 (y4 * 100))
  refine ⟨_, _, _, _, ⟨by omega, by omega, by omega, by omega, by omega, by omega, by omega, by omega⟩, rfl, ?_, gs⟩
  have hle := c4.le
  have hg := only_setCell (p := ⟨w.heap.size, 4, none⟩) (g := w.heap.size) (only_setCell (p := ⟨w.heap.size, 3, none⟩) (only_setCell (p := ⟨w.heap.size, 2, none⟩) (only_setCell (p := ⟨w.heap.size, 1, none⟩) (only_setCell (p := ⟨w.heap.size, 0, none⟩) (only_refl w4 (some w.heap.size)) (Or.inl rfl) (.int .i64 (1 + y0))) (Or.inl rfl) (.int .i64 y1)) (Or.inl rfl) (.int .i64 (y1 + 1 + y2))) (Or.inl rfl) (.int .i64 kn)) (Or.inl rfl) (.int .i64 (y4 * 100))
  exact c4.grown hg hne (fun k e => by cases e; omega)

/-- The facts drawn so far; kn: the last one's time of knowledge, or more. -/
def drawnF (F : Nat → Nat → Int) (n : Nat) (kn : Int) : Prop := ∀ i, i < n → factD (F i 0) (F i 1) (F i 2) (F i 4) ∧ 0 ≤ F i 3 ∧ F i 3 ≤ kn ∧ ∀ j, j < i → F j 3 ≤ F i 3
theorem drawnF_add {F : Nat → Nat → Int} {n : Nat} {kn kn' x0 x1 x2 x4 : Int} (h : drawnF F n kn) (hk : kn ≤ kn') (h0 : 0 ≤ kn') (hx : factD x0 x1 x2 x4) : drawnF (addRow F n fun j => if j = 0 then x0 else if j = 1 then x1 else if j = 2 then x2 else if j = 3 then kn' else x4) (n + 1) kn' := by
  intro i hi
  rcases Nat.lt_or_ge i n with hlt | hge
  · obtain ⟨a, b, c, d⟩ := h i hlt
    rw [addRow_old hlt, addRow_old hlt, addRow_old hlt, addRow_old hlt, addRow_old hlt]
    exact ⟨a, b, by omega, fun j hj => by rw [addRow_old (by omega)]; exact d j hj⟩
  · obtain rfl : i = n := by omega
    simp only [addRow_new]
    refine ⟨hx, h0, Int.le_refl _, fun j hj => ?_⟩
    rw [addRow_old hj]
    have := (h j hj).2.2.1
    simp only [show ¬ ((3 : Nat) = 0) by omega, show ¬ ((3 : Nat) = 1) by omega, show ¬ ((3 : Nat) = 2) by omega, if_false, if_true]
    omega
theorem storeB_drawn {F : Nat → Nat → Int} {n : Nat} {kn : Int} (h : drawnF F n kn) (hn : n ≤ 200) (hk : kn ≤ 3599) : storeB n F = true := by
  rw [storeB_yes]
  · exact decide_eq_true hn
  · intro i hi
    obtain ⟨⟨a1, a2, a3, a4, a5, a6, a7, a8⟩, b, c, d⟩ := h i hi
    have h1 : factB (F i 0) (F i 1) (F i 2) (F i 3) (F i 4) = true := by
      unfold factB isSpanB
      rw [inB_true a1 (by omega), inB_true b (by omega), inB_true (by omega) (by omega), decide_eq_true (show 0 ≤ F i 1 ∧ F i 1 < F i 2 ∧ F i 2 ≤ 3600 from ⟨a3, a5, by omega⟩)]
      rfl
    unfold stB
    rw [h1]
    rcases i with _ | i
    · rfl
    · have := d i (by omega)
      have h2 : decide (F (i + 1) 3 < F (i + 1 - 1) 3) = false := decide_eq_false (by simp only [Nat.add_sub_cancel]; omega)
      rw [h2]
      simp

/-- What the draw of a store leaves. -/
def StoreDrawn (base B : Nat) (w : World) (e : Ending) (w' : World) : Prop :=
  ∃ (A : Option Addr) (n c : Nat) (F : Nat → Nat → Int), n ≤ 9 ∧ drawnF F n 108 ∧ e = .returned (.agg #[.slice A n c]) ∧ OwnV 5 54 w' w.heap.size (.slice A n c) n F ∧ Cur w' base B ∧ w.grownBy w' (some B)

theorem drawnF_more {F : Nat → Nat → Int} {n : Nat} {kn kn' : Int} (h : drawnF F n kn) (hk : kn ≤ kn') : drawnF F n kn' := fun i hi => by
  obtain ⟨a, b, c, d⟩ := h i hi
  exact ⟨a, b, by omega, d⟩

theorem Cur.grew {w w' : World} {base B base' : Nat} {v : Value} (h : Cur w base B) (g : Grew w w' base' v) (hb : B < base') : Cur w' base B :=
  h.keep (g.block h.lt hb) (g.below (Below.refl _ _) (by have := h.le; omega) (by have := h.le; have := h.lt; omega))
theorem Cur.set {w : World} {base B : Nat} (h : Cur w base B) {g : Nat} (hp : B < g) (i : Nat) (u : Value) : Cur (w.setCell ⟨g, i, none⟩ u) base B :=
  h.keep (Below.heap_setCell w ⟨g, i, none⟩ u B (by show B ≠ g; omega)) ((Below.refl base w).setCell (by have := h.le; show base ≤ g; omega) u)
/-- A drawn fact's numbers fit. -/
theorem fact_in {kn y x0 x1 x2 x4 : Int} {n : Nat} (h : factD x0 x1 x2 x4) (hk : 0 ≤ kn ∧ kn ≤ 9 + 11 * (n : Int) ∧ 0 ≤ y ∧ y < 12) (hn : n ≤ 8) : I64 x0 ∧ I64 x1 ∧ I64 x2 ∧ I64 (kn + y) ∧ I64 x4 := by
  obtain ⟨a1, a2, a3, a4, a5, a6, a7, a8⟩ := h
  obtain ⟨b1, b2, b3, b4⟩ := hk
  refine ⟨⟨?_, ?_⟩, ⟨?_, ?_⟩, ⟨?_, ?_⟩, ⟨?_, ?_⟩, ⟨?_, ?_⟩⟩ <;> omega
theorem fact_news (w : World) (n : Nat) (F : Nat → Nat → Int) {x0 x1 x2 x3 x4 : Int} (h : I64 x0 ∧ I64 x1 ∧ I64 x2 ∧ I64 x3 ∧ I64 x4) :
    NewsT 5 (w.alloc (.cells #[.int .i64 x0, .int .i64 x1, .int .i64 x2, .int .i64 x3, .int .i64 x4] 54)) (some ⟨w.heap.size, 0, none⟩) 1 n (addRow F n fun j => if j = 0 then x0 else if j = 1 then x1 else if j = 2 then x2 else if j = 3 then x3 else x4) :=
  news_one [.int .i64 x0, .int .i64 x1, .int .i64 x2, .int .i64 x3, .int .i64 x4] (heap_alloc_new w _) rfl fun j hj => by
    rw [addRow_new]
    rcases (show j = 0 ∨ j = 1 ∨ j = 2 ∨ j = 3 ∨ j = 4 by omega) with rfl | rfl | rfl | rfl | rfl
    · exact ⟨rfl, h.1⟩
    · exact ⟨rfl, h.2.1⟩
    · exact ⟨rfl, h.2.2.1⟩
    · exact ⟨rfl, h.2.2.2.1⟩
    · exact ⟨rfl, h.2.2.2.2⟩

theorem store_step {w W w5 : World} {B n c : Nat} {A : Option Addr} {F : Nat → Nat → Int} {kn y x0 x1 x2 x4 : Int} (hx : factD x0 x1 x2 x4) (hk : 0 ≤ kn ∧ kn ≤ 9 + 11 * (n : Int) ∧ 0 ≤ y ∧ y < 12) (hn : n ≤ 8)
    (hO : Blk W (w.heap.size + 1) 38 #[.slice A n c]) (hV : OwnV 5 54 W (w.heap.size + 1 + 1) (.slice A n c) n F) (h5 : W.grownBy w5 (some B)) (hB : B < w.heap.size) (hb : w.heap.size + 1 + 1 ≤ W.heap.size) :
    OwnV 5 54 (w5.alloc (.cells #[.int .i64 x0, .int .i64 x1, .int .i64 x2, .int .i64 (kn + y), .int .i64 x4] 54)) (w.heap.size + 1 + 1) (.slice A n c) n (addRow F n fun j => if j = 0 then x0 else if j = 1 then x1 else if j = 2 then x2 else if j = 3 then kn + y else x4) ∧
    NewsT 5 (w5.alloc (.cells #[.int .i64 x0, .int .i64 x1, .int .i64 x2, .int .i64 (kn + y), .int .i64 x4] 54)) (some ⟨w5.heap.size, 0, none⟩) 1 n (addRow F n fun j => if j = 0 then x0 else if j = 1 then x1 else if j = 2 then x2 else if j = 3 then kn + y else x4) ∧
    n + 1 ≤ maxLen ∧ (n + 1) * 40 ≤ 140737488355328 ∧ w.heap.size + 1 + 1 ≤ (w5.alloc (.cells #[.int .i64 x0, .int .i64 x1, .int .i64 x2, .int .i64 (kn + y), .int .i64 x4] 54)).heap.size ∧
    (w5.alloc (.cells #[.int .i64 x0, .int .i64 x1, .int .i64 x2, .int .i64 (kn + y), .int .i64 x4] 54)).cell? ⟨w.heap.size + 1, 0, none⟩ = some (.slice A n c) ∧
    w.heap.size + 1 < (w5.alloc (.cells #[.int .i64 x0, .int .i64 x1, .int .i64 x2, .int .i64 (kn + y), .int .i64 x4] 54)).heap.size ∧
    (w5.alloc (.cells #[.int .i64 x0, .int .i64 x1, .int .i64 x2, .int .i64 (kn + y), .int .i64 x4] 54)).frozen? ⟨w.heap.size + 1, 0, none⟩ = false := by
  have R5 := (hO.grown h5 (fun e => by injection e with e; omega)).alloc (.cells #[.int .i64 x0, .int .i64 x1, .int .i64 x2, .int .i64 (kn + y), .int .i64 x4] 54)
  have V5 := (hV.grown h5 (fun j e => by cases e; omega)).addRow (fun j => if j = 0 then x0 else if j = 1 then x1 else if j = 2 then x2 else if j = 3 then kn + y else x4)
  have hs := h5.size
  refine ⟨V5.alloc _, fact_news w5 n F (fact_in hx hk hn), by unfold maxLen; omega, by omega, ?_, R5.cell 0, R5.lt, R5.frozen 0⟩
  rw [World.size_alloc]
  omega

theorem store_end {w W w5 w6 : World} {base B n c c2 : Nat} {A A2 : Option Addr} {F : Nat → Nat → Int} {kn y x0 x1 x2 x4 : Int} (hB : B < w.heap.size) (hb : w.heap.size + 1 + 1 ≤ W.heap.size) (hx : factD x0 x1 x2 x4) (hk : 0 ≤ kn ∧ kn ≤ 9 + 11 * (n : Int) ∧ 0 ≤ y ∧ y < 12) (hn : n ≤ 8) (hd : drawnF F n kn)
    (hR : Blk W w.heap.size 38 #[.slice none 0 0]) (hO : Blk W (w.heap.size + 1) 38 #[.slice A n c]) (c5 : Cur w5 base B) (h5 : W.grownBy w5 (some B)) (g4 : w.grownBy W (some B))
    (hV : OwnV 5 54 w6 (w.heap.size + 1 + 1) (.slice A2 (n + 1) c2) (n + 1) (addRow F n fun j => if j = 0 then x0 else if j = 1 then x1 else if j = 2 then x2 else if j = 3 then kn + y else x4))
    (hg : Grew (w5.alloc (.cells #[.int .i64 x0, .int .i64 x1, .int .i64 x2, .int .i64 (kn + y), .int .i64 x4] 54)) w6 (w.heap.size + 1 + 1) (.slice A n c)) :
    0 ≤ kn + y ∧ kn + y ≤ 9 + 11 * ((n + 1 : Nat) : Int) ∧ drawnF (addRow F n fun j => if j = 0 then x0 else if j = 1 then x1 else if j = 2 then x2 else if j = 3 then kn + y else x4) (n + 1) (kn + y) ∧
      Blk (w6.setCell ⟨w.heap.size + 1, 0, none⟩ (.slice A2 (n + 1) c2)) w.heap.size 38 #[.slice none 0 0] ∧ Blk (w6.setCell ⟨w.heap.size + 1, 0, none⟩ (.slice A2 (n + 1) c2)) (w.heap.size + 1) 38 #[.slice A2 (n + 1) c2] ∧
      OwnV 5 54 (w6.setCell ⟨w.heap.size + 1, 0, none⟩ (.slice A2 (n + 1) c2)) (w.heap.size + 1 + 1) (.slice A2 (n + 1) c2) (n + 1) (addRow F n fun j => if j = 0 then x0 else if j = 1 then x1 else if j = 2 then x2 else if j = 3 then kn + y else x4) ∧
      Cur (w6.setCell ⟨w.heap.size + 1, 0, none⟩ (.slice A2 (n + 1) c2)) base B ∧ w.grownBy (w6.setCell ⟨w.heap.size + 1, 0, none⟩ (.slice A2 (n + 1) c2)) (some B) := by
  have R5 := (hR.grown h5 (fun e => by injection e with e; omega)).alloc (.cells #[.int .i64 x0, .int .i64 x1, .int .i64 x2, .int .i64 (kn + y), .int .i64 x4] 54)
  have O5 := (hO.grown h5 (fun e => by injection e with e; omega)).alloc (.cells #[.int .i64 x0, .int .i64 x1, .int .i64 x2, .int .i64 (kn + y), .int .i64 x4] 54)
  have C5 := c5.below ((Below.refl _ _).alloc (Nat.le_refl _) (.cells #[.int .i64 x0, .int .i64 x1, .int .i64 x2, .int .i64 (kn + y), .int .i64 x4] 54))
  have G5 := only_alloc (only_trans g4 h5) (.cells #[.int .i64 x0, .int .i64 x1, .int .i64 x2, .int .i64 (kn + y), .int .i64 x4] 54)
  have R6 : Blk w6 w.heap.size 38 #[.slice none 0 0] := (hg.block R5.lt (by omega)).trans R5
  have O6 : Blk w6 (w.heap.size + 1) 38 #[.slice A n c] := (hg.block O5.lt (by omega)).trans O5
  refine ⟨by omega, by push_cast; omega, drawnF_add hd (by omega) (by omega) hx, R6.far (by show w.heap.size ≠ w.heap.size + 1; omega) _, ?_, hV.set (by show w.heap.size + 1 < _; omega) _, (C5.grew hg (by omega)).set (by omega) 0 _, only_setCell (only_grew G5 hg (by omega)) (Or.inr (by show w.heap.size ≤ w.heap.size + 1; omega)) _⟩
  have := O6.set_ 0 (.slice A2 (n + 1) c2)
  simpa using this

set_option maxHeartbeats 4000000 in
theorem l05Store_c (base B : Nat) (w : World) (hc : Cur w base B) : Calls Try.prog 76 #[.pointer (some ⟨B, 0, none⟩)] w (StoreDrawn base B w) := by
  obtain ⟨i0, hi, hz0, hz1, hz2⟩ := info_parts info_Fact
  have hB := hc.lt
  have R0 : Blk ((w.alloc (.cells #[.slice none 0 0] 38)).alloc (.cells #[.slice none 0 0] 38)) w.heap.size 38 #[.slice none 0 0] := (Blk.new _ _ _).alloc _
  have O0 : Blk ((w.alloc (.cells #[.slice none 0 0] 38)).alloc (.cells #[.slice none 0 0] 38)) (w.heap.size + 1) 38 #[.slice none 0 0] := by
    have := Blk.new (w.alloc (.cells #[.slice none 0 0] 38)) 38 #[.slice none 0 0]
    rw [World.size_alloc] at this
    exact this
  have g0 := only_alloc (only_alloc (only_refl w (some B)) (.cells #[.slice none 0 0] 38)) (.cells #[.slice none 0 0] 38)
  have hc0 := (hc.below ((Below.refl _ _).alloc (Nat.le_refl _) (.cells #[.slice none 0 0] 38))).below ((Below.refl _ _).alloc (Nat.le_refl _) (.cells #[.slice none 0 0] 38))
  have hne : some w.heap.size ≠ some B := fun e => by injection e with e; omega
  have hne1 : some (w.heap.size + 1) ≠ some B := fun e => by injection e with e; omega
  have hs0 : ((w.alloc (.cells #[.slice none 0 0] 38)).alloc (.cells #[.slice none 0 0] 38)).heap.size = w.heap.size + 1 + 1 := by simp
  have HS0 := Lib.hid hs0
  have HB := Lib.hid hB
  clear hc hs0
  go_enter Try.func76, Try.ntmps76
  go_wp2_with fail
  generalize (w.alloc (.cells #[.slice none 0 0] 38)).alloc (.cells #[.slice none 0 0] 38) = W0 at R0 O0 g0 hc0 HS0 ⊢
  refine (l01Below_c base B 10 _ hc0 (by omega)).mono ?_
  rintro e w1 ⟨y1, ⟨p1, p2⟩, rfl, c1, h1⟩
  have R1 := R0.grown h1 hne
  have O1 := O0.grown h1 hne1
  have g1 := only_trans g0 h1
  have z1 := h1.size
  clear R0 O0 g0 h1 hc0
  go_wp2_with fail
  go_loopw [4, 5] (fun kv i wr => ∃ (n : Nat) (kn : Int) (A : Option Addr) (c : Nat) (F : Nat → Nat → Int), n ≤ 9 ∧ i = .int .i64 n ∧ kv = .int .i64 kn ∧ 0 ≤ kn ∧ kn ≤ 9 + 11 * (n : Int) ∧ drawnF F n kn ∧
      Blk wr w.heap.size 38 #[.slice none 0 0] ∧ Blk wr (w.heap.size + 1) 38 #[.slice A n c] ∧ OwnV 5 54 wr (w.heap.size + 1 + 1) (.slice A n c) n F ∧ Cur wr base B ∧ w.grownBy wr (some B)) (fun _ i _ => 10 - (intOf i).toNat)
  case atStart => exact ⟨0, y1, none, 0, fun _ _ => 0, by omega, rfl, rfl, p1, by omega, (fun i hi => by omega), R1, O1, ownV_none, c1, g1⟩
  case round =>
    obtain ⟨n, kn, A, c, F, hn, rfl, rfl, k0, k1, hd, R2, O2, V2, c2, g2⟩ := hrel
    have HD := Lib.hid hd
    clear hd R1 O1 c1 g1
    go_wp2_with fail
    refine (l01Below_c base B 10 _ c2 (by omega)).mono ?_
    rintro e w3 ⟨x, ⟨x0, x1⟩, rfl, c3, h3⟩
    have R3 := R2.grown h3 hne
    have O3 := O2.grown h3 hne1
    have V3 := V2.grown h3 (fun j e => by cases e; omega)
    have g3 := only_trans g2 h3
    clear R2 O2 V2 c2 g2 h3
    by_cases hlt : (n : Int) < x
    · have hn8 : n ≤ 8 := by omega
      go_wp2_with fail
      refine (l01Below_c base B 12 _ c3 (by omega)).mono ?_
      rintro e w4 ⟨y, ⟨y0, y11⟩, rfl, c4, h4⟩
      have R4 := R3.grown h4 hne
      have O4 := O3.grown h4 hne1
      have V4 := V3.grown h4 (fun j e => by cases e; omega)
      have g4 := only_trans g3 h4
      have z4 := O4.lt
      have e4 : w4.cell? ⟨w.heap.size + 1, 0, none⟩ = some (.slice A n c) := O4.cell 0
      have k2 : IntKind.i64.wrap (kn + y) = kn + y := IntWalk.i64_in _ ⟨by omega, by omega⟩
      have c4' : Cur w4.drew base B := c4
      have HH : Hid (Blk w4.drew w.heap.size 38 #[.slice none 0 0] ∧ Blk w4.drew (w.heap.size + 1) 38 #[.slice A n c] ∧ OwnV 5 54 w4.drew (w.heap.size + 1 + 1) (.slice A n c) n F ∧ Cur w4.drew base B ∧ w.grownBy w4.drew (some B)) := Lib.hid ⟨R4, O4, V4, c4, only_drewN g4 1⟩
      have e4' : w4.drew.cell? ⟨w.heap.size + 1, 0, none⟩ = some (.slice A n c) := e4
      clear R3 O3 V3 c3 g3 h4 R4 O4 V4 g4
      go_wp2_with fail
      have hbase : w.heap.size + 1 + 1 ≤ w4.drew.heap.size := z4
      have HKN := Lib.hid (And.intro k0 (And.intro k1 (And.intro y0 y11)))
      have HX := Lib.hid (And.intro hn8 hlt)
      go_region_law (first
        | (go_simp; go_at_call 83; refine (l05Fact_c (kn + y) base B w4.drew c4').mono ?_; rintro e w5 ⟨x0', x1', x2', x4', hx, rfl, c5, h5⟩; have e5 := h5.cell e4' hne1; have f5 := (HH.out.2.1.grown h5 hne1).frozen 0; have H6 := Lib.hid (store_step hx HKN.out HX.out.1 HH.out.2.1 HH.out.2.2.1 h5 hB hbase); have H5 := Lib.hid (And.intro c5 h5); have HFX := Lib.hid hx; have e6 := H6.out.2.2.2.2.2.1; clear hx c5 h5)
        | (refine step_append_ownV (F := addRow F n fun j => if j = 0 then x0' else if j = 1 then x1' else if j = 2 then x2' else if j = 3 then kn + y else x4') (by rfl) _ _ _ (by rfl) i0 _ 40 Try.underlying36 hi hz0 hz1 hz2 rfl (by omega) (by rfl) H6.out.1 _ 1 1 (by rfl) H6.out.2.1 H6.out.2.2.1 H6.out.2.2.2.1 H6.out.2.2.2.2.1 ?_; intro A2 c2 w6 hown3 hg3; have so2 := hg3.low (Nat.lt_succ_self _) H6.out.2.2.2.2.2.1; have fo2 := hg3.lowf (Nat.lt_succ_self _) H6.out.2.2.2.2.2.2.1 H6.out.2.2.2.2.2.2.2))
      all_goals
        have HF := Lib.hid (store_end HB.out hbase HFX.out HKN.out HX.out.1 (by exact HD.out) HH.out.1 HH.out.2.1 H5.out.1 H5.out.2 HH.out.2.2.2.2 hown3 hg3)
        clear hown3 hg3 so2 fo2 e6 e5 f5 H6 H5 HH
        go_wp2_with fail
        go_roundw
        case rel => exact ⟨n + 1, kn + y, A2, c2, _, by omega, by go_num, rfl, HF.out⟩
        case measure => simp [intOf]; omega
    · have e3 : w3.cell? ⟨w.heap.size + 1, 0, none⟩ = some (.slice A n c) := O3.cell 0
      have r3 : w3.cell? ⟨w.heap.size, 0, none⟩ = some (.slice none 0 0) := R3.cell 0
      have f3 := R3.frozen 0
      have r0 : (w3.setCell ⟨w.heap.size, 0, none⟩ (.slice A n c)).cell? ⟨w.heap.size, 0, none⟩ = some (.slice A n c) := World.cell?_setCell_same' _ _ _ (by rw [r3]; rfl)
      have hk108 : kn ≤ 108 := by omega
      have HF := Lib.hid (And.intro (And.intro hk108 hn) (And.intro ((V3.set (p := ⟨w.heap.size, 0, none⟩) (by show w.heap.size < _; omega) (.slice A n c)).more (b := w.heap.size) (by omega)) (And.intro (c3.set hB 0 (.slice A n c)) (only_setCell (p := ⟨w.heap.size, 0, none⟩) g3 (Or.inr (Nat.le_refl _)) (.slice A n c)))))
      clear V3 c3 g3 R3 O3 hk108
      go_wp2_with fail
      refine bodyPost_ret (v := .agg #[.slice A n c]) (by simp [results, Try.results76, go_sem, r0]) rfl ?_
      exact ⟨A, n, c, F, hn, drawnF_more HD.out HF.out.1.1, rfl, HF.out.2.1, HF.out.2.2.1, HF.out.2.2.2⟩

/-- What DrawStore leaves. -/
def DrawEnd (w : World) (e : Ending) (w' : World) : Prop :=
  ∃ (A : Option Addr) (n c : Nat) (F : Nat → Nat → Int), n ≤ 9 ∧ drawnF F n 108 ∧ e = .returned (.agg #[.slice A n c]) ∧ OwnV 5 54 w' w.heap.size (.slice A n c) n F ∧ Below w.heap.size w w'

set_option maxHeartbeats 1000000 in
theorem drawStore_c (A : Option Addr) (n cap : Nat) (w : World) (hb : Bytes w w.heap.size A n) (hn : n ≤ 2000000) :
    Calls Try.prog 48 #[.slice A n cap] w (DrawEnd w) := by
  have HB := Lib.hid hb
  clear hb
  have R0 : Blk (w.alloc (.cells #[.slice none 0 0] 38)) w.heap.size 38 #[.slice none 0 0] := Blk.new _ _ _
  go_enter Try.func48, Try.ntmps48
  go_wp2_with fail
  refine (l01New_c w.heap.size A n cap _ (HB.out.below ((Below.refl _ _).alloc (Nat.le_refl _) _)) hn (by simp)).mono ?_
  rintro e w1 ⟨B, rfl, hB, hcur, hbel⟩
  have hsz : (w.alloc (.cells #[.slice none 0 0] 38)).heap.size = w.heap.size + 1 := by simp
  rw [hsz] at hB
  have R1 := R0.below hbel R0.lt
  have hb1 := andThen (andAlloc (Below.refl w.heap.size w) (.cells #[.slice none 0 0] 38)) hbel
  have hlt1 := R1.lt
  clear R0 hbel hsz
  go_wp2_with fail
  refine (l05Store_c _ B _ hcur).mono ?_
  rintro e w2 ⟨A2, n2, c2, F, hn2, hd, rfl, V2, hc2, hg2⟩
  have R2 := R1.grown hg2 (fun e => by injection e with e; omega)
  have r2 : w2.cell? ⟨w.heap.size, 0, none⟩ = some (.slice none 0 0) := R2.cell 0
  have f2 := R2.frozen 0
  have r0 : (w2.setCell ⟨w.heap.size, 0, none⟩ (.slice A2 n2 c2)).cell? ⟨w.heap.size, 0, none⟩ = some (.slice A2 n2 c2) := World.cell?_setCell_same' _ _ _ (by rw [r2]; rfl)
  have hb2 := below_only hb1 hg2 (by omega)
  have HF := Lib.hid (And.intro hd (And.intro ((V2.set (p := ⟨w.heap.size, 0, none⟩) (by show w.heap.size < _; omega) (.slice A2 n2 c2)).more (b := w.heap.size) (by omega)) (below_put hb2 (Nat.le_refl _) 0 (.slice A2 n2 c2))))
  clear R1 R2 hd V2 hc2 hg2 hcur hb1 hb2
  go_wp2_with fail
  refine bodyPost_ret (v := .agg #[.slice A2 n2 c2]) (by simp [results, Try.results48, go_sem, r0]) rfl ?_
  exact ⟨A2, n2, c2, F, hn2, HF.out.1, rfl, HF.out.2.1, HF.out.2.2⟩

end Go.Proofs.Ytmehfclhmbhjaaa
