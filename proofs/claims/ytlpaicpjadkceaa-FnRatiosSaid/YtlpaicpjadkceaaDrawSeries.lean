/-
  DrawSeries returns a valid series of at most nine points, in a new row. Conditions: the slice of bytes can be read, at most 2000000 of them.
-/
import Derived.Test.YtlpaicpjadkceaaPubImpl
import Derived.Test.YtlpaicpjadkceaaNew
import Derived.Deep.RegionHeld3
import Derived.Deep.RegionLaw
namespace Go.Proofs.Ytlpaicpjadkceaa
open Go.RowKit
set_option linter.unusedVariables false
set_option maxRecDepth 4000

theorem only_grew {a w w' : World} {B base : Nat} {v : Value} (h : a.grownBy w (some B)) (g : Grew w w' base v) (hb : a.heap.size ≤ base) : a.grownBy w' (some B) := by
  obtain ⟨row, h1, h2⟩ := g
  refine ⟨h1.os.trans h.os, h1.tape.trans h.tape, h1.output.trans h.output, Nat.le_trans h.size h1.size, fun i hi hne => (h1.block i (Nat.lt_of_lt_of_le hi h.size) (fun e => ?_)).trans (h.block i hi hne)⟩
  have := (h2 i e.symm).1
  omega
theorem Cur.grew {w w' : World} {base B base' : Nat} {v : Value} (h : Cur w base B) (g : Grew w w' base' v) (hb : B < base') : Cur w' base B :=
  h.keep (g.block h.lt hb) (g.below (Below.refl _ _) (by have := h.le; omega) (by have := h.le; have := h.lt; omega))
theorem Cur.set {w : World} {base B : Nat} (h : Cur w base B) {g : Nat} (hp : B < g) (i : Nat) (u : Value) : Cur (w.setCell ⟨g, i, none⟩ u) base B :=
  h.keep (Below.heap_setCell w ⟨g, i, none⟩ u B (by show B ≠ g; omega)) ((Below.refl base w).setCell (by have := h.le; show base ≤ g; omega) u)

/-- The points drawn so far; kn: the last one's time of knowledge. -/
def drawnP (F : Nat → Nat → Int) (n : Nat) (kn : Int) : Prop := ∀ i, i < n → 0 ≤ F i 0 ∧ F i 0 ≤ F i 1 ∧ F i 1 ≤ kn ∧ 9000 ≤ F i 2 ∧ F i 2 ≤ 13000 ∧ ∀ j, j < i → F j 1 ≤ F i 1
theorem drawnP_add {F : Nat → Nat → Int} {n : Nat} {kn q x0 x2 : Int} (h : drawnP F n kn) (hk : kn ≤ q) (h0 : 0 ≤ x0) (h1 : x0 ≤ q) (h2 : 9000 ≤ x2) (h3 : x2 ≤ 13000) : drawnP (addRow F n (oneF x0 q x2)) (n + 1) q := by
  intro i hi
  rcases Nat.lt_or_ge i n with hlt | hge
  · obtain ⟨a, b, c, d, e, f⟩ := h i hlt
    rw [addRow_old hlt, addRow_old hlt, addRow_old hlt]
    exact ⟨a, b, by omega, d, e, fun j hj => by rw [addRow_old (by omega)]; exact f j hj⟩
  · obtain rfl : i = n := by omega
    simp only [addRow_new]
    refine ⟨h0, h1, Int.le_refl _, h2, h3, fun j hj => ?_⟩
    rw [addRow_old hj]
    have := (h j hj).2.2.1
    show F j 1 ≤ q
    omega
theorem drawnP_more {F : Nat → Nat → Int} {n : Nat} {kn q : Int} (h : drawnP F n kn) (hk : kn ≤ q) : drawnP F n q := fun i hi => by
  obtain ⟨a, b, c, d⟩ := h i hi
  exact ⟨a, b, by omega, d⟩
theorem seriesB_drawn {F : Nat → Nat → Int} {n : Nat} {kn : Int} (h : drawnP F n kn) (hn : n ≤ 200) (hk : kn ≤ 3599) : seriesB n F = true := by
  rw [seriesB_yes]
  · exact decide_eq_true hn
  · intro i hi
    obtain ⟨a, b, c, d, e, f⟩ := h i hi
    unfold ptB
    rw [inB_true a (by omega), inB_true (by omega) (by omega), inB_true (by omega) (by omega), decide_eq_false (by omega)]
    rcases i with _ | i
    · rfl
    · have := f i (by omega)
      have h2 : decide (F (i + 1) 1 < F (i + 1 - 1) 1) = false := decide_eq_false (by simp only [Nat.add_sub_cancel]; omega)
      rw [h2]
      simp

/-- What a walk knows while a series is drawn. -/
def SerSt (w : World) (base B : Nat) (A : Option Addr) (n c : Nat) (F : Nat → Nat → Int) (W : World) : Prop :=
  Blk W w.heap.size 30 #[.slice none 0 0] ∧ Blk W (w.heap.size + 1) 30 #[.slice A n c] ∧ OwnV 3 46 W (w.heap.size + 1 + 1) (.slice A n c) n F ∧ Cur W base B ∧ w.grownBy W (some B)
theorem SerSt.step {w W W' : World} {base B : Nat} {A : Option Addr} {n c : Nat} {F : Nat → Nat → Int} (h : SerSt w base B A n c F W) (hB : B < w.heap.size) (hc : Cur W' base B) (hg : W.grownBy W' (some B)) : SerSt w base B A n c F W' := by
  obtain ⟨h1, h2, h3, h4, h5⟩ := h
  exact ⟨h1.grown hg (fun e => by injection e with e; omega), h2.grown hg (fun e => by injection e with e; omega), h3.grown hg (fun j e => by cases e; omega), hc, only_trans h5 hg⟩
theorem SerSt.cell {w W : World} {base B : Nat} {A : Option Addr} {n c : Nat} {F : Nat → Nat → Int} (h : SerSt w base B A n c F W) : W.cell? ⟨w.heap.size + 1, 0, none⟩ = some (.slice A n c) := h.2.1.cell 0
theorem SerSt.cur {w W : World} {base B : Nat} {A : Option Addr} {n c : Nat} {F : Nat → Nat → Int} (h : SerSt w base B A n c F W) : Cur W base B := h.2.2.2.1
theorem SerSt.fz {w W : World} {base B : Nat} {A : Option Addr} {n c : Nat} {F : Nat → Nat → Int} (h : SerSt w base B A n c F W) : W.frozen? ⟨w.heap.size + 1, 0, none⟩ = false := h.2.1.frozen 0
/-- Behind the append and the store. -/
theorem SerSt.push {w W W' : World} {base B : Nat} {A A2 : Option Addr} {n c c2 : Nat} {F : Nat → Nat → Int} {P : Nat → Int} {o : Obj} (h : SerSt w base B A n c F W) (hB : B < w.heap.size)
    (hV : OwnV 3 46 W' (w.heap.size + 1 + 1) (.slice A2 (n + 1) c2) (n + 1) (addRow F n P)) (hg : Grew (W.alloc o) W' (w.heap.size + 1 + 1) (.slice A n c)) :
    SerSt w base B A2 (n + 1) c2 (addRow F n P) (W'.setCell ⟨w.heap.size + 1, 0, none⟩ (.slice A2 (n + 1) c2)) := by
  obtain ⟨h1, h2, h3, h4, h5⟩ := h
  have R5 := h1.alloc o
  have O5 := h2.alloc o
  have C5 := h4.below ((Below.refl _ _).alloc (Nat.le_refl _) o)
  have G5 := only_alloc h5 o
  have R6 : Blk W' w.heap.size 30 #[.slice none 0 0] := (hg.block R5.lt (by omega)).trans R5
  have O6 : Blk W' (w.heap.size + 1) 30 #[.slice A n c] := (hg.block O5.lt (by omega)).trans O5
  exact ⟨R6.far (by show w.heap.size ≠ w.heap.size + 1; omega) _, O6.set1 _, hV.set (by show w.heap.size + 1 < _; omega) _, (C5.grew hg (by omega)).set (by omega) 0 _, only_setCell (only_grew G5 hg (by omega)) (Or.inr (by show w.heap.size ≤ w.heap.size + 1; omega)) _⟩

/-- What the draw of a series leaves. -/
def SeriesDrawn (base B : Nat) (w : World) (e : Ending) (w' : World) : Prop :=
  ∃ (A : Option Addr) (n c : Nat) (F : Nat → Nat → Int), n ≤ 9 ∧ drawnP F n 108 ∧ e = .returned (.agg #[.slice A n c]) ∧ OwnV 3 46 w' w.heap.size (.slice A n c) n F ∧ Cur w' base B ∧ w.grownBy w' (some B)

set_option maxHeartbeats 8000000 in
theorem l07Series_c (base B : Nat) (w : World) (hc : Cur w base B) : Calls Try.prog 65 #[.pointer (some ⟨B, 0, none⟩)] w (SeriesDrawn base B w) := by
  obtain ⟨i0, hi, hz0, hz1, hz2⟩ := info_parts info_Point
  have hB := hc.lt
  have R0 : Blk ((w.alloc (.cells #[.slice none 0 0] 30)).alloc (.cells #[.slice none 0 0] 30)) w.heap.size 30 #[.slice none 0 0] := (Blk.new _ _ _).alloc _
  have O0 : Blk ((w.alloc (.cells #[.slice none 0 0] 30)).alloc (.cells #[.slice none 0 0] 30)) (w.heap.size + 1) 30 #[.slice none 0 0] := by
    have := Blk.new (w.alloc (.cells #[.slice none 0 0] 30)) 30 #[.slice none 0 0]
    rw [World.size_alloc] at this
    exact this
  have hc0 := (hc.below ((Below.refl _ _).alloc (Nat.le_refl _) (.cells #[.slice none 0 0] 30))).below ((Below.refl _ _).alloc (Nat.le_refl _) (.cells #[.slice none 0 0] 30))
  have H0 : Hid (SerSt w base B none 0 0 (fun _ _ => 0) ((w.alloc (.cells #[.slice none 0 0] 30)).alloc (.cells #[.slice none 0 0] 30))) :=
    ⟨R0, O0, ownV_none, hc0, only_alloc (only_alloc (only_refl w (some B)) _) _⟩
  clear R0 O0 hc0 hc
  go_enter Try.func65, Try.ntmps65
  go_wp2_with fail
  go_loopw [4, 5] (fun kv i wr => ∃ (n : Nat) (kn : Int) (A : Option Addr) (c : Nat) (F : Nat → Nat → Int), n ≤ 9 ∧ i = .int .i64 n ∧ kv = .int .i64 kn ∧ 0 ≤ kn ∧ kn ≤ 9 + 11 * (n : Int) ∧ Hid (drawnP F n kn) ∧ Hid (SerSt w base B A n c F wr)) (fun _ i _ => 10 - (intOf i).toNat)
  case atStart => exact ⟨0, 0, none, 0, fun _ _ => 0, by omega, rfl, rfl, by omega, by omega, (fun i hi => by omega), H0⟩
  case round =>
    clear H0
    obtain ⟨n, kn, A, c, F, hn, rfl, rfl, k0, k1, hd, hst⟩ := hrel
    go_wp2_with fail
    refine (l01Below_c base B 10 _ hst.out.2.2.2.1 (by omega)).mono ?_
    rintro e w3 ⟨x, ⟨x0, x1⟩, rfl, c3, h3⟩
    have S3 := Lib.hid (hst.out.step hB c3 h3)
    clear hst c3 h3
    by_cases hlt : (n : Int) < x
    · have hn8 : n ≤ 8 := by omega
      go_wp2_with fail
      refine (l01Below_c base B 12 _ S3.out.2.2.2.1 (by omega)).mono ?_
      rintro e w4 ⟨y, ⟨y0, y11⟩, rfl, c4, h4⟩
      have S4 := Lib.hid (S3.out.step hB c4 h4)
      clear S3 c4 h4
      obtain ⟨q, hq⟩ : ∃ q : Int, kn + y = q := ⟨_, rfl⟩
      have k2 : IntKind.i64.wrap (kn + y) = q := by rw [hq]; exact IntWalk.i64_in _ ⟨by omega, by omega⟩
      have k3 : IntKind.i64.wrap (q + 1) = q + 1 := IntWalk.i64_in _ ⟨by omega, by omega⟩
      have S5 : Hid (SerSt w base B A n c F w4.drew) := ⟨S4.out.1, S4.out.2.1, S4.out.2.2.1, S4.out.2.2.2.1, only_drewN S4.out.2.2.2.2 1⟩
      have e4' := S5.out.cell
      have q0 : 0 ≤ q := by omega
      have q1 : q ≤ 9 + 11 * ((n + 1 : Nat) : Int) := by push_cast; omega
      have qk : kn ≤ q := by omega
      have hbase : w.heap.size + 1 + 1 ≤ w4.drew.heap.size := S5.out.2.1.lt
      have HKN := Lib.hid (And.intro k0 (And.intro k1 (And.intro y0 y11)))
      go_wp2_with fail
      clear S4 hq
      have hq1 : 0 < q + 1 := by omega
      have h4000 : (0 : Int) < 4000 := by omega
      go_region_law (first
        | ((try go_simp); go_at_call 67; have hst := (by assumption : Hid (SerSt w base B A n c F _)); (with_reducible refine (l01Below_c base B (q + 1) _ hst.out.cur hq1).mono ?_); rintro e w5 ⟨p, ⟨p0, p1⟩, rfl, c5, h5⟩; have S6 := Lib.hid (hst.out.step hB c5 h5); have e6 := S6.out.cell; have f6 := S6.out.fz; have z6 : w.heap.size + 1 < w5.heap.size := S6.out.2.1.lt; clear c5 h5)
        | ((try go_simp); go_at_call 67; have hst := (by assumption : Hid (SerSt w base B A n c F _)); (with_reducible refine (l01Below_c base B 4000 _ hst.out.cur h4000).mono ?_); rintro e w5' ⟨v, ⟨v0, v1⟩, rfl, c5', h5'⟩; have S6' := Lib.hid (hst.out.step hB c5' h5'); have e6' := S6'.out.cell; have f6' := S6'.out.fz; have z6' : w.heap.size + 1 < w5'.heap.size := S6'.out.2.1.lt; have k4 : IntKind.i64.wrap (9000 + v) = 9000 + v := IntWalk.i64_in _ ⟨by omega, by omega⟩; clear c5' h5')
        | (have hst2 := (by assumption : Hid (SerSt w base B A n c F _)); refine step_append_ownV (v := .slice A n c) (n := n) (base := w.heap.size + 1 + 1) (F := addRow F n (oneF p q (9000 + v))) (by rfl) _ _ _ (by rfl) i0 _ 24 Try.underlying28 hi hz0 hz1 hz2 rfl (by omega) (by rfl) ((hst2.out.2.2.1.addRow _).alloc _) _ 1 1 (by rfl) (oneF_news _ n F ⟨⟨by omega, by omega⟩, ⟨by omega, by omega⟩, ⟨by omega, by omega⟩⟩ (Blk.new _ _ _)) (by unfold maxLen; omega) (by omega) (by rw [World.size_alloc]; omega) ?_; intro A2 c2 w6 hown3 hg3; have so2 := hg3.low (Nat.lt_succ_self _) (hst2.out.2.1.alloc _).cell0; have fo2 := hg3.lowf (Nat.lt_succ_self _) (hst2.out.2.1.alloc (.cells #[.int .i64 p, .int .i64 q, .int .i64 (9000 + v)] 46)).lt ((hst2.out.2.1.alloc _).frozen 0); have S7 := Lib.hid (hst2.out.push hB hown3 hg3); clear hown3 hg3 hst2)
        | fail)
      all_goals
        have HD := Lib.hid (drawnP_add hd.out qk p0 (show p ≤ q by omega) (show 9000 ≤ 9000 + v by omega) (show 9000 + v ≤ 13000 by omega))
        go_wp2_with fail
        go_roundw
        case rel => exact ⟨n + 1, q, A2, c2, _, by omega, by go_num, rfl, q0, q1, HD, S7⟩
        case measure => simp [intOf]; omega
    · have e3 := S3.out.cell
      have f3 := S3.out.1.frozen 0
      have r3 : w3.cell? ⟨w.heap.size, 0, none⟩ = some (.slice none 0 0) := S3.out.1.cell 0
      have r0 : (w3.setCell ⟨w.heap.size, 0, none⟩ (.slice A n c)).cell? ⟨w.heap.size, 0, none⟩ = some (.slice A n c) := World.cell?_setCell_same' _ _ _ (by rw [r3]; rfl)
      have HF := Lib.hid (And.intro ((S3.out.2.2.1.set (p := ⟨w.heap.size, 0, none⟩) (by show w.heap.size < _; omega) (.slice A n c)).more (b := w.heap.size) (by omega)) (And.intro (S3.out.2.2.2.1.set hB 0 (.slice A n c)) (only_setCell (p := ⟨w.heap.size, 0, none⟩) S3.out.2.2.2.2 (Or.inr (Nat.le_refl _)) (.slice A n c))))
      clear S3
      go_wp2_with fail
      refine bodyPost_ret (v := .agg #[.slice A n c]) (by simp [results, Try.results65, go_sem, r0]) rfl ?_
      exact ⟨A, n, c, F, hn, drawnP_more hd.out (by omega), rfl, HF.out.1, HF.out.2.1, HF.out.2.2⟩

/-- What DrawSeries leaves. -/
def DrawEndS (w : World) (e : Ending) (w' : World) : Prop :=
  ∃ (A : Option Addr) (n c : Nat) (F : Nat → Nat → Int), n ≤ 9 ∧ drawnP F n 108 ∧ e = .returned (.agg #[.slice A n c]) ∧ OwnV 3 46 w' w.heap.size (.slice A n c) n F ∧ Below w.heap.size w w'

set_option maxHeartbeats 1000000 in
theorem drawSeries_c (A : Option Addr) (n cap : Nat) (w : World) (hb : Bytes w w.heap.size A n) (hn : n ≤ 2000000) :
    Calls Try.prog 32 #[.slice A n cap] w (DrawEndS w) := by
  have HB := Lib.hid hb
  clear hb
  have R0 : Blk (w.alloc (.cells #[.slice none 0 0] 30)) w.heap.size 30 #[.slice none 0 0] := Blk.new _ _ _
  go_enter Try.func32, Try.ntmps32
  go_wp2_with fail
  refine (l01New_c w.heap.size A n cap _ (HB.out.below ((Below.refl _ _).alloc (Nat.le_refl _) _)) hn (by simp)).mono ?_
  rintro e w1 ⟨B, rfl, hB, hcur, hbel⟩
  have hsz : (w.alloc (.cells #[.slice none 0 0] 30)).heap.size = w.heap.size + 1 := by simp
  rw [hsz] at hB
  have R1 := R0.below hbel R0.lt
  have hb1 := andThen (andAlloc (Below.refl w.heap.size w) (.cells #[.slice none 0 0] 30)) hbel
  have hlt1 := R1.lt
  clear R0 hbel hsz
  go_wp2_with fail
  refine (l07Series_c _ B _ hcur).mono ?_
  rintro e w2 ⟨A2, n2, c2, F, hn2, hd, rfl, V2, hc2, hg2⟩
  have R2 := R1.grown hg2 (fun e => by injection e with e; omega)
  have r2 : w2.cell? ⟨w.heap.size, 0, none⟩ = some (.slice none 0 0) := R2.cell 0
  have f2 := R2.frozen 0
  have r0 : (w2.setCell ⟨w.heap.size, 0, none⟩ (.slice A2 n2 c2)).cell? ⟨w.heap.size, 0, none⟩ = some (.slice A2 n2 c2) := World.cell?_setCell_same' _ _ _ (by rw [r2]; rfl)
  have hb2 := below_only hb1 hg2 (by omega)
  have HF := Lib.hid (And.intro hd (And.intro ((V2.set (p := ⟨w.heap.size, 0, none⟩) (by show w.heap.size < _; omega) (.slice A2 n2 c2)).more (b := w.heap.size) (by omega)) (below_put hb2 (Nat.le_refl _) 0 (.slice A2 n2 c2))))
  clear R1 R2 hd V2 hc2 hg2 hcur hb1 hb2
  go_wp2_with fail
  refine bodyPost_ret (v := .agg #[.slice A2 n2 c2]) (by simp [results, Try.results32, go_sem, r0]) rfl ?_
  exact ⟨A2, n2, c2, F, hn2, HF.out.1, rfl, HF.out.2.1, HF.out.2.2⟩

end Go.Proofs.Ytlpaicpjadkceaa
