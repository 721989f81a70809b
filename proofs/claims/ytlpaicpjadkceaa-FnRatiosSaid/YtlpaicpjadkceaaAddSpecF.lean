/-
  spec.AddFact returns the store with one fact more, or a copy. Conditions: the facts can be read.
-/
import Derived.Test.YtlpaicpjadkceaaApart
import Derived.Test.YtlpaicpjadkceaaStoreOk
import Derived.Test.YtlpaicpjadkceaaFactMark
import Derived.Deep.RegionHeld3
import Derived.Deep.DeepCutAuto
namespace Go.Proofs.Ytlpaicpjadkceaa
open Go.RowKit
set_option linter.unusedVariables false
set_option maxRecDepth 4000

/-- One element's fields. -/
def oneFf (x0 x1 x2 x3 x4 : Int) (j : Nat) : Int := if j = 0 then x0 else if j = 1 then x1 else if j = 2 then x2 else if j = 3 then x3 else x4
theorem oneF_newsf (w : World) (n : Nat) (F : Nat → Nat → Int) {x0 x1 x2 x3 x4 : Int} (h : I64 x0 ∧ I64 x1 ∧ I64 x2 ∧ I64 x3 ∧ I64 x4) {g : Nat} (hb : Blk w g 102 #[.int .i64 x0, .int .i64 x1, .int .i64 x2, .int .i64 x3, .int .i64 x4]) :
    NewsT 5 w (some ⟨g, 0, none⟩) 1 n (addRow F n (oneFf x0 x1 x2 x3 x4)) :=
  news_one [.int .i64 x0, .int .i64 x1, .int .i64 x2, .int .i64 x3, .int .i64 x4] hb rfl fun j hj => by
    rw [addRow_new]
    rcases (show j = 0 ∨ j = 1 ∨ j = 2 ∨ j = 3 ∨ j = 4 by omega) with rfl | rfl | rfl | rfl | rfl
    · exact ⟨rfl, h.1⟩
    · exact ⟨rfl, h.2.1⟩
    · exact ⟨rfl, h.2.2.1⟩
    · exact ⟨rfl, h.2.2.2.1⟩
    · exact ⟨rfl, h.2.2.2.2⟩

def addOkf (n : Nat) (F : Nat → Nat → Int) (P : Nat → Int) : Bool := storeB n F && storeB (n + 1) (addRow F n P)
def addLenf (n : Nat) (F : Nat → Nat → Int) (P : Nat → Int) : Nat := if addOkf n F P = true then n + 1 else n
theorem addLen_lef (n : Nat) (F : Nat → Nat → Int) (P : Nat → Int) : addLenf n F P ≤ n + 1 := by
  unfold addLenf; split <;> omega
/-- What it leaves. -/
def AddEndf (n : Nat) (F : Nat → Nat → Int) (P : Nat → Int) (w : World) (e : Ending) (w' : World) : Prop :=
  ∃ A cap, e = .returned (.tuple #[.agg #[.slice A (addLenf n F P) cap], .bool (addOkf n F P)]) ∧ OwnV 5 102 w' w.heap.size (.slice A (addLenf n F P) cap) (addLenf n F P) (addRow F n P) ∧ Below w.heap.size w w'
theorem ksf {W0 w1 : World} {p0 p1 p2 p3 p4 p5 : Addr} {v0 v1 v2 v3 v4 v5 : Value} (h0 : Below W0.heap.size W0 W0 ∧ W0.cell? p0 = some v0 ∧ W0.cell? p1 = some v1 ∧ W0.cell? p2 = some v2 ∧ W0.cell? p3 = some v3 ∧ W0.cell? p4 = some v4 ∧ W0.cell? p5 = some v5) (hb : Below W0.heap.size W0 w1) : Below W0.heap.size W0 w1 ∧ w1.cell? p0 = some v0 ∧ w1.cell? p1 = some v1 ∧ w1.cell? p2 = some v2 ∧ w1.cell? p3 = some v3 ∧ w1.cell? p4 = some v4 ∧ w1.cell? p5 = some v5 :=
  ⟨hb, (hb.cell (World.block_lt_of_cell? _ _ h0.2.1)).trans h0.2.1, (hb.cell (World.block_lt_of_cell? _ _ h0.2.2.1)).trans h0.2.2.1, (hb.cell (World.block_lt_of_cell? _ _ h0.2.2.2.1)).trans h0.2.2.2.1, (hb.cell (World.block_lt_of_cell? _ _ h0.2.2.2.2.1)).trans h0.2.2.2.2.1, (hb.cell (World.block_lt_of_cell? _ _ h0.2.2.2.2.2.1)).trans h0.2.2.2.2.2.1, (hb.cell (World.block_lt_of_cell? _ _ h0.2.2.2.2.2.2)).trans h0.2.2.2.2.2.2⟩
theorem ks_drewf {W0 W : World} {p0 p1 p2 p3 p4 p5 : Addr} {v0 v1 v2 v3 v4 v5 : Value} {q : Nat} (h : Below W0.heap.size W0 W ∧ W.cell? p0 = some v0 ∧ W.cell? p1 = some v1 ∧ W.cell? p2 = some v2 ∧ W.cell? p3 = some v3 ∧ W.cell? p4 = some v4 ∧ W.cell? p5 = some v5) : Below W0.heap.size W0 (W.drewN q) ∧ (W.drewN q).cell? p0 = some v0 ∧ (W.drewN q).cell? p1 = some v1 ∧ (W.drewN q).cell? p2 = some v2 ∧ (W.drewN q).cell? p3 = some v3 ∧ (W.drewN q).cell? p4 = some v4 ∧ (W.drewN q).cell? p5 = some v5 := ⟨andDrewN h.1 q, h.2⟩
theorem ks_allocf {W0 W : World} {p0 p1 p2 p3 p4 p5 : Addr} {v0 v1 v2 v3 v4 v5 : Value} {o : Obj} (h0 : Below W0.heap.size W0 W0 ∧ W0.cell? p0 = some v0 ∧ W0.cell? p1 = some v1 ∧ W0.cell? p2 = some v2 ∧ W0.cell? p3 = some v3 ∧ W0.cell? p4 = some v4 ∧ W0.cell? p5 = some v5) (h : Below W0.heap.size W0 W ∧ W.cell? p0 = some v0 ∧ W.cell? p1 = some v1 ∧ W.cell? p2 = some v2 ∧ W.cell? p3 = some v3 ∧ W.cell? p4 = some v4 ∧ W.cell? p5 = some v5) : Below W0.heap.size W0 (W.alloc o) ∧ (W.alloc o).cell? p0 = some v0 ∧ (W.alloc o).cell? p1 = some v1 ∧ (W.alloc o).cell? p2 = some v2 ∧ (W.alloc o).cell? p3 = some v3 ∧ (W.alloc o).cell? p4 = some v4 ∧ (W.alloc o).cell? p5 = some v5 := ksf h0 (andAlloc h.1 o)
theorem ks_callf {W0 W w1 : World} {p0 p1 p2 p3 p4 p5 : Addr} {v0 v1 v2 v3 v4 v5 : Value} (h0 : Below W0.heap.size W0 W0 ∧ W0.cell? p0 = some v0 ∧ W0.cell? p1 = some v1 ∧ W0.cell? p2 = some v2 ∧ W0.cell? p3 = some v3 ∧ W0.cell? p4 = some v4 ∧ W0.cell? p5 = some v5) (b : Below W.heap.size W w1) (h : Below W0.heap.size W0 W ∧ W.cell? p0 = some v0 ∧ W.cell? p1 = some v1 ∧ W.cell? p2 = some v2 ∧ W.cell? p3 = some v3 ∧ W.cell? p4 = some v4 ∧ W.cell? p5 = some v5) : Below W0.heap.size W0 w1 ∧ w1.cell? p0 = some v0 ∧ w1.cell? p1 = some v1 ∧ w1.cell? p2 = some v2 ∧ w1.cell? p3 = some v3 ∧ w1.cell? p4 = some v4 ∧ w1.cell? p5 = some v5 := ksf h0 (andThen h.1 b)
theorem ks_grewf {W0 W w1 : World} {p0 p1 p2 p3 p4 p5 : Addr} {v0 v1 v2 v3 v4 v5 : Value} {v : Value} (h0 : Below W0.heap.size W0 W0 ∧ W0.cell? p0 = some v0 ∧ W0.cell? p1 = some v1 ∧ W0.cell? p2 = some v2 ∧ W0.cell? p3 = some v3 ∧ W0.cell? p4 = some v4 ∧ W0.cell? p5 = some v5) (g : Grew W w1 W0.heap.size v) (h : Below W0.heap.size W0 W ∧ W.cell? p0 = some v0 ∧ W.cell? p1 = some v1 ∧ W.cell? p2 = some v2 ∧ W.cell? p3 = some v3 ∧ W.cell? p4 = some v4 ∧ W.cell? p5 = some v5) : Below W0.heap.size W0 w1 ∧ w1.cell? p0 = some v0 ∧ w1.cell? p1 = some v1 ∧ w1.cell? p2 = some v2 ∧ w1.cell? p3 = some v3 ∧ w1.cell? p4 = some v4 ∧ w1.cell? p5 = some v5 := ksf h0 (g.below h.1 (Nat.le_refl _) h.1.size)
theorem ks_setf {W0 W : World} {p0 p1 p2 p3 p4 p5 : Addr} {v0 v1 v2 v3 v4 v5 : Value} {p : Addr} {u : Value} (h0 : Below W0.heap.size W0 W0 ∧ W0.cell? p0 = some v0 ∧ W0.cell? p1 = some v1 ∧ W0.cell? p2 = some v2 ∧ W0.cell? p3 = some v3 ∧ W0.cell? p4 = some v4 ∧ W0.cell? p5 = some v5) (hp : W0.heap.size ≤ p.block) (h : Below W0.heap.size W0 W ∧ W.cell? p0 = some v0 ∧ W.cell? p1 = some v1 ∧ W.cell? p2 = some v2 ∧ W.cell? p3 = some v3 ∧ W.cell? p4 = some v4 ∧ W.cell? p5 = some v5) : Below W0.heap.size W0 (W.setCell p u) ∧ (W.setCell p u).cell? p0 = some v0 ∧ (W.setCell p u).cell? p1 = some v1 ∧ (W.setCell p u).cell? p2 = some v2 ∧ (W.setCell p u).cell? p3 = some v3 ∧ (W.setCell p u).cell? p4 = some v4 ∧ (W.setCell p u).cell? p5 = some v5 := ksf h0 (h.1.setCell hp u)

set_option maxHeartbeats 1000000 in
theorem l05Copy_c (L : Nat) (A : Option Addr) (n cap : Nat) (F : Nat → Nat → Int) (w : World) (h : Tab 5 w L A n F) (hL : L ≤ w.heap.size) (hn : n ≤ 1048577) :
    Calls Try.prog 84 #[.agg #[.slice A n cap]] w (BoxFact n F w) := by
  obtain ⟨i0, hi, hz0, hz1, hz2⟩ := info_parts info_Fact
  obtain ⟨W0, hW0⟩ : ∃ W0, (w.alloc (.cells #[.slice A n cap] 61)).alloc (.cells #[.slice none 0 0] 61) = W0 := ⟨_, rfl⟩
  have L0 : Below w.heap.size w W0 := by rw [← hW0]; exact andAlloc (andAlloc (Below.refl _ _) _) _
  have S0 : W0.heap.size = w.heap.size + 1 + 1 := by rw [← hW0]; simp
  have BS : Blk W0 w.heap.size 61 #[.slice A n cap] := by rw [← hW0]; exact (Blk.new _ _ _).alloc _
  have BR : Blk W0 (w.heap.size + 1) 61 #[.slice none 0 0] := by
    rw [← hW0]
    have := Blk.new (w.alloc (.cells #[.slice A n cap] 61)) 61 #[.slice none 0 0]
    rwa [World.size_alloc] at this
  have HN := Lib.hid ((h.keep ((L0.mono hL).alloc (by omega) (.cells #[] 102))).news (by omega))
  have sl : W0.cell? ⟨w.heap.size, 0, none⟩ = some (.slice A n cap) := BS.cell 0
  have HS := Lib.hid S0
  have HBR := Lib.hid BR
  clear h S0 BR BS
  go_enter Try.func84, Try.ntmps84
  have sl2 : (W0.alloc (.cells #[] 102)).cell? ⟨w.heap.size, 0, none⟩ = some (.slice A n cap) := cell_later ((Below.refl _ _).alloc (Nat.le_refl _) _) sl
  go_wp2_with (at_builtin; refine wpList_append_ownV (base := W0.heap.size) (n := 0) (F := F) rfl _ _ 59 rfl i0 _ 40 Try.underlying59 hi hz0 hz1 hz2 rfl (by decide) rfl (ownV_lit (Nat.le_refl _) (heap_alloc_new W0 _)) _ n cap rfl HN.out (by unfold maxLen; omega) (by omega) (by simp) ?_)
  try simp only [Nat.zero_add]
  intro A1 c1 w1 hown hg
  have z1 := hg.size
  have hb := hg.below (andAlloc (Below.refl W0.heap.size W0) _) (Nat.le_refl _) (by simp)
  have BR1 : Blk w1 (w.heap.size + 1) 61 #[.slice none 0 0] := HBR.out.below hb (by have := HS.out; omega)
  have d1 : w1.cell? ⟨w.heap.size + 1, 0, none⟩ = some (.slice none 0 0) := BR1.cell 0
  have f1 := BR1.frozen 0
  have r0 : (w1.setCell ⟨w.heap.size + 1, 0, none⟩ (.slice A1 n c1)).cell? ⟨w.heap.size + 1, 0, none⟩ = some (.slice A1 n c1) := World.cell?_setCell_same' _ _ _ (by rw [d1]; rfl)
  have HO := Lib.hid ((hown.set (p := ⟨w.heap.size + 1, 0, none⟩) (by have := HS.out; show w.heap.size + 1 < _; omega) (.slice A1 n c1)).more (b := w.heap.size) (by have := HS.out; omega))
  have HL := Lib.hid (below_put (L0.trans (hb.mono L0.size)) (show w.heap.size ≤ w.heap.size + 1 by omega) 0 (.slice A1 n c1))
  clear hg hown hb BR1
  go_wp2_with fail
  refine bodyPost_ret (v := .agg #[.slice A1 n c1]) (by simp [results, Try.results84, go_sem, r0]) rfl ?_
  exact ⟨A1, c1, rfl, HO.out, HL.out⟩

set_option maxHeartbeats 8000000 in
theorem specAddFact_c (L : Nat) (A : Option Addr) (n cap : Nat) (F : Nat → Nat → Int) (x0 x1 x2 x3 x4 : Int) (hI : I64 x0 ∧ I64 x1 ∧ I64 x2 ∧ I64 x3 ∧ I64 x4) (w : World) (h1 : Tab 5 w L A n F) (hL : L ≤ w.heap.size) (hn : n ≤ 1048576) :
    Calls Try.prog 70 #[.agg #[.slice A n cap], .agg #[.int .i64 x0, .int .i64 x1, .int .i64 x2, .int .i64 x3, .int .i64 x4]] w (AddEndf n F (oneFf x0 x1 x2 x3 x4) w) := by
  obtain ⟨i0, hi, hz0, hz1, hz2⟩ := info_parts info_Fact
  obtain ⟨W0, hW0⟩ : ∃ W0, ((w.alloc (.cells #[.slice A n cap] 61)).alloc (.cells #[.int .i64 x0, .int .i64 x1, .int .i64 x2, .int .i64 x3, .int .i64 x4] 102)).alloc (.cells #[.slice none 0 0] 61) = W0 := ⟨_, rfl⟩
  have L0 : Below w.heap.size w W0 := by rw [← hW0]; exact andAlloc (andAlloc (andAlloc (Below.refl _ _) _) _) _
  have S0 : W0.heap.size = w.heap.size + 1 + 1 + 1 := by rw [← hW0]; simp
  have BS : Blk W0 w.heap.size 61 #[.slice A n cap] := by rw [← hW0]; exact ((Blk.new _ _ _).alloc _).alloc _
  have BF : Blk W0 (w.heap.size + 1) 102 #[.int .i64 x0, .int .i64 x1, .int .i64 x2, .int .i64 x3, .int .i64 x4] := by
    rw [← hW0]
    have := (Blk.new (w.alloc (.cells #[.slice A n cap] 61)) 102 #[.int .i64 x0, .int .i64 x1, .int .i64 x2, .int .i64 x3, .int .i64 x4]).alloc (.cells #[.slice none 0 0] 61)
    rwa [World.size_alloc] at this
  have BR : Blk W0 (w.heap.size + 1 + 1) 61 #[.slice none 0 0] := by
    rw [← hW0]
    have := Blk.new ((w.alloc (.cells #[.slice A n cap] 61)).alloc (.cells #[.int .i64 x0, .int .i64 x1, .int .i64 x2, .int .i64 x3, .int .i64 x4] 102)) 61 #[.slice none 0 0]
    rwa [World.size_alloc, World.size_alloc] at this
  have H1 := Lib.hid (h1.keep (L0.mono hL))
  have HI := Lib.hid hI
  have HS := Lib.hid S0
  have HL0 : Hid (L ≤ W0.heap.size) := (show L ≤ W0.heap.size by omega)
  have s0 : W0.cell? ⟨w.heap.size, 0, none⟩ = some (.slice A n cap) := BS.cell 0
  have HB := Lib.hid (And.intro BS (And.intro BF BR))
  clear h1 hI S0 BS BF BR
  go_enter Try.func70, Try.ntmps70
  go_wp2_with fail
  clear hW0
  refine (l05Copy_c L A n cap F _ H1.out HL0.out (by omega)).mono ?_
  rintro e w1 ⟨A0, c0, rfl, o1, b1⟩
  have a0 : Below w1.heap.size w1 (w1.alloc (.cells #[.slice A0 n c0] 61)) := andAlloc (Below.refl _ _) _
  have BG : Blk (w1.alloc (.cells #[.slice A0 n c0] 61)) w1.heap.size 61 #[.slice A0 n c0] := Blk.new _ _ _
  have l1 := andThen b1 a0
  have o2 := o1.alloc (.cells #[.slice A0 n c0] 61)
  have zz1 : (w1.alloc (.cells #[.slice A0 n c0] 61)).heap.size = w1.heap.size + 1 := by simp
  have hlt1 := b1.size
  clear b1 a0 o1 s0
  go_upto_region 2 with fail
  generalize w1.alloc (.cells #[.slice A0 n c0] 61) = W1 at BG l1 o2 zz1 ⊢
  have BF1 := HB.out.2.1.below l1 (by have := HS.out; omega)
  have g0 : W1.cell? ⟨w1.heap.size, 0, none⟩ = some (.slice A0 n c0) := BG.cell 0
  have h0 : W1.cell? ⟨w.heap.size + 1, 0, none⟩ = some (.int .i64 x0) := BF1.cell 0
  have h1 : W1.cell? ⟨w.heap.size + 1, 1, none⟩ = some (.int .i64 x1) := BF1.cell 1
  have h2 : W1.cell? ⟨w.heap.size + 1, 2, none⟩ = some (.int .i64 x2) := BF1.cell 2
  have h3 : W1.cell? ⟨w.heap.size + 1, 3, none⟩ = some (.int .i64 x3) := BF1.cell 3
  have h4 : W1.cell? ⟨w.heap.size + 1, 4, none⟩ = some (.int .i64 x4) := BF1.cell 4
  have HNW := Lib.hid (oneF_newsf (W1.alloc (.cells #[.int .i64 x0, .int .i64 x1, .int .i64 x2, .int .i64 x3, .int .i64 x4] 102)) n F HI.out (Blk.new W1 102 #[.int .i64 x0, .int .i64 x1, .int .i64 x2, .int .i64 x3, .int .i64 x4]))
  have HO2 := Lib.hid ((o2.addRow (oneFf x0 x1 x2 x3 x4)).alloc (.cells #[.int .i64 x0, .int .i64 x1, .int .i64 x2, .int .i64 x3, .int .i64 x4] 102))
  have HAP := Lib.hid ((o2.alloc (.cells #[.int .i64 x0, .int .i64 x1, .int .i64 x2, .int .i64 x3, .int .i64 x4] 102)).apart (BG.alloc (.cells #[.int .i64 x0, .int .i64 x1, .int .i64 x2, .int .i64 x3, .int .i64 x4] 102)) (by decide))
  have HBG := Lib.hid (BG.alloc (.cells #[.int .i64 x0, .int .i64 x1, .int .i64 x2, .int .i64 x3, .int .i64 x4] 102))
  have hw1 : W0.heap.size ≤ (W1.alloc (.cells #[.int .i64 x0, .int .i64 x1, .int .i64 x2, .int .i64 x3, .int .i64 x4] 102)).heap.size := by rw [World.size_alloc]; omega
  have HLL := Lib.hid (andAlloc l1 (.cells #[.int .i64 x0, .int .i64 x1, .int .i64 x2, .int .i64 x3, .int .i64 x4] 102))
  have HZ := Lib.hid (And.intro zz1 hlt1)
  clear BF1 o2 BG l1 zz1 hlt1
  go_wp2_with (at_builtin; refine wpList_append_ownV (v := .slice A0 n c0) (n := n) (base := W0.heap.size) (F := addRow F n (oneFf x0 x1 x2 x3 x4)) rfl _ _ 59 rfl i0 _ 40 Try.underlying59 hi hz0 hz1 hz2 rfl (by decide) rfl HO2.out _ 1 1 rfl HNW.out (by unfold maxLen; omega) (by omega) hw1 ?_)
  intro A1 c1 w2 V2 hg2
  have Bg2 := hg2.blk HBG.out HAP.out
  have sg2 : w2.cell? ⟨w1.heap.size, 0, none⟩ = some (.slice A0 n c0) := Bg2.cell 0
  have fg2 := Bg2.frozen 0
  have Bg := Bg2.set1 (.slice A1 (n + 1) c1)
  have V1 := V2.setOther (p := ⟨w1.heap.size, 0, none⟩) (V2.apart Bg2 (by decide)) (.slice A1 (n + 1) c1)
  have b1 := (hg2.below HLL.out (Nat.le_refl _) hw1).setCell (show W0.heap.size ≤ w1.heap.size from HZ.out.2) (Value.slice A1 (n + 1) c1) (p := ⟨w1.heap.size, 0, none⟩)
  have HCUT := Lib.hid (And.intro Bg (And.intro V1 b1))
  clear V2 hg2 Bg2 Bg V1 b1 HBG HAP HO2 HNW g0 h0 h1 h2 h3 h4 HLL HZ hw1
  go_upto_region 3 with fail
  clear sg2 fg2
  obtain ⟨Bg, V1, b1⟩ := HCUT.out
  clear HCUT
  generalize hG : w1.heap.size = g at *
  clear hG
  generalize w2.setCell ⟨g, 0, none⟩ (.slice A1 (n + 1) c1) = wc at *
  obtain ⟨A1', c1', e1, tg⟩ := V1.tab
  obtain ⟨rfl, _, rfl⟩ : A1 = A1' ∧ n = n ∧ c1 = c1' := by injection e1 with x y z; exact ⟨x, rfl, z⟩
  have z0 := HS.out
  have BSc := HB.out.1.below b1 (by omega)
  have BRc := HB.out.2.2.below b1 (by omega)
  have sl : wc.cell? ⟨w.heap.size, 0, none⟩ = some (.slice A n cap) := BSc.cell 0
  have sg : wc.cell? ⟨g, 0, none⟩ = some (.slice A1 (n + 1) c1) := Bg.cell 0
  have T1 := Lib.hid (H1.out.keep (b1.mono HL0.out))
  have TG := Lib.hid tg
  have lc := L0.trans (b1.mono L0.size)
  have zc := b1.size
  have zl := HL0.out
  have HV := Lib.hid V1
  have HBR := Lib.hid BRc
  clear V1 Bg BSc BRc e1 tg HB HI b1 L0
  cases q1 : storeB n F
  case false =>
    have hok : addOkf n F (oneFf x0 x1 x2 x3 x4) = false := by unfold addOkf; rw [q1]; rfl
    have hlen : addLenf n F (oneFf x0 x1 x2 x3 x4) = n := by unfold addLenf; rw [hok]; rfl
    have HOK := Lib.hid hok
    have HLEN := Lib.hid hlen
    clear hok hlen
    go_wp2_with fail
    refine (specStoreOk_c L A n cap F _ T1.out (by omega) (by omega)).mono ?_
    rintro e w2 ⟨rfl, b2⟩
    rw [q1]
    have s2 := cell_later b2 sl
    have l2 := andThen lc b2
    have T2 := Lib.hid (T1.out.keep (b2.mono (by omega)))
    have HBR2 := Lib.hid (HBR.out.later' b2)
    have z2 := b2.size
    clear sl sg b2 lc T1 HBR
    go_wp2_with fail
    refine (l05Copy_c L A n cap F _ T2.out (by omega) (by omega)).mono ?_
    rintro e w3 ⟨A3, c3, rfl, o3, b3⟩
    have l3 := andThen l2 b3
    have HBR3 := HBR2.out.later' b3
    have z3 := b3.size
    have f3 := HBR3.frozen 0
    have d3 : w3.cell? ⟨w.heap.size + 1 + 1, 0, none⟩ = some (.slice none 0 0) := HBR3.cell 0
    have r0 : (w3.setCell ⟨w.heap.size + 1 + 1, 0, none⟩ (.slice A3 n c3)).cell? ⟨w.heap.size + 1 + 1, 0, none⟩ = some (.slice A3 n c3) := World.cell?_setCell_same' _ _ _ (by rw [d3]; rfl)
    have o4 := ((o3.set (p := ⟨w.heap.size + 1 + 1, 0, none⟩) (by show w.heap.size + 1 + 1 < _; omega) (.slice A3 n c3)).more (b := w.heap.size) (by omega)).addRow (oneFf x0 x1 x2 x3 x4)
    have O4 := Lib.hid o4
    have l4 := below_put l3 (show w.heap.size ≤ w.heap.size + 1 + 1 by omega) 0 (.slice A3 n c3)
    have L4 := Lib.hid l4
    clear b3 o3 o4 l3 l4 HBR3 HBR2 s2 l2
    go_wp2_with fail
    refine bodyPost_ret (v := .tuple #[.agg #[.slice A3 n c3], .bool false]) (by simp [results, Try.results70, go_sem, r0]) rfl ?_
    refine ⟨A3, c3, by rw [HOK.out, HLEN.out], ?_, L4.out⟩
    rw [HLEN.out]
    exact O4.out
  case true =>
    cases q2 : storeB (n + 1) (addRow F n (oneFf x0 x1 x2 x3 x4))
    case false =>
      have hok : addOkf n F (oneFf x0 x1 x2 x3 x4) = false := by unfold addOkf; rw [q1, q2]; rfl
      have hlen : addLenf n F (oneFf x0 x1 x2 x3 x4) = n := by unfold addLenf; rw [hok]; rfl
      have HOK := Lib.hid hok
      have HLEN := Lib.hid hlen
      clear hok hlen
      go_wp2_with fail
      refine (specStoreOk_c L A n cap F _ T1.out (by omega) (by omega)).mono ?_
      rintro e w2' ⟨rfl, b2'⟩
      rw [q1]
      have s2' := cell_later b2' sl
      have sg' := cell_later b2' sg
      have l2' := andThen lc b2'
      have T2' := Lib.hid (T1.out.keep (b2'.mono (by omega)))
      have TG' := Lib.hid (TG.out.keep b2')
      have HBR2' := Lib.hid (HBR.out.later' b2')
      have z2' := b2'.size
      clear sl sg b2' lc T1 HBR
      go_wp2_with fail
      refine (specStoreOk_c wc.heap.size A1 (n + 1) c1 _ _ TG'.out (by omega) (by omega)).mono ?_
      rintro e w2 ⟨rfl, b2⟩
      rw [q2]
      have s2 := cell_later b2 s2'
      have l2 := andThen l2' b2
      have T2 := Lib.hid (T2'.out.keep (b2.mono (by omega)))
      have HBR2 := Lib.hid (HBR2'.out.later' b2)
      have z2 := b2.size
      clear s2' sg' b2 l2' T2' HBR2'
      go_wp2_with fail
      refine (l05Copy_c L A n cap F _ T2.out (by omega) (by omega)).mono ?_
      rintro e w3 ⟨A3, c3, rfl, o3, b3⟩
      have l3 := andThen l2 b3
      have HBR3 := HBR2.out.later' b3
      have z3 := b3.size
      have f3 := HBR3.frozen 0
      have d3 : w3.cell? ⟨w.heap.size + 1 + 1, 0, none⟩ = some (.slice none 0 0) := HBR3.cell 0
      have r0 : (w3.setCell ⟨w.heap.size + 1 + 1, 0, none⟩ (.slice A3 n c3)).cell? ⟨w.heap.size + 1 + 1, 0, none⟩ = some (.slice A3 n c3) := World.cell?_setCell_same' _ _ _ (by rw [d3]; rfl)
      have o4 := ((o3.set (p := ⟨w.heap.size + 1 + 1, 0, none⟩) (by show w.heap.size + 1 + 1 < _; omega) (.slice A3 n c3)).more (b := w.heap.size) (by omega)).addRow (oneFf x0 x1 x2 x3 x4)
      have O4 := Lib.hid o4
      have l4 := below_put l3 (show w.heap.size ≤ w.heap.size + 1 + 1 by omega) 0 (.slice A3 n c3)
      have L4 := Lib.hid l4
      clear b3 o3 o4 l3 l4 HBR3 HBR2 s2 l2
      go_wp2_with fail
      refine bodyPost_ret (v := .tuple #[.agg #[.slice A3 n c3], .bool false]) (by simp [results, Try.results70, go_sem, r0]) rfl ?_
      refine ⟨A3, c3, by rw [HOK.out, HLEN.out], ?_, L4.out⟩
      rw [HLEN.out]
      exact O4.out
    case true =>
      have hok : addOkf n F (oneFf x0 x1 x2 x3 x4) = true := by unfold addOkf; rw [q1, q2]; rfl
      have hlen : addLenf n F (oneFf x0 x1 x2 x3 x4) = n + 1 := by unfold addLenf; rw [hok]; rfl
      have HOK := Lib.hid hok
      have HLEN := Lib.hid hlen
      clear hok hlen
      go_wp2_with fail
      refine (specStoreOk_c L A n cap F _ T1.out (by omega) (by omega)).mono ?_
      rintro e w2 ⟨rfl, b2⟩
      rw [q1]
      have s2 := cell_later b2 sl
      have sg2 := cell_later b2 sg
      have l2 := andThen lc b2
      have TG2 := Lib.hid (TG.out.keep b2)
      have HBR2 := Lib.hid (HBR.out.later' b2)
      have HV2 := Lib.hid (HV.out.below b2)
      have z2 := b2.size
      clear sl sg b2 lc T1 HBR HV
      go_wp2_with fail
      refine (specStoreOk_c wc.heap.size A1 (n + 1) c1 _ _ TG2.out (by omega) (by omega)).mono ?_
      rintro e w3 ⟨rfl, b3⟩
      rw [q2]
      have sg3 := cell_later b3 sg2
      have l3 := andThen l2 b3
      have HBR3 := HBR2.out.later' b3
      have o3 := HV2.out.below b3
      have f3 := HBR3.frozen 0
      have d3 : w3.cell? ⟨w.heap.size + 1 + 1, 0, none⟩ = some (.slice none 0 0) := HBR3.cell 0
      have r0 : (w3.setCell ⟨w.heap.size + 1 + 1, 0, none⟩ (.slice A1 (n + 1) c1)).cell? ⟨w.heap.size + 1 + 1, 0, none⟩ = some (.slice A1 (n + 1) c1) := World.cell?_setCell_same' _ _ _ (by rw [d3]; rfl)
      have o4 := (o3.set (p := ⟨w.heap.size + 1 + 1, 0, none⟩) (by show w.heap.size + 1 + 1 < _; omega) (.slice A1 (n + 1) c1)).more (b := w.heap.size) (by omega)
      have O4 := Lib.hid o4
      have l4 := below_put l3 (show w.heap.size ≤ w.heap.size + 1 + 1 by omega) 0 (.slice A1 (n + 1) c1)
      have L4 := Lib.hid l4
      clear b3 o3 o4 l3 l4 HBR3 HBR2 HV2 sg2 s2 l2
      go_wp2_with fail
      refine bodyPost_ret (v := .tuple #[.agg #[.slice A1 (n + 1) c1], .bool true]) (by simp [results, Try.results70, go_sem, r0]) rfl ?_
      refine ⟨A1, c1, by rw [HOK.out, HLEN.out], ?_, L4.out⟩
      rw [HLEN.out]
      exact O4.out


end Go.Proofs.Ytlpaicpjadkceaa
