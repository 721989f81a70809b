/-
  StoreAsOf: the plain function (the facts that were known); spec.StoreAsOf computes it into a new row. Conditions: the facts can be read.
-/
import Derived.Test.YtmehfclhmbhjaaaStoreIn
import Derived.Test.YtmehfclhmbhjaaaFactMark
import Derived.Deep.RegionHeld3
import Derived.Deep.RegionLaw
import Derived.StillTailTactics
namespace Go.Proofs.Ytmehfclhmbhjaaa
open Go.RowKit
set_option linter.unusedVariables false
set_option maxRecDepth 4000

def keepB (F : Nat → Nat → Int) (kn : Int) (i : Nat) : Bool := decide (F i 3 ≤ kn)
def selL (F : Nat → Nat → Int) (kn : Int) (n : Nat) : List Nat := (List.range n).filter (keepB F kn)
def pickF (F : Nat → Nat → Int) (l : List Nat) (i j : Nat) : Int := F (l.getD i 0) j
theorem selL_yes {F : Nat → Nat → Int} {kn : Int} {n : Nat} (h : keepB F kn n = true) : selL F kn (n + 1) = selL F kn n ++ [n] := by
  unfold selL
  rw [List.range_succ, List.filter_append]
  simp [h]
theorem selL_no {F : Nat → Nat → Int} {kn : Int} {n : Nat} (h : keepB F kn n = false) : selL F kn (n + 1) = selL F kn n := by
  unfold selL
  rw [List.range_succ, List.filter_append]
  simp [h]
theorem selL_len (F : Nat → Nat → Int) (kn : Int) (n : Nat) : (selL F kn n).length ≤ n := by
  unfold selL
  have := List.length_filter_le (keepB F kn) (List.range n)
  simpa using this
theorem selL_all {F : Nat → Nat → Int} {kn : Int} : ∀ {n : Nat}, (∀ i, i < n → keepB F kn i = true) → selL F kn n = List.range n
  | 0, _ => rfl
  | n + 1, h => by rw [selL_yes (h n (by omega)), selL_all (fun i hi => h i (by omega)), List.range_succ]
theorem pickF_old {F : Nat → Nat → Int} {l : List Nat} {x i j : Nat} (h : i < l.length) : pickF F (l ++ [x]) i j = pickF F l i j := by
  unfold pickF
  rw [List.getD_eq_getElem?_getD, List.getD_eq_getElem?_getD, List.getElem?_append_left h]
theorem pickF_new {F : Nat → Nat → Int} {l : List Nat} {x j : Nat} : pickF F (l ++ [x]) l.length j = F x j := by
  unfold pickF
  congr 1
  simp
theorem pickF_range {F : Nat → Nat → Int} {n i j : Nat} (h : i < n) : pickF F (List.range n) i j = F i j := by
  unfold pickF
  congr 1
  simp [h]

/-- A result that is a store in a new row. -/
def BoxAs (F : Nat → Nat → Int) (kn : Int) (n : Nat) (w : World) (e : Ending) (w' : World) : Prop :=
  ∃ A cap, e = .returned (.agg #[.slice A (selL F kn n).length cap]) ∧ OwnV 5 54 w' w.heap.size (.slice A (selL F kn n).length cap) (selL F kn n).length (pickF F (selL F kn n)) ∧ Below w.heap.size w w'

set_option maxHeartbeats 4000000 in
theorem specStoreAsOf_c (L : Nat) (A : Option Addr) (n cap : Nat) (F : Nat → Nat → Int) (kn : Int) (w : World) (h1 : Tab 5 w L A n F) (hL : L ≤ w.heap.size) (hn : n ≤ 1048577) :
    Calls Try.prog 31 #[.agg #[.slice A n cap], .int .i64 kn] w (BoxAs F kn n w) := by
  obtain ⟨i0, hi, hz0, hz1, hz2⟩ := info_parts info_Fact
  have H1 := Lib.hid h1
  clear h1
  go_enter Try.func31, Try.ntmps31
  go_wp2_with fail
  go_loopw [6] (fun i wr => ∃ k : Nat, k ≤ n ∧ i = .int .i64 k ∧ (wr.cell? ⟨w.heap.size, 0, none⟩ = some (.slice A n cap)) ∧ (Blk wr (w.heap.size + 1) 38 #[.slice none 0 0]) ∧
      (∃ A' c', Blk wr (w.heap.size + 1 + 1) 38 #[.slice A' (selL F kn k).length c'] ∧ OwnV 5 54 wr (w.heap.size + 1 + 1 + 1) (.slice A' (selL F kn k).length c') (selL F kn k).length (pickF F (selL F kn k))) ∧ Below w.heap.size w wr) (fun i _ => n - (intOf i).toNat)
  case atStart =>
    refine ⟨0, Nat.zero_le _, rfl, by go_simp, ?_, ⟨none, 0, ?_, ownV_none⟩, andAlloc (andAlloc (andAlloc (Below.refl _ _) _) _) _⟩
    · have := Blk.new (w.alloc (.cells #[.slice A n cap] 38)) 38 #[.slice none 0 0]
      rw [World.size_alloc] at this
      exact this.alloc _
    · have := Blk.new ((w.alloc (.cells #[.slice A n cap] 38)).alloc (.cells #[.slice none 0 0] 38)) 38 #[.slice none 0 0]
      rw [World.size_alloc, World.size_alloc] at this
      exact this
  case round =>
    obtain ⟨k, hk, rfl, sl, br, ⟨A', c', bo, hown⟩, hbl⟩ := hrel
    have hlen := selL_len F kn k
    have so : wr.cell? ⟨w.heap.size + 1 + 1, 0, none⟩ = some (.slice A' (selL F kn k).length c') := bo.cell 0
    have fo := bo.frozen 0
    have sr : wr.cell? ⟨w.heap.size + 1, 0, none⟩ = some (.slice none 0 0) := br.cell 0
    have fr := br.frozen 0
    have hwr := bo.lt
    by_cases hlt : k < n
    · obtain ⟨b, off, rfl, hb, ⟨c0, c1, c2, c3, c4⟩, ⟨d0, d1, d2, d3, d4⟩⟩ := (H1.out.keep (hbl.mono hL)).at5 hlt
      have k0 : (0 : Int) ≤ (k : Int) := by omega
      have k1 : (k : Int) < (n : Int) := by omega
      cases hq : keepB F kn k
      case false =>
        have HN := Lib.hid (selL_no hq)
        have hq' : decide (F k 3 ≤ kn) = false := hq
        clear hq
        generalize F k 3 = x3 at *
        go_wp2_with fail
        go_roundw
        case rel => exact ⟨k + 1, by omega, by go_num, sl, br, ⟨A', c', by rw [HN.out]; exact bo, by rw [HN.out]; exact hown⟩, hbl⟩
        case measure => simp [intOf]; omega
      case true =>
        have HN := Lib.hid (selL_yes hq)
        have hq' : decide (F k 3 ≤ kn) = true := hq
        have hown2 : OwnV 5 54 wr (w.heap.size + 1 + 1 + 1) (.slice A' (selL F kn k).length c') (selL F kn k).length (pickF F (selL F kn (k + 1))) := hown.congr fun i hi j _ => by rw [HN.out, pickF_old hi]
        have HNEW : Hid (∀ j, pickF F (selL F kn (k + 1)) (selL F kn k).length j = F k j) := fun j => by rw [HN.out, pickF_new]
        have HLEN : Hid ((selL F kn (k + 1)).length = (selL F kn k).length + 1) := by show _ = _; rw [HN.out]; simp
        have hNW : NewsT 5 (wr.alloc (.cells #[.int .i64 (F k 0), .int .i64 (F k 1), .int .i64 (F k 2), .int .i64 (F k 3), .int .i64 (F k 4)] 54)) (some ⟨wr.heap.size, 0, none⟩) 1 (selL F kn k).length (pickF F (selL F kn (k + 1))) :=
          news_one [.int .i64 (F k 0), .int .i64 (F k 1), .int .i64 (F k 2), .int .i64 (F k 3), .int .i64 (F k 4)] (heap_alloc_new wr _) rfl fun j hj => by
            rw [HNEW.out]
            rcases (show j = 0 ∨ j = 1 ∨ j = 2 ∨ j = 3 ∨ j = 4 by omega) with rfl | rfl | rfl | rfl | rfl
            · exact ⟨rfl, d0⟩
            · exact ⟨rfl, d1⟩
            · exact ⟨rfl, d2⟩
            · exact ⟨rfl, d3⟩
            · exact ⟨rfl, d4⟩
        have HNW := Lib.hid hNW
        have HOW := Lib.hid hown2
        clear hq hNW hown2 hown d0 d1 d2 d3 d4
        obtain ⟨q, hq0⟩ : ∃ q, (selL F kn k).length = q := ⟨_, rfl⟩
        rw [hq0] at HNW HOW HLEN so hlen bo
        clear hq0 HNEW HN
        generalize F k 0 = x0 at *
        generalize F k 1 = x1 at *
        generalize F k 2 = x2 at *
        generalize F k 3 = x3 at *
        generalize F k 4 = x4 at *
        have hb1 : Below wr.heap.size wr (wr.alloc (.cells #[.int .i64 x0, .int .i64 x1, .int .i64 x2, .int .i64 x3, .int .i64 x4] 54)).drew := ((Below.refl _ _).alloc (Nat.le_refl _) _).drew
        have HSO := Lib.hid (And.intro (cell_later hb1 so) ((hb1.frozen (p := ⟨w.heap.size + 1 + 1, 0, none⟩) hwr).trans fo))
        have hb2 := andThen hbl hb1
        have hr1 := bo.below hb1 hwr
        have hbr1 := br.below hb1 (by omega)
        have hsl1 := cell_later hb1 sl
        have HH := Lib.hid (And.intro hb2 (And.intro hr1 (And.intro hbr1 hsl1)))
        clear hb1 hb2 hr1 hbr1 hsl1 hbl
        go_wp2_with fail
        go_region_law (refine step_append_ownV (F := pickF F (selL F kn (k + 1))) (by rfl) _ _ _ (by rfl) i0 _ 40 Try.underlying36 hi hz0 hz1 hz2 rfl (by omega) (by rfl) (HOW.out.alloc _).drew _ 1 1 (by rfl) (HNW.out) (by unfold maxLen; omega) (by omega) (by simp; omega) ?_; intro A2 c2 w2 hown3 hg3; have so2 := hg3.low (by show w.heap.size + 1 + 1 < _; omega) HSO.out.1; have fo2 := hg3.lowf (by show w.heap.size + 1 + 1 < _; omega) (by show w.heap.size + 1 + 1 < _; simp; omega) HSO.out.2)
        all_goals
          obtain ⟨hb2, hr1, hbr1, hsl1⟩ := HH.out
          have bo3 : Blk (w2.setCell ⟨w.heap.size + 1 + 1, 0, none⟩ (.slice A2 (q + 1) c2)) (w.heap.size + 1 + 1) 38 #[.slice A2 (q + 1) c2] := by
            have := Blk.set_ ((hg3.block (by simp; omega) (by omega)).trans hr1) 0 (.slice A2 (q + 1) c2)
            simpa using this
          have br3 : Blk (w2.setCell ⟨w.heap.size + 1 + 1, 0, none⟩ (.slice A2 (q + 1) c2)) (w.heap.size + 1) 38 #[.slice none 0 0] :=
            Blk.far ((hg3.block (by simp; omega) (by omega)).trans hbr1) (by show w.heap.size + 1 ≠ w.heap.size + 1 + 1; omega) _
          have sl3 : (w2.setCell ⟨w.heap.size + 1 + 1, 0, none⟩ (.slice A2 (q + 1) c2)).cell? ⟨w.heap.size, 0, none⟩ = some (.slice (some ⟨b, off, none⟩) n cap) :=
            (World.cell?_setCell_far _ _ _ _ (by show w.heap.size + 1 + 1 ≠ w.heap.size; omega)).trans (hg3.low (by show w.heap.size < _; omega) hsl1)
          have hown4 := hown3.set (p := ⟨w.heap.size + 1 + 1, 0, none⟩) (by show w.heap.size + 1 + 1 < _; omega) (.slice A2 (q + 1) c2)
          have hbl4 := below_put (hg3.below hb2 (by omega) (by simp; omega)) (show w.heap.size ≤ w.heap.size + 1 + 1 by omega) 0 (.slice A2 (q + 1) c2)
          have HF := Lib.hid (And.intro bo3 (And.intro br3 (And.intro sl3 (And.intro hown4 hbl4))))
          clear bo3 br3 sl3 hown4 hbl4 hown3 hg3 hb2 hr1 hbr1 hsl1 so2 fo2
          go_wp2_with fail
          go_roundw
          case rel => exact ⟨k + 1, by omega, by go_num, HF.out.2.2.1, HF.out.2.1, ⟨A2, c2, by rw [HLEN.out]; exact HF.out.1, by rw [HLEN.out]; exact HF.out.2.2.2.1⟩, HF.out.2.2.2.2⟩
          case measure => simp [intOf]; omega
    · obtain rfl : k = n := by omega
      have hown2 := Lib.hid ((hown.set (p := ⟨w.heap.size + 1, 0, none⟩) (by show w.heap.size + 1 < _; omega) (.slice A' (selL F kn k).length c')).more (b := w.heap.size) (by omega))
      have hbl2 := Lib.hid (below_put hbl (show w.heap.size ≤ w.heap.size + 1 by omega) 0 (.slice A' (selL F kn k).length c'))
      have r0 : (wr.setCell ⟨w.heap.size + 1, 0, none⟩ (.slice A' (selL F kn k).length c')).cell? ⟨w.heap.size + 1, 0, none⟩ = some (.slice A' (selL F kn k).length c') := World.cell?_setCell_same' _ _ _ (by rw [sr]; rfl)
      clear hown hbl bo br
      go_wp2_with fail
      refine bodyPost_ret (v := .agg #[.slice A' (selL F kn k).length c']) (by simp [results, Try.results31, go_sem, r0]) rfl ?_
      exact ⟨A', c', rfl, hown2.out, hbl2.out⟩

end Go.Proofs.Ytmehfclhmbhjaaa
