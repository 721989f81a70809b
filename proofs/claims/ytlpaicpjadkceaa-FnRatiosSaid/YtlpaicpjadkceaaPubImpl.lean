/-
  impl.Publish returns the Series with one element more, or a copy. Conditions: the elements can be read.
-/
import Derived.Test.YtlpaicpjadkceaaApart
import Derived.Test.YtlpaicpjadkceaaSeriesOk
import Derived.Test.YtlpaicpjadkceaaPointMark
import Derived.Deep.RegionHeld3
import Derived.Deep.DeepCutAuto
namespace Go.Proofs.Ytlpaicpjadkceaa
open Go.RowKit
set_option linter.unusedVariables false
set_option maxRecDepth 4000

/-- One element's fields. -/
def oneF (x0 x1 x2 : Int) (j : Nat) : Int := if j = 0 then x0 else if j = 1 then x1 else x2
theorem oneF_news (w : World) (n : Nat) (F : Nat → Nat → Int) {x0 x1 x2 : Int} (h : I64 x0 ∧ I64 x1 ∧ I64 x2) {g : Nat} (hb : Blk w g 46 #[.int .i64 x0, .int .i64 x1, .int .i64 x2]) :
    NewsT 3 w (some ⟨g, 0, none⟩) 1 n (addRow F n (oneF x0 x1 x2)) :=
  news_one [.int .i64 x0, .int .i64 x1, .int .i64 x2] hb rfl fun j hj => by
    rw [addRow_new]
    rcases (show j = 0 ∨ j = 1 ∨ j = 2 by omega) with rfl | rfl | rfl
    · exact ⟨rfl, h.1⟩
    · exact ⟨rfl, h.2.1⟩
    · exact ⟨rfl, h.2.2⟩

def addOk (n : Nat) (F : Nat → Nat → Int) (P : Nat → Int) : Bool := seriesB n F && seriesB (n + 1) (addRow F n P)
def addLen (n : Nat) (F : Nat → Nat → Int) (P : Nat → Int) : Nat := if addOk n F P = true then n + 1 else n
theorem addLen_le (n : Nat) (F : Nat → Nat → Int) (P : Nat → Int) : addLen n F P ≤ n + 1 := by
  unfold addLen; split <;> omega
/-- What it leaves. -/
def AddEnd (n : Nat) (F : Nat → Nat → Int) (P : Nat → Int) (w : World) (e : Ending) (w' : World) : Prop :=
  ∃ A cap, e = .returned (.tuple #[.agg #[.slice A (addLen n F P) cap], .bool (addOk n F P)]) ∧ OwnV 3 46 w' w.heap.size (.slice A (addLen n F P) cap) (addLen n F P) (addRow F n P) ∧ Below w.heap.size w w'
theorem ks {W0 w1 : World} {p0 p1 p2 p3 : Addr} {v0 v1 v2 v3 : Value} (h0 : Below W0.heap.size W0 W0 ∧ W0.cell? p0 = some v0 ∧ W0.cell? p1 = some v1 ∧ W0.cell? p2 = some v2 ∧ W0.cell? p3 = some v3) (hb : Below W0.heap.size W0 w1) : Below W0.heap.size W0 w1 ∧ w1.cell? p0 = some v0 ∧ w1.cell? p1 = some v1 ∧ w1.cell? p2 = some v2 ∧ w1.cell? p3 = some v3 :=
  ⟨hb, (hb.cell (World.block_lt_of_cell? _ _ h0.2.1)).trans h0.2.1, (hb.cell (World.block_lt_of_cell? _ _ h0.2.2.1)).trans h0.2.2.1, (hb.cell (World.block_lt_of_cell? _ _ h0.2.2.2.1)).trans h0.2.2.2.1, (hb.cell (World.block_lt_of_cell? _ _ h0.2.2.2.2)).trans h0.2.2.2.2⟩
theorem ks_drew {W0 W : World} {p0 p1 p2 p3 : Addr} {v0 v1 v2 v3 : Value} {q : Nat} (h : Below W0.heap.size W0 W ∧ W.cell? p0 = some v0 ∧ W.cell? p1 = some v1 ∧ W.cell? p2 = some v2 ∧ W.cell? p3 = some v3) : Below W0.heap.size W0 (W.drewN q) ∧ (W.drewN q).cell? p0 = some v0 ∧ (W.drewN q).cell? p1 = some v1 ∧ (W.drewN q).cell? p2 = some v2 ∧ (W.drewN q).cell? p3 = some v3 := ⟨andDrewN h.1 q, h.2⟩
theorem ks_alloc {W0 W : World} {p0 p1 p2 p3 : Addr} {v0 v1 v2 v3 : Value} {o : Obj} (h0 : Below W0.heap.size W0 W0 ∧ W0.cell? p0 = some v0 ∧ W0.cell? p1 = some v1 ∧ W0.cell? p2 = some v2 ∧ W0.cell? p3 = some v3) (h : Below W0.heap.size W0 W ∧ W.cell? p0 = some v0 ∧ W.cell? p1 = some v1 ∧ W.cell? p2 = some v2 ∧ W.cell? p3 = some v3) : Below W0.heap.size W0 (W.alloc o) ∧ (W.alloc o).cell? p0 = some v0 ∧ (W.alloc o).cell? p1 = some v1 ∧ (W.alloc o).cell? p2 = some v2 ∧ (W.alloc o).cell? p3 = some v3 := ks h0 (andAlloc h.1 o)
theorem ks_call {W0 W w1 : World} {p0 p1 p2 p3 : Addr} {v0 v1 v2 v3 : Value} (h0 : Below W0.heap.size W0 W0 ∧ W0.cell? p0 = some v0 ∧ W0.cell? p1 = some v1 ∧ W0.cell? p2 = some v2 ∧ W0.cell? p3 = some v3) (b : Below W.heap.size W w1) (h : Below W0.heap.size W0 W ∧ W.cell? p0 = some v0 ∧ W.cell? p1 = some v1 ∧ W.cell? p2 = some v2 ∧ W.cell? p3 = some v3) : Below W0.heap.size W0 w1 ∧ w1.cell? p0 = some v0 ∧ w1.cell? p1 = some v1 ∧ w1.cell? p2 = some v2 ∧ w1.cell? p3 = some v3 := ks h0 (andThen h.1 b)
theorem ks_grew {W0 W w1 : World} {p0 p1 p2 p3 : Addr} {v0 v1 v2 v3 : Value} {v : Value} (h0 : Below W0.heap.size W0 W0 ∧ W0.cell? p0 = some v0 ∧ W0.cell? p1 = some v1 ∧ W0.cell? p2 = some v2 ∧ W0.cell? p3 = some v3) (g : Grew W w1 W0.heap.size v) (h : Below W0.heap.size W0 W ∧ W.cell? p0 = some v0 ∧ W.cell? p1 = some v1 ∧ W.cell? p2 = some v2 ∧ W.cell? p3 = some v3) : Below W0.heap.size W0 w1 ∧ w1.cell? p0 = some v0 ∧ w1.cell? p1 = some v1 ∧ w1.cell? p2 = some v2 ∧ w1.cell? p3 = some v3 := ks h0 (g.below h.1 (Nat.le_refl _) h.1.size)
theorem ks_set {W0 W : World} {p0 p1 p2 p3 : Addr} {v0 v1 v2 v3 : Value} {p : Addr} {u : Value} (h0 : Below W0.heap.size W0 W0 ∧ W0.cell? p0 = some v0 ∧ W0.cell? p1 = some v1 ∧ W0.cell? p2 = some v2 ∧ W0.cell? p3 = some v3) (hp : W0.heap.size ≤ p.block) (h : Below W0.heap.size W0 W ∧ W.cell? p0 = some v0 ∧ W.cell? p1 = some v1 ∧ W.cell? p2 = some v2 ∧ W.cell? p3 = some v3) : Below W0.heap.size W0 (W.setCell p u) ∧ (W.setCell p u).cell? p0 = some v0 ∧ (W.setCell p u).cell? p1 = some v1 ∧ (W.setCell p u).cell? p2 = some v2 ∧ (W.setCell p u).cell? p3 = some v3 := ks h0 (h.1.setCell hp u)

set_option maxHeartbeats 8000000 in
theorem implPublish_c (L : Nat) (A : Option Addr) (n cap : Nat) (F : Nat → Nat → Int) (x0 x1 x2 : Int) (hI : I64 x0 ∧ I64 x1 ∧ I64 x2) (w : World) (h1 : Tab 3 w L A n F) (hL : L ≤ w.heap.size) (hn : n ≤ 1048576) :
    Calls Try.prog 29 #[.agg #[.slice A n cap], .agg #[.int .i64 x0, .int .i64 x1, .int .i64 x2]] w (AddEnd n F (oneF x0 x1 x2) w) := by
  obtain ⟨i0, hi, hz0, hz1, hz2⟩ := info_parts info_Point
  obtain ⟨W0, hW0⟩ : ∃ W0, ((w.alloc (.cells #[.slice A n cap] 30)).alloc (.cells #[.int .i64 x0, .int .i64 x1, .int .i64 x2] 46)).alloc (.cells #[.slice none 0 0] 30) = W0 := ⟨_, rfl⟩
  have L0 : Below w.heap.size w W0 := by rw [← hW0]; exact andAlloc (andAlloc (andAlloc (Below.refl _ _) _) _) _
  have S0 : W0.heap.size = w.heap.size + 1 + 1 + 1 := by rw [← hW0]; simp
  have BS : Blk W0 w.heap.size 30 #[.slice A n cap] := by rw [← hW0]; exact ((Blk.new _ _ _).alloc _).alloc _
  have BF : Blk W0 (w.heap.size + 1) 46 #[.int .i64 x0, .int .i64 x1, .int .i64 x2] := by
    rw [← hW0]
    have := (Blk.new (w.alloc (.cells #[.slice A n cap] 30)) 46 #[.int .i64 x0, .int .i64 x1, .int .i64 x2]).alloc (.cells #[.slice none 0 0] 30)
    rwa [World.size_alloc] at this
  have BR : Blk W0 (w.heap.size + 1 + 1) 30 #[.slice none 0 0] := by
    rw [← hW0]
    have := Blk.new ((w.alloc (.cells #[.slice A n cap] 30)).alloc (.cells #[.int .i64 x0, .int .i64 x1, .int .i64 x2] 46)) 30 #[.slice none 0 0]
    rwa [World.size_alloc, World.size_alloc] at this
  have H1 := Lib.hid (h1.keep (L0.mono hL))
  have HI := Lib.hid hI
  have HN1 := Lib.hid (show n ≤ 1048577 by omega)
  clear h1 hI
  go_enter Try.func29, Try.ntmps29
  go_upto_region 1 with fail
  try rw [hW0]
  clear hW0
  have HL0 : Hid (L ≤ W0.heap.size) := (show L ≤ W0.heap.size by omega)
  have HS0 : Hid (Below W0.heap.size W0 W0 ∧ W0.cell? ⟨w.heap.size, 0, none⟩ = some (.slice A n cap) ∧ W0.cell? ⟨w.heap.size + 1, 0, none⟩ = some (.int .i64 x0) ∧ W0.cell? ⟨w.heap.size + 1, 1, none⟩ = some (.int .i64 x1) ∧ W0.cell? ⟨w.heap.size + 1, 2, none⟩ = some (.int .i64 x2)) := ⟨Below.refl _ _, BS.cell 0, BF.cell 0, BF.cell 1, BF.cell 2⟩
  have HB := Lib.hid (And.intro BS (And.intro BF BR))
  have HS := Lib.hid S0
  clear BS BF BR S0
  go_cut [6] (fun s6 wx => ∃ (g : Nat) (A1 : Option Addr) (c1 : Nat), s6 = .pointer (some ⟨g, 0, none⟩) ∧ Blk wx g 30 #[.slice A1 (n + 1) c1] ∧ OwnV 3 46 wx W0.heap.size (.slice A1 (n + 1) c1) (n + 1) (addRow F n (oneF x0 x1 x2)) ∧ Below W0.heap.size W0 wx)
  case first =>
    go_region_held3 (fun w' => Below W0.heap.size W0 w' ∧ w'.cell? ⟨w.heap.size, 0, none⟩ = some (.slice A n cap) ∧ w'.cell? ⟨w.heap.size + 1, 0, none⟩ = some (.int .i64 x0) ∧ w'.cell? ⟨w.heap.size + 1, 1, none⟩ = some (.int .i64 x1) ∧ w'.cell? ⟨w.heap.size + 1, 2, none⟩ = some (.int .i64 x2))
      (first | exact ks HS0.out (Below.refl _ _).drew | exact ks_drew (by assumption) | exact ks_call HS0.out (by assumption) (by assumption) | exact ks_alloc HS0.out (by assumption) | exact ks_grew HS0.out (by assumption) (by assumption) | exact ks_set HS0.out (by dsimp only; omega) (by assumption) | go_keep)
      (first
        | (go_at_call 62; have hq := (by assumption : Below W0.heap.size W0 _ ∧ _); refine (clonePoint_c L A n cap F _ (H1.out.keep (hq.1.mono HL0.out)) (Nat.le_trans HL0.out hq.1.size) HN1.out).mono ?_; rintro e w1 ⟨A1, c1, rfl, o1, b1⟩; have zb := Nat.le_trans hq.1.size b1.size; have o2 := (o1.more hq.1.size).addRow (oneF x0 x1 x2); (try have kf := Blk.later (t := 46) (cs := #[.int .i64 x0, .int .i64 x1, .int .i64 x2]) b1 (by (first | exact Blk.new _ _ _ | exact Blk.newAt (by simp) | assumption | exact Blk.alloc (Blk.new _ _ _) _ | exact Blk.alloc (Blk.newAt (by simp)) _ | exact Blk.alloc (by assumption) _ | exact Blk.alloc (Blk.alloc (Blk.new _ _ _) _) _ | exact Blk.alloc (Blk.alloc (Blk.newAt (by simp)) _) _ | exact Blk.alloc (Blk.alloc (by assumption) _) _))); (try simp at kf); (try have kb := Blk.later (t := 30) (cs := #[.slice none 0 0]) b1 (by (first | exact Blk.new _ _ _ | exact Blk.newAt (by simp) | assumption | exact Blk.alloc (Blk.new _ _ _) _ | exact Blk.alloc (Blk.newAt (by simp)) _ | exact Blk.alloc (by assumption) _ | exact Blk.alloc (Blk.alloc (Blk.new _ _ _) _) _ | exact Blk.alloc (Blk.alloc (Blk.newAt (by simp)) _) _ | exact Blk.alloc (Blk.alloc (by assumption) _) _))); (try simp at kb))
        | (have hq2 := (by assumption : Below W0.heap.size W0 _ ∧ _); refine step_append_ownV (v := .slice A1 n c1) (n := n) (base := W0.heap.size) (F := addRow F n (oneF x0 x1 x2)) (by rfl) _ _ _ (by rfl) i0 _ 24 Try.underlying28 hi hz0 hz1 hz2 rfl ?_ (by rfl) ?_ _ 1 1 (by rfl) ?_ ?_ ?_ ?_ ?_; (next => omega); (next => (first | assumption | exact OwnV.alloc (by assumption) _ | exact OwnV.alloc (OwnV.alloc (by assumption) _) _)); (next => exact oneF_news _ n F HI.out (by (first | exact Blk.new _ _ _ | exact Blk.newAt (by simp) | assumption | exact Blk.alloc (Blk.new _ _ _) _ | exact Blk.alloc (Blk.newAt (by simp)) _ | exact Blk.alloc (by assumption) _ | exact Blk.alloc (Blk.alloc (Blk.new _ _ _) _) _ | exact Blk.alloc (Blk.alloc (Blk.newAt (by simp)) _) _ | exact Blk.alloc (Blk.alloc (by assumption) _) _))); (next => (unfold maxLen; omega)); (next => omega); (next => exact hq2.1.size); intro A2 c2 w6 hown3 hg3; have hq6 := ks_grew HS0.out hg3 hq2; (try have kb2 := Grew.boxed (t' := 30) (cs := #[.slice none 0 0]) hg3 (by (first | assumption | exact OwnV.alloc (by assumption) _ | exact OwnV.alloc (OwnV.alloc (by assumption) _) _)) (by (first | exact Blk.new _ _ _ | exact Blk.newAt (by simp) | assumption | exact Blk.alloc (Blk.new _ _ _) _ | exact Blk.alloc (Blk.newAt (by simp)) _ | exact Blk.alloc (by assumption) _ | exact Blk.alloc (Blk.alloc (Blk.new _ _ _) _) _ | exact Blk.alloc (Blk.alloc (Blk.newAt (by simp)) _) _ | exact Blk.alloc (Blk.alloc (by assumption) _) _)) (by decide)); (try simp at kb2); (try have kc2 := kb2.cell0); (try have kz2 := kb2.frozen 0))
        | fail)
    all_goals
      go_wp2_with fail
      go_meet
      refine ⟨_, A2, c2, rfl, ?_, ?_, ?_⟩
      · first | exact Blk.new _ _ _ | exact Blk.set1 (by assumption) _
      · first | exact hown3.alloc _ | exact hown3.setOther (hown3.apart (by assumption : Blk w6 _ 30 _) (by decide)) _
      · exact And.left (by assumption)
  case rest =>
    obtain ⟨g, A1, c1, rfl, Bg, V1, b1⟩ := hcut
    obtain ⟨A1', c1', e1, tg⟩ := V1.tab
    obtain ⟨rfl, _, rfl⟩ : A1 = A1' ∧ n = n ∧ c1 = c1' := by injection e1 with x y z; exact ⟨x, rfl, z⟩
    have z0 := HS.out
    have BSc := HB.out.1.below b1 (by omega)
    have BRc := HB.out.2.2.below b1 (by omega)
    have sl : wc.cell? ⟨w.heap.size, 0, none⟩ = some (.slice A n cap) := BSc.cell 0
    have sg : wc.cell? ⟨g, 0, none⟩ = some (.slice A1 (n + 1) c1) := Bg.cell 0
    have T1 := Lib.hid (H1.out.keep (b1.mono HL0.out))
    have TG := Lib.hid tg
    have lc := L0.trans (b1.mono L0.size)
    have zc := b1.size
    have zl := HL0.out
    have HV := Lib.hid V1
    have HBR := Lib.hid BRc
    clear V1 Bg BSc BRc e1 tg HB HS0 HI b1 L0
    cases q1 : seriesB n F
    case false =>
      have hok : addOk n F (oneF x0 x1 x2) = false := by unfold addOk; rw [q1]; rfl
      have hlen : addLen n F (oneF x0 x1 x2) = n := by unfold addLen; rw [hok]; rfl
      have HOK := Lib.hid hok
      have HLEN := Lib.hid hlen
      clear hok hlen
      go_wp2_with fail
      refine (implSeriesOk_c L A n cap F _ T1.out (by omega) (by omega)).mono ?_
      rintro e w2 ⟨rfl, b2⟩
      rw [q1]
      have s2 := cell_later b2 sl
      have l2 := andThen lc b2
      have T2 := Lib.hid (T1.out.keep (b2.mono (by omega)))
      have HBR2 := Lib.hid (HBR.out.later' b2)
      have z2 := b2.size
      clear sl sg b2 lc T1 HBR
      go_wp2_with fail
      refine (copySeries_c L A n cap F _ T2.out (by omega) (by omega)).mono ?_
      rintro e w3 ⟨A3, c3, rfl, o3, b3⟩
      have l3 := andThen l2 b3
      have HBR3 := HBR2.out.later' b3
      have z3 := b3.size
      have f3 := HBR3.frozen 0
      have d3 : w3.cell? ⟨w.heap.size + 1 + 1, 0, none⟩ = some (.slice none 0 0) := HBR3.cell 0
      have r0 : (w3.setCell ⟨w.heap.size + 1 + 1, 0, none⟩ (.slice A3 n c3)).cell? ⟨w.heap.size + 1 + 1, 0, none⟩ = some (.slice A3 n c3) := World.cell?_setCell_same' _ _ _ (by rw [d3]; rfl)
      have o4 := ((o3.set (p := ⟨w.heap.size + 1 + 1, 0, none⟩) (by show w.heap.size + 1 + 1 < _; omega) (.slice A3 n c3)).more (b := w.heap.size) (by omega)).addRow (oneF x0 x1 x2)
      have O4 := Lib.hid o4
      have l4 := below_put l3 (show w.heap.size ≤ w.heap.size + 1 + 1 by omega) 0 (.slice A3 n c3)
      have L4 := Lib.hid l4
      clear b3 o3 o4 l3 l4 HBR3 HBR2 s2 l2
      go_wp2_with fail
      refine bodyPost_ret (v := .tuple #[.agg #[.slice A3 n c3], .bool false]) (by simp [results, Try.results29, go_sem, r0]) rfl ?_
      refine ⟨A3, c3, by rw [HOK.out, HLEN.out], ?_, L4.out⟩
      rw [HLEN.out]
      exact O4.out
    case true =>
      cases q2 : seriesB (n + 1) (addRow F n (oneF x0 x1 x2))
      case false =>
        have hok : addOk n F (oneF x0 x1 x2) = false := by unfold addOk; rw [q1, q2]; rfl
        have hlen : addLen n F (oneF x0 x1 x2) = n := by unfold addLen; rw [hok]; rfl
        have HOK := Lib.hid hok
        have HLEN := Lib.hid hlen
        clear hok hlen
        go_wp2_with fail
        refine (implSeriesOk_c L A n cap F _ T1.out (by omega) (by omega)).mono ?_
        rintro e w2' ⟨rfl, b2'⟩
        rw [q1]
        have s2' := cell_later b2' sl
        have sg' := cell_later b2' sg
        have l2' := andThen lc b2'
        have T2' := Lib.hid (T1.out.keep (b2'.mono (by omega)))
        have TG' := Lib.hid (TG.out.keep b2')
        have HBR2' := Lib.hid (HBR.out.later' b2')
        have z2' := b2'.size
        clear sl sg b2' lc T1 HBR
        go_wp2_with fail
        refine (implSeriesOk_c wc.heap.size A1 (n + 1) c1 _ _ TG'.out (by omega) (by omega)).mono ?_
        rintro e w2 ⟨rfl, b2⟩
        rw [q2]
        have s2 := cell_later b2 s2'
        have l2 := andThen l2' b2
        have T2 := Lib.hid (T2'.out.keep (b2.mono (by omega)))
        have HBR2 := Lib.hid (HBR2'.out.later' b2)
        have z2 := b2.size
        clear s2' sg' b2 l2' T2' HBR2'
        go_wp2_with fail
        refine (copySeries_c L A n cap F _ T2.out (by omega) (by omega)).mono ?_
        rintro e w3 ⟨A3, c3, rfl, o3, b3⟩
        have l3 := andThen l2 b3
        have HBR3 := HBR2.out.later' b3
        have z3 := b3.size
        have f3 := HBR3.frozen 0
        have d3 : w3.cell? ⟨w.heap.size + 1 + 1, 0, none⟩ = some (.slice none 0 0) := HBR3.cell 0
        have r0 : (w3.setCell ⟨w.heap.size + 1 + 1, 0, none⟩ (.slice A3 n c3)).cell? ⟨w.heap.size + 1 + 1, 0, none⟩ = some (.slice A3 n c3) := World.cell?_setCell_same' _ _ _ (by rw [d3]; rfl)
        have o4 := ((o3.set (p := ⟨w.heap.size + 1 + 1, 0, none⟩) (by show w.heap.size + 1 + 1 < _; omega) (.slice A3 n c3)).more (b := w.heap.size) (by omega)).addRow (oneF x0 x1 x2)
        have O4 := Lib.hid o4
        have l4 := below_put l3 (show w.heap.size ≤ w.heap.size + 1 + 1 by omega) 0 (.slice A3 n c3)
        have L4 := Lib.hid l4
        clear b3 o3 o4 l3 l4 HBR3 HBR2 s2 l2
        go_wp2_with fail
        refine bodyPost_ret (v := .tuple #[.agg #[.slice A3 n c3], .bool false]) (by simp [results, Try.results29, go_sem, r0]) rfl ?_
        refine ⟨A3, c3, by rw [HOK.out, HLEN.out], ?_, L4.out⟩
        rw [HLEN.out]
        exact O4.out
      case true =>
        have hok : addOk n F (oneF x0 x1 x2) = true := by unfold addOk; rw [q1, q2]; rfl
        have hlen : addLen n F (oneF x0 x1 x2) = n + 1 := by unfold addLen; rw [hok]; rfl
        have HOK := Lib.hid hok
        have HLEN := Lib.hid hlen
        clear hok hlen
        go_wp2_with fail
        refine (implSeriesOk_c L A n cap F _ T1.out (by omega) (by omega)).mono ?_
        rintro e w2 ⟨rfl, b2⟩
        rw [q1]
        have s2 := cell_later b2 sl
        have sg2 := cell_later b2 sg
        have l2 := andThen lc b2
        have TG2 := Lib.hid (TG.out.keep b2)
        have HBR2 := Lib.hid (HBR.out.later' b2)
        have HV2 := Lib.hid (HV.out.below b2)
        have z2 := b2.size
        clear sl sg b2 lc T1 HBR HV
        go_wp2_with fail
        refine (implSeriesOk_c wc.heap.size A1 (n + 1) c1 _ _ TG2.out (by omega) (by omega)).mono ?_
        rintro e w3 ⟨rfl, b3⟩
        rw [q2]
        have sg3 := cell_later b3 sg2
        have l3 := andThen l2 b3
        have HBR3 := HBR2.out.later' b3
        have o3 := HV2.out.below b3
        have f3 := HBR3.frozen 0
        have d3 : w3.cell? ⟨w.heap.size + 1 + 1, 0, none⟩ = some (.slice none 0 0) := HBR3.cell 0
        have r0 : (w3.setCell ⟨w.heap.size + 1 + 1, 0, none⟩ (.slice A1 (n + 1) c1)).cell? ⟨w.heap.size + 1 + 1, 0, none⟩ = some (.slice A1 (n + 1) c1) := World.cell?_setCell_same' _ _ _ (by rw [d3]; rfl)
        have o4 := (o3.set (p := ⟨w.heap.size + 1 + 1, 0, none⟩) (by show w.heap.size + 1 + 1 < _; omega) (.slice A1 (n + 1) c1)).more (b := w.heap.size) (by omega)
        have O4 := Lib.hid o4
        have l4 := below_put l3 (show w.heap.size ≤ w.heap.size + 1 + 1 by omega) 0 (.slice A1 (n + 1) c1)
        have L4 := Lib.hid l4
        clear b3 o3 o4 l3 l4 HBR3 HBR2 HV2 sg2 s2 l2
        go_wp2_with fail
        refine bodyPost_ret (v := .tuple #[.agg #[.slice A1 (n + 1) c1], .bool true]) (by simp [results, Try.results29, go_sem, r0]) rfl ?_
        refine ⟨A1, c1, by rw [HOK.out, HLEN.out], ?_, L4.out⟩
        rw [HLEN.out]
        exact O4.out

end Go.Proofs.Ytlpaicpjadkceaa
