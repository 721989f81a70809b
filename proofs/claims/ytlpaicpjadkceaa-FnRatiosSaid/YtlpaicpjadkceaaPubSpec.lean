/-
  spec.Publish returns the series with one point more, or a copy. Conditions: the points can be read.
-/
import Derived.Test.YtlpaicpjadkceaaPubImpl
namespace Go.Proofs.Ytlpaicpjadkceaa
open Go.RowKit
set_option linter.unusedVariables false
set_option maxRecDepth 4000

set_option maxHeartbeats 16000000 in
theorem specPublish_c (L : Nat) (A : Option Addr) (n cap : Nat) (F : Nat → Nat → Int) (x0 x1 x2 : Int) (hI : I64 x0 ∧ I64 x1 ∧ I64 x2) (w : World) (h1 : Tab 3 w L A n F) (hL : L ≤ w.heap.size) (hn : n ≤ 1048576) :
    Calls Try.prog 27 #[.agg #[.slice A n cap], .agg #[.int .i64 x0, .int .i64 x1, .int .i64 x2]] w (AddEnd n F (oneF x0 x1 x2) w) := by
  obtain ⟨i0, hi, hz0, hz1, hz2⟩ := info_parts info_Point
  obtain ⟨W0, hW0⟩ : ∃ W0, ((w.alloc (.cells #[.slice A n cap] 30)).alloc (.cells #[.int .i64 x0, .int .i64 x1, .int .i64 x2] 46)).alloc (.cells #[.slice none 0 0] 30) = W0 := ⟨_, rfl⟩
  have L0 : Below w.heap.size w W0 := by rw [← hW0]; exact andAlloc (andAlloc (andAlloc (Below.refl _ _) _) _) _
  have S0 : W0.heap.size = w.heap.size + 1 + 1 + 1 := by rw [← hW0]; simp
  have BS : Blk W0 w.heap.size 30 #[.slice A n cap] := by rw [← hW0]; exact ((Blk.new _ _ _).alloc _).alloc _
  have BF : Blk W0 (w.heap.size + 1) 46 #[.int .i64 x0, .int .i64 x1, .int .i64 x2] := by
    rw [← hW0]
    have := (Blk.new (w.alloc (.cells #[.slice A n cap] 30)) 46 #[.int .i64 x0, .int .i64 x1, .int .i64 x2]).alloc (.cells #[.slice none 0 0] 30)
    rwa [World.size_alloc] at this
  have BR : Blk W0 (w.heap.size + 1 + 1) 30 #[.slice none 0 0] := by
    rw [← hW0]
    have := Blk.new ((w.alloc (.cells #[.slice A n cap] 30)).alloc (.cells #[.int .i64 x0, .int .i64 x1, .int .i64 x2] 46)) 30 #[.slice none 0 0]
    rwa [World.size_alloc, World.size_alloc] at this
  have H1 := Lib.hid (h1.keep (L0.mono hL))
  have HI := Lib.hid hI
  have HN1 := Lib.hid (show n ≤ 1048577 by omega)
  have HL0 : Hid (L ≤ W0.heap.size) := (show L ≤ W0.heap.size by omega)
  have s0 : W0.cell? ⟨w.heap.size, 0, none⟩ = some (.slice A n cap) := BS.cell 0
  have sl2 : (W0.alloc (.cells #[] 46)).cell? ⟨w.heap.size, 0, none⟩ = some (.slice A n cap) := cell_later ((Below.refl _ _).alloc (Nat.le_refl _) _) s0
  have HB := Lib.hid (And.intro BS (And.intro BF BR))
  have HS := Lib.hid S0
  have HN := Lib.hid ((H1.out.keep (((Below.refl W0.heap.size W0).mono HL0.out).alloc HL0.out (.cells #[] 46))).news (by omega))
  clear h1 hI BS BF BR S0
  go_enter Try.func27, Try.ntmps27
  go_upto_region 1 with fail
  try rw [hW0]
  clear hW0
  go_wp2_with (at_builtin; refine wpList_append_ownV (base := W0.heap.size) (n := 0) (F := F) rfl _ _ 28 rfl i0 _ 24 Try.underlying28 hi hz0 hz1 hz2 rfl (by decide) rfl (ownV_lit (Nat.le_refl _) (heap_alloc_new W0 _)) _ n cap rfl HN.out (by unfold maxLen; omega) (by omega) (by simp) ?_)
  try simp only [Nat.zero_add]
  intro A0 c0 w1 own0 hg0
  have b01 := hg0.below (andAlloc (Below.refl W0.heap.size W0) (.cells #[] 46)) (Nat.le_refl _) (by simp)
  have BG0 := Blk.new w1 30 #[.slice A0 n c0]
  have own0' := own0.alloc (.cells #[.slice A0 n c0] 30)
  have b02 := andAlloc b01 (.cells #[.slice A0 n c0] 30)
  have z1 := b01.size
  clear hg0 own0 b01 HN sl2 s0
  go_upto_region 2 with fail
  obtain ⟨W2, hW2⟩ : ∃ W2, w1.alloc (.cells #[.slice A0 n c0] 30) = W2 := ⟨_, rfl⟩
  have z2 : W2.heap.size = w1.heap.size + 1 := by rw [← hW2]; simp
  rw [hW2] at BG0 own0' b02 ⊢
  clear hW2
  have HT2 := Lib.hid (H1.out.keep (b02.mono HL0.out))
  have HL2 : Hid (L ≤ W2.heap.size) := (show L ≤ W2.heap.size by have := HL0.out; omega)
  have BS2 := HB.out.1.below b02 (by have := HS.out; omega)
  have BF2 := HB.out.2.1.below b02 (by have := HS.out; omega)
  have BR2 := HB.out.2.2.below b02 (by have := HS.out; omega)
  have HB2 := Lib.hid (And.intro BS2 (And.intro BF2 (And.intro BR2 (And.intro BG0 own0'))))
  have HS2 : Hid (Below W2.heap.size W2 W2 ∧ W2.cell? ⟨w.heap.size, 0, none⟩ = some (.slice A n cap) ∧ W2.cell? ⟨w.heap.size + 1, 0, none⟩ = some (.int .i64 x0) ∧ W2.cell? ⟨w.heap.size + 1, 1, none⟩ = some (.int .i64 x1) ∧ W2.cell? ⟨w.heap.size + 1, 2, none⟩ = some (.int .i64 x2)) := ⟨Below.refl _ _, BS2.cell 0, BF2.cell 0, BF2.cell 1, BF2.cell 2⟩
  have HZ2 := Lib.hid (And.intro z1 z2)
  have HL02 := Lib.hid b02
  clear BS2 BF2 BR2 BG0 own0' b02 HB z1 z2 H1
  go_cut [7] (fun s7 wx => ∃ (g : Nat) (A1 : Option Addr) (c1 : Nat), s7 = .pointer (some ⟨g, 0, none⟩) ∧ Blk wx g 30 #[.slice A1 (n + 1) c1] ∧ OwnV 3 46 wx W2.heap.size (.slice A1 (n + 1) c1) (n + 1) (addRow F n (oneF x0 x1 x2)) ∧ Below W2.heap.size W2 wx)
  case first =>
    go_region_held3 (fun w' => Below W2.heap.size W2 w' ∧ w'.cell? ⟨w.heap.size, 0, none⟩ = some (.slice A n cap) ∧ w'.cell? ⟨w.heap.size + 1, 0, none⟩ = some (.int .i64 x0) ∧ w'.cell? ⟨w.heap.size + 1, 1, none⟩ = some (.int .i64 x1) ∧ w'.cell? ⟨w.heap.size + 1, 2, none⟩ = some (.int .i64 x2))
      (first | exact ks HS2.out (Below.refl _ _).drew | exact ks_drew (by assumption) | exact ks_call HS2.out (by assumption) (by assumption) | exact ks_alloc HS2.out (by assumption) | exact ks_grew HS2.out (by assumption) (by assumption) | exact ks_set HS2.out (by dsimp only; omega) (by assumption) | go_keep)
      (first
        | (have hq2 := (by assumption : Below W2.heap.size W2 _ ∧ _); refine step_append_ownV (v := .slice (some ⟨_, 0, none⟩) 0 0) (n := 0) (base := W2.heap.size) (F := F) (by rfl) _ _ _ (by rfl) i0 _ 24 Try.underlying28 hi hz0 hz1 hz2 rfl ?_ (by rfl) ?_ _ n cap (by rfl) ?_ ?_ ?_ ?_ ?_; (next => omega); (next => exact ownV_lit (by have := hq2.1.size; first | assumption | (simp; done) | (simp; omega) | omega) (by (first | exact Blk.new _ _ _ | exact Blk.newAt (by simp) | assumption | exact Blk.alloc (Blk.new _ _ _) _ | exact Blk.alloc (Blk.newAt (by simp)) _ | exact Blk.alloc (by assumption) _ | exact Blk.alloc (Blk.alloc (Blk.new _ _ _) _) _ | exact Blk.alloc (Blk.alloc (Blk.newAt (by simp)) _) _ | exact Blk.alloc (Blk.alloc (by assumption) _) _))); (next => exact (HT2.out.keep (hq2.1.mono HL2.out)).news (by omega)); (next => (unfold maxLen; omega)); (next => omega); (next => exact hq2.1.size); (try simp only [Nat.zero_add]); intro A1 c1 w5 own5 hg5; have hq5 := ks_grew HS2.out hg5 hq2; have hzq := hq2.1.size; have hzq5 := hq5.1.size; (try simp only [World.size_alloc] at hzq); have o2 := own5.addRow (oneF x0 x1 x2); (try have kf := Grew.blk (t' := 46) (cs := #[.int .i64 x0, .int .i64 x1, .int .i64 x2]) hg5 (by (first | exact Blk.new _ _ _ | exact Blk.newAt (by simp) | assumption | exact Blk.alloc (Blk.new _ _ _) _ | exact Blk.alloc (Blk.newAt (by simp)) _ | exact Blk.alloc (by assumption) _ | exact Blk.alloc (Blk.alloc (Blk.new _ _ _) _) _ | exact Blk.alloc (Blk.alloc (Blk.newAt (by simp)) _) _ | exact Blk.alloc (Blk.alloc (by assumption) _) _)) (by intro e; simp [Value.ownBlock] at e; try omega)); (try simp at kf); (try have kb := Grew.blk (t' := 30) (cs := #[.slice none 0 0]) hg5 (by (first | exact Blk.new _ _ _ | exact Blk.newAt (by simp) | assumption | exact Blk.alloc (Blk.new _ _ _) _ | exact Blk.alloc (Blk.newAt (by simp)) _ | exact Blk.alloc (by assumption) _ | exact Blk.alloc (Blk.alloc (Blk.new _ _ _) _) _ | exact Blk.alloc (Blk.alloc (Blk.newAt (by simp)) _) _ | exact Blk.alloc (Blk.alloc (by assumption) _) _)) (by intro e; simp [Value.ownBlock] at e; try omega)); (try simp at kb); (try have kcb := kb.cell0); (try have kzb := kb.frozen 0))
        | (have hq2 := (by assumption : Below W2.heap.size W2 _ ∧ _); refine step_append_ownV (v := .slice A1 n c1) (n := n) (base := W2.heap.size) (F := addRow F n (oneF x0 x1 x2)) (by rfl) _ _ _ (by rfl) i0 _ 24 Try.underlying28 hi hz0 hz1 hz2 rfl ?_ (by rfl) ?_ _ 1 1 (by rfl) ?_ ?_ ?_ ?_ ?_; (next => omega); (next => (first | assumption | exact OwnV.alloc (by assumption) _ | exact OwnV.alloc (OwnV.alloc (by assumption) _) _)); (next => exact oneF_news _ n F HI.out (by (first | exact Blk.new _ _ _ | exact Blk.newAt (by simp) | assumption | exact Blk.alloc (Blk.new _ _ _) _ | exact Blk.alloc (Blk.newAt (by simp)) _ | exact Blk.alloc (by assumption) _ | exact Blk.alloc (Blk.alloc (Blk.new _ _ _) _) _ | exact Blk.alloc (Blk.alloc (Blk.newAt (by simp)) _) _ | exact Blk.alloc (Blk.alloc (by assumption) _) _))); (next => (unfold maxLen; omega)); (next => omega); (next => exact hq2.1.size); intro A2 c2 w6 hown3 hg3; have hq6 := ks_grew HS2.out hg3 hq2; have hzr := hq2.1.size; have hzq6 := hq6.1.size; (try simp only [World.size_alloc] at hzr); (try have kb2 := Grew.boxed (t' := 30) (cs := #[.slice none 0 0]) hg3 (by (first | assumption | exact OwnV.alloc (by assumption) _ | exact OwnV.alloc (OwnV.alloc (by assumption) _) _)) (by (first | exact Blk.new _ _ _ | exact Blk.newAt (by simp) | assumption | exact Blk.alloc (Blk.new _ _ _) _ | exact Blk.alloc (Blk.newAt (by simp)) _ | exact Blk.alloc (by assumption) _ | exact Blk.alloc (Blk.alloc (Blk.new _ _ _) _) _ | exact Blk.alloc (Blk.alloc (Blk.newAt (by simp)) _) _ | exact Blk.alloc (Blk.alloc (by assumption) _) _)) (by decide)); (try simp at kb2); (try have kc2 := kb2.cell0); (try have kz2 := kb2.frozen 0))
        | fail)
    all_goals
      go_wp2_with fail
      go_meet
      refine ⟨_, A2, c2, rfl, ?_, ?_, ?_⟩
      · first | exact Blk.new _ _ _ | exact Blk.set1 (by assumption) _
      · first | exact hown3.alloc _ | exact hown3.setOther (hown3.apart (by assumption : Blk w6 _ 30 _) (by decide)) _
      · exact And.left (by assumption)
  case rest =>
    obtain ⟨g, A1, c1, rfl, Bg, V1, b1⟩ := hcut
    obtain ⟨A1', c1', e1, tg⟩ := V1.tab
    obtain ⟨rfl, _, rfl⟩ : A1 = A1' ∧ n = n ∧ c1 = c1' := by injection e1 with x y z; exact ⟨x, rfl, z⟩
    have hz1' := HZ2.out.1
    have hz2' := HZ2.out.2
    have hz3' := HS.out
    have BSc := HB2.out.1.later' b1
    have BRc := HB2.out.2.2.1.later' b1
    have BGc := HB2.out.2.2.2.1.later' b1
    have OVc := HB2.out.2.2.2.2.below b1
    have sl : wc.cell? ⟨w.heap.size, 0, none⟩ = some (.slice A n cap) := BSc.cell 0
    have sg : wc.cell? ⟨g, 0, none⟩ = some (.slice A1 (n + 1) c1) := Bg.cell 0
    have so : wc.cell? ⟨w1.heap.size, 0, none⟩ = some (.slice A0 n c0) := BGc.cell 0
    have T1 := Lib.hid (HT2.out.keep (b1.mono HL2.out))
    have TG := Lib.hid tg
    have lc : Below w.heap.size w wc := L0.trans ((andThen HL02.out b1).mono L0.size)
    have zc := b1.size
    have zl := HL2.out
    have HV := Lib.hid (V1.more (b := w.heap.size) (by omega))
    have HO := Lib.hid OVc
    have HBR := Lib.hid BRc
    clear V1 Bg BSc BRc BGc OVc e1 tg HB2 HS2 HI b1 L0 HL02 hz1' hz2' hz3'
    cases q1 : seriesB n F
    case false =>
      have hok : addOk n F (oneF x0 x1 x2) = false := by unfold addOk; rw [q1]; rfl
      have hlen : addLen n F (oneF x0 x1 x2) = n := by unfold addLen; rw [hok]; rfl
      have HOK := Lib.hid hok
      have HLEN := Lib.hid hlen
      clear hok hlen
      go_wp2_with fail
      refine (specSeriesOk_c L A n cap F _ T1.out (by omega) (by omega)).mono ?_
      rintro e w2 ⟨rfl, b2⟩
      rw [q1]
      have so2 := cell_later b2 so
      have l2 := andThen lc b2
      have HBR2 := Lib.hid (HBR.out.later' b2)
      have HO2 := Lib.hid (HO.out.below b2)
      have zz2 := b2.size
      clear sl sg so b2 lc T1 HBR HO
      have HBR3 := HBR2.out
      have f3 := HBR3.frozen 0
      have d3 : w2.cell? ⟨w.heap.size + 1 + 1, 0, none⟩ = some (.slice none 0 0) := HBR3.cell 0
      have r0 : (w2.setCell ⟨w.heap.size + 1 + 1, 0, none⟩ (.slice A0 n c0)).cell? ⟨w.heap.size + 1 + 1, 0, none⟩ = some (.slice A0 n c0) := World.cell?_setCell_same' _ _ _ (by rw [d3]; rfl)
      have o4 := ((HO2.out.set (p := ⟨w.heap.size + 1 + 1, 0, none⟩) (by have := HS.out; show w.heap.size + 1 + 1 < _; omega) (.slice A0 n c0)).more (b := w.heap.size) (by have := HS.out; omega)).addRow (oneF x0 x1 x2)
      have O4 := Lib.hid o4
      have l4 := below_put l2 (show w.heap.size ≤ w.heap.size + 1 + 1 by omega) 0 (.slice A0 n c0)
      have L4 := Lib.hid l4
      clear o4 l4 HBR3 l2
      go_wp2_with fail
      refine bodyPost_ret (v := .tuple #[.agg #[.slice A0 n c0], .bool false]) (by simp [results, Try.results27, go_sem, r0]) rfl ?_
      refine ⟨A0, c0, by rw [HOK.out, HLEN.out], ?_, L4.out⟩
      rw [HLEN.out]
      exact O4.out
    case true =>
      cases q2 : seriesB (n + 1) (addRow F n (oneF x0 x1 x2))
      case false =>
        have hok : addOk n F (oneF x0 x1 x2) = false := by unfold addOk; rw [q1, q2]; rfl
        have hlen : addLen n F (oneF x0 x1 x2) = n := by unfold addLen; rw [hok]; rfl
        have HOK := Lib.hid hok
        have HLEN := Lib.hid hlen
        clear hok hlen
        go_wp2_with fail
        refine (specSeriesOk_c L A n cap F _ T1.out (by omega) (by omega)).mono ?_
        rintro e w2' ⟨rfl, b2'⟩
        rw [q1]
        have sg' := cell_later b2' sg
        have so' := cell_later b2' so
        have l2' := andThen lc b2'
        have TG' := Lib.hid (TG.out.keep b2')
        have HBR2' := Lib.hid (HBR.out.later' b2')
        have HO2' := Lib.hid (HO.out.below b2')
        have z2' := b2'.size
        clear sl sg so b2' lc T1 HBR HO
        go_wp2_with fail
        refine (specSeriesOk_c wc.heap.size A1 (n + 1) c1 _ _ TG'.out (by omega) (by omega)).mono ?_
        rintro e w2 ⟨rfl, b2⟩
        rw [q2]
        have so2 := cell_later b2 so'
        have l2 := andThen l2' b2
        have HBR2 := Lib.hid (HBR2'.out.later' b2)
        have HO2 := Lib.hid (HO2'.out.below b2)
        have zz2 := b2.size
        clear sg' so' b2 l2' HBR2' HO2'
        have HBR3 := HBR2.out
        have f3 := HBR3.frozen 0
        have d3 : w2.cell? ⟨w.heap.size + 1 + 1, 0, none⟩ = some (.slice none 0 0) := HBR3.cell 0
        have r0 : (w2.setCell ⟨w.heap.size + 1 + 1, 0, none⟩ (.slice A0 n c0)).cell? ⟨w.heap.size + 1 + 1, 0, none⟩ = some (.slice A0 n c0) := World.cell?_setCell_same' _ _ _ (by rw [d3]; rfl)
        have o4 := ((HO2.out.set (p := ⟨w.heap.size + 1 + 1, 0, none⟩) (by have := HS.out; show w.heap.size + 1 + 1 < _; omega) (.slice A0 n c0)).more (b := w.heap.size) (by have := HS.out; omega)).addRow (oneF x0 x1 x2)
        have O4 := Lib.hid o4
        have l4 := below_put l2 (show w.heap.size ≤ w.heap.size + 1 + 1 by omega) 0 (.slice A0 n c0)
        have L4 := Lib.hid l4
        clear o4 l4 HBR3 l2
        go_wp2_with fail
        refine bodyPost_ret (v := .tuple #[.agg #[.slice A0 n c0], .bool false]) (by simp [results, Try.results27, go_sem, r0]) rfl ?_
        refine ⟨A0, c0, by rw [HOK.out, HLEN.out], ?_, L4.out⟩
        rw [HLEN.out]
        exact O4.out
      case true =>
        have hok : addOk n F (oneF x0 x1 x2) = true := by unfold addOk; rw [q1, q2]; rfl
        have hlen : addLen n F (oneF x0 x1 x2) = n + 1 := by unfold addLen; rw [hok]; rfl
        have HOK := Lib.hid hok
        have HLEN := Lib.hid hlen
        clear hok hlen
        go_wp2_with fail
        refine (specSeriesOk_c L A n cap F _ T1.out (by omega) (by omega)).mono ?_
        rintro e w2 ⟨rfl, b2⟩
        rw [q1]
        have sg2 := cell_later b2 sg
        have l2 := andThen lc b2
        have TG2 := Lib.hid (TG.out.keep b2)
        have HBR2 := Lib.hid (HBR.out.later' b2)
        have HV2 := Lib.hid (HV.out.below b2)
        have z2 := b2.size
        clear sl sg so b2 lc T1 HBR HV
        go_wp2_with fail
        refine (specSeriesOk_c wc.heap.size A1 (n + 1) c1 _ _ TG2.out (by omega) (by omega)).mono ?_
        rintro e w3 ⟨rfl, b3⟩
        rw [q2]
        have sg3 := cell_later b3 sg2
        have l3 := andThen l2 b3
        have HBR3 := HBR2.out.later' b3
        have o3 := HV2.out.below b3
        have f3 := HBR3.frozen 0
        have d3 : w3.cell? ⟨w.heap.size + 1 + 1, 0, none⟩ = some (.slice none 0 0) := HBR3.cell 0
        have r0 : (w3.setCell ⟨w.heap.size + 1 + 1, 0, none⟩ (.slice A1 (n + 1) c1)).cell? ⟨w.heap.size + 1 + 1, 0, none⟩ = some (.slice A1 (n + 1) c1) := World.cell?_setCell_same' _ _ _ (by rw [d3]; rfl)
        have HRR := Lib.hid HBR3
        clear HBR3
        have O4 : Hid (OwnV 3 46 (w3.setCell ⟨w.heap.size + 1 + 1, 0, none⟩ (.slice A1 (n + 1) c1)) w.heap.size (.slice A1 (n + 1) c1) (n + 1) (addRow F n (oneF x0 x1 x2))) := o3.setOther (p := ⟨w.heap.size + 1 + 1, 0, none⟩) (o3.apart HRR.out (by decide)) _
        have l4 := below_put l3 (show w.heap.size ≤ w.heap.size + 1 + 1 by omega) 0 (.slice A1 (n + 1) c1)
        have L4 := Lib.hid l4
        clear b3 o3 l3 l4 HBR2 HV2 sg2 l2
        go_wp2_with fail
        refine bodyPost_ret (v := .tuple #[.agg #[.slice A1 (n + 1) c1], .bool true]) (by simp [results, Try.results27, go_sem, r0]) rfl ?_
        refine ⟨A1, c1, by rw [HOK.out, HLEN.out], ?_, L4.out⟩
        rw [HLEN.out]
        exact O4.out

end Go.Proofs.Ytlpaicpjadkceaa
