/-
  The walk of the law FnExactAllocate. Conditions: none.
-/
import Derived.Test.YtcibffmhlamcdaaSpecAlloc
import Derived.Test.YtcibffmhlamcdaaStableAll
import Derived.OwnWalk
namespace Go.Proofs.Ytcibffmhlamcdaa
open Go.RowKit
set_option linter.unusedVariables false
set_option maxRecDepth 4000

/-- The numbers of the slice as a list. -/
theorem reads_of_row {w : World} {A : Option Addr} {n cap : Nat} {z : List Int} (h : IsRow .i64 w A n cap z) : ∃ zs : List Int, zs.length = n ∧ ReadsInts w w.heap.size (.slice A n cap) zs := by
  rcases h with ⟨rfl, rfl, rfl, rfl⟩ | ⟨x, rfl, hl, hm, hz, hc, _⟩
  · exact ⟨[], rfl, none, 0, rfl, fun j hj => by cases hj⟩
  · have hlen : (z.take n).length = n := by rw [List.length_take]; omega
    refine ⟨z.take n, hlen, some x, cap, by rw [hlen], fun j hj => ?_⟩
    rw [hlen] at hj
    obtain ⟨b, off, spot⟩ := x
    have h0 := hc j (by omega)
    have hspot : spot = none := by
      have := hc 0 (by omega)
      simpa [Addr.add] using World.cell?_spot this
    subst hspot
    have h1 : w.cell? ⟨b, off + j, none⟩ = some (.int .i64 (z.getD j 0)) := by
      have e : (Addr.add ⟨b, off, none⟩ j) = ⟨b, off + j, none⟩ := by
        unfold Addr.add
        split
        · rename_i h; subst h; rfl
        · rfl
      rw [← e]; exact h0
    refine ⟨b, off, rfl, World.block_lt_of_cell? _ _ h1, ?_⟩
    rw [h1, List.getElem_take, List.getD_eq_getElem?_getD, List.getElem?_eq_getElem (show j < z.length by omega)]
    rfl

/-- What the conversion leaves. -/
def ToInts (zs : List Int) (w : World) (e : Ending) (w' : World) : Prop := ∃ v, e = .returned v ∧ OwnInts w' w.heap.size v zs ∧ Below w.heap.size w w'
set_option maxHeartbeats 1000000 in
theorem toIntS_c (L : Nat) (A : Option Addr) (cap : Nat) (zs : List Int) (w : World) (h : ReadsInts w L (.slice A zs.length cap) zs) (hL : L ≤ w.heap.size) (hn : zs.length ≤ 1048576) :
    Calls Try.prog 9 #[.slice A zs.length cap] w (ToInts zs w) := by
  obtain ⟨i0, hi, hz0, hz1, hz2⟩ := info_parts info_int
  have HR := Lib.hid h
  clear h
  go_enter Try.func9, Try.ntmps9
  go_wp2_with (at_make; refine wpList_make_full _ rfl _ _ 25 rfl w.heap.size 3 i0 (.int .i64 0) 1 Try.underlying25 hi hz0 hz1 .i64 .i64 _ _ zs.length rfl rfl rfl rfl (by rw [hz2]; omega) (by unfold maxLen; omega) (Nat.le_refl _) ?_)
  intro w1 hown hg
  have hb1 : Below w.heap.size w w1 := (Below.refl _ _).grown hg (Nat.le_refl _) (fun j hj => by cases hj)
  obtain ⟨f0, hf0, _⟩ := ownC_of_owns hown
  rw [Nat.mul_one] at hf0
  clear hown hg hz0 hz1 hz2 hi
  go_wp2_with fail
  go_loopw [4] (fun i wr => ∃ m : Nat, m ≤ zs.length ∧ i = .int .i64 (m : Int) ∧ Hid (∃ f, OwnC 3 wr w.heap.size zs.length f ∧ ∀ p, p < m → f p = .int .i64 (zs.getD p 0)) ∧ Hid (Below w.heap.size w wr)) (fun i _ => zs.length - (intOf i).toNat)
  case atStart => exact ⟨0, Nat.zero_le _, rfl, (show ∃ f, _ from ⟨f0, hf0, fun p hp => by omega⟩), hb1⟩
  case round =>
    obtain ⟨m, hm, rfl, HF, HB⟩ := hrel
    by_cases hlt : m < zs.length
    · obtain ⟨A', cap', hv, ha⟩ := HR.out.keep (HB.out.mono hL)
      cases hv
      obtain ⟨b, off, rfl, hbL, e1⟩ := ha m hlt
      have hz : zs[m] = zs.getD m 0 := by rw [List.getD_eq_getElem?_getD, List.getElem?_eq_getElem hlt]; rfl
      rw [hz] at e1
      obtain ⟨f, f1, f2⟩ := HF.out
      have c1 := f1.cell m hlt
      have q1 := f1.frozen m
      have HF2 : Hid (∃ f', OwnC 3 (wr.setCell ⟨w.heap.size, m, none⟩ (.int .i64 (zs.getD m 0))) w.heap.size zs.length f' ∧ ∀ p, p < m + 1 → f' p = .int .i64 (zs.getD p 0)) := ⟨_, f1.set m _, fun p hp => by
        by_cases e : p = m
        · simp [e]
        · simp only [if_neg e]
          exact f2 p (by omega)⟩
      have HB2 := Lib.hid (andSet HB.out (p := ⟨w.heap.size, m, none⟩) (Nat.le_refl _) (.int .i64 (zs.getD m 0)))
      have k0 : (0 : Int) ≤ (m : Int) := by omega
      have k1 : (m : Int) < (zs.length : Int) := by omega
      generalize zs.getD m 0 = z at *
      clear HF HB f1 f2 ha hz
      go_wp2_with fail
      go_roundw
      case rel => exact ⟨m + 1, by omega, by go_num, HF2, HB2⟩
      case measure => simp [intOf]; omega
    · obtain rfl : m = zs.length := by omega
      go_wp2_with fail
      go_ret
      obtain ⟨f, f1, f2⟩ := HF.out
      refine ⟨_, rfl, ?_, HB.out⟩
      have hj := own_join (base := w.heap.size) (h := fun p => zs.getD p 0) ⟨f, f1, Nat.le_refl _, f2⟩ (Nat.le_refl _) (by unfold maxLen; omega)
      have e : (List.range zs.length).map (fun p => zs.getD p 0) = zs := by
        apply List.ext_getElem
        · simp
        · intro i h1 h2
          simp [List.getElem?_eq_getElem h2]
      rw [e] at hj
      exact hj

theorem stable_all {n : Nat} (hn : n ≤ 40) : SortsAt n := sorts_of (stables_all hn) hn

/-- Both packages come to one list. -/
theorem alloc_same {T : Int} {zs : List Int} {w1 w1' w2 w2' : World} {e1 e2 : Ending} (h1 : SpecAllocEnd T zs w1 e1 w1') (h2 : AllocEnd T zs w2 e2 w2') :
    ∃ (l : List Int) (v1 v2 : Value), l.length ≤ zs.length ∧ e1 = .returned v1 ∧ e2 = .returned v2 ∧ OwnInts w1' w1.heap.size v1 l ∧ OwnInts w2' w2.heap.size v2 l := by
  obtain ⟨_, h1⟩ := h1
  obtain ⟨_, h2⟩ := h2
  rcases h1 with ⟨a1, v1, rfl, o1⟩ | ⟨a1, v1, h, rfl, o1, hh⟩
  · rcases h2 with ⟨a2, rfl⟩ | ⟨a2, _⟩
    · exact ⟨[], v1, _, Nat.zero_le _, rfl, rfl, o1, ⟨rfl, .inl ⟨rfl, rfl⟩⟩⟩
    · rw [a1] at a2; cases a2
  · rcases h2 with ⟨a2, _⟩ | ⟨a2, v2, d, l, rfl, o2, hl, _, hw, hs⟩
    · rw [a1] at a2; cases a2
    · refine ⟨_, v1, v2, by simp, rfl, rfl, o1, ?_⟩
      have e : (List.range zs.length).map h = (List.range zs.length).map fun i => qf T (ws zs zs.length) zs i + incF d l i := by
        apply List.map_congr_left
        intro i hi
        exact hh d l ⟨hw, hs⟩ hl i (by simpa using hi)
      rw [e]
      exact o2
/-- The list that the spec comes to stands fast. -/
theorem alloc_again {T : Int} {zs l : List Int} {w1 w1' w2 w2' : World} {e1 e2 : Ending} {v1 : Value} (h1 : SpecAllocEnd T zs w1 e1 w1') (hl : e1 = .returned v1) (ho : OwnInts w1' w1.heap.size v1 l) (h2 : AllocEnd T zs w2 e2 w2') :
    ∃ v2, e2 = .returned v2 ∧ OwnInts w2' w2.heap.size v2 l ∧ Below w2.heap.size w2 w2' := by
  have hb := h2.1
  obtain ⟨l', v1', v2, _, e1', e2', o1, o2⟩ := alloc_same h1 h2
  have ev : v1' = v1 := by rw [hl] at e1'; cases e1'; rfl
  subst ev
  have el : l' = l := by
    have r1 := o1.1
    have hlen : l'.length = l.length := by
      rcases o1.reads with ⟨A, c, hv, _⟩
      rcases ho.reads with ⟨A', c', hv', _⟩
      rw [hv] at hv'
      injection hv' with q1 q2 q3
    apply List.ext_getElem hlen
    intro i i1 i2
    obtain ⟨g, c, hv, _, _, _, hc⟩ := o1.form (by omega)
    obtain ⟨g', c', hv', _, _, _, hc'⟩ := ho.form (by omega)
    rw [hv] at hv'
    injection hv' with q1 q2 q3
    injection q1 with q1
    injection q1 with q1
    subst q1
    have := (hc i i1).symm.trans (hc' i i2)
    simpa using this
  subst el
  exact ⟨v2, e2', o2, hb⟩

set_option maxHeartbeats 4000000 in
theorem walk_FnExactAllocate (W : World) (T : Int) {q0 : Prop} (_ : q0) (A : Option Addr) (n cap : Nat) (z : List Int) (hr : IsRow .i64 W A n cap z) :
    Calls Try.prog 4 #[.int .i64 T, .slice A n cap] W fun e w' => e = .returned (.bool true) ∧ Below W.heap.size W w' := by
  obtain ⟨zs, rfl, hrd⟩ := reads_of_row hr
  have HR := Lib.hid hrd
  clear hr hrd
  by_cases hn : zs.length ≤ 1048576
  · have k0 : decide ((zs.length : Int) > 1048576) = false := decide_eq_false (by omega)
    have k1 : ¬ (1048576 : Int) < (zs.length : Int) := by omega
    go_enter Try.func4, Try.ntmps4
    go_wp2_with fail
    refine (toIntS_c W.heap.size A cap zs _ HR.out (Nat.le_refl _) hn).mono ?_
    rintro e w1 ⟨v1, rfl, o1, b1⟩
    go_wp2_with fail
    refine (specAllocate_c T _ _ zs _ o1.reads (Nat.le_refl _) (by omega)).mono ?_
    intro e w2 hsp
    have HSP := Lib.hid hsp
    have b2 := hsp.1
    have l2 := andThen b1 b2
    have hW2 : W.heap.size ≤ w2.heap.size := l2.size
    obtain ⟨vs, hvs⟩ : ∃ vs, e = .returned vs := by
      rcases hsp.2 with ⟨_, v, rfl, _⟩ | ⟨_, v, _, rfl, _⟩ <;> exact ⟨v, rfl⟩
    subst hvs
    clear hsp o1 b1
    go_wp2_with fail
    refine (toIntS_c W.heap.size A cap zs _ (HR.out.keep l2) l2.size hn).mono ?_
    rintro e w3 ⟨v3, rfl, o3, b3⟩
    have l3 := andThen l2 b3
    go_wp2_with fail
    refine (implAllocate_c T _ _ zs _ o3.reads (Nat.le_refl _) (by omega) (fun h => stable_all h)).mono ?_
    intro e w4 him
    obtain ⟨l, vs', vg, hlen, e1, rfl, os, og⟩ := alloc_same HSP.out him
    cases e1
    have b4 := him.1
    have l4 := andThen l3 b4
    have hlen2 : l.length ≤ 1048576 := by omega
    have OS := Lib.hid os
    have r4 := (os.reads.keep b3).keep (b4.mono b3.size)
    have x4 := OwnInts.below o3 b4
    have hlt3 := World.ownsRow.lt o3
    have HX := Lib.hid hlt3
    clear him o3 hlt3 b2 l2 l3 os
    go_wp2_with fail
    refine (eqIntS_c _ _ _ _ _ _ og.reads r4 (by omega)).mono ?_
    rintro e w5 ⟨rfl, d5⟩
    have b5 := d5.below w4.heap.size
    have l5 := andThen l4 b5
    have r5 := r4.keep (d5.below _)
    have g5 := OwnInts.below og b5
    have x5 := OwnInts.below x4 b5
    have s5 : w3.heap.size ≤ w5.heap.size := Nat.le_trans b4.size b5.size
    have s23 : w2.heap.size ≤ w3.heap.size := b3.size
    clear d5 b5 b4 b3 l4 r4 og x4
    go_wp2_with fail
    refine (toIntS_c W.heap.size A cap zs _ (HR.out.keep l5) l5.size hn).mono ?_
    rintro e w6 ⟨v6, rfl, o6, b6⟩
    have l6 := andThen l5 b6
    have r6 := r5.keep (b6.mono (by omega))
    have g6 := OwnInts.below g5 b6
    have x6 := OwnInts.below x5 b6
    have s6 : w3.heap.size ≤ w6.heap.size := Nat.le_trans s5 b6.size
    clear b6 l5 r5 g5 x5 s5
    go_wp2_with fail
    refine (eqIntS_c _ _ _ _ _ _ x6.reads o6.reads (by omega)).mono ?_
    rintro e w7 ⟨rfl, d7⟩
    have b7 := d7.below w6.heap.size
    have l7 := andThen l6 b7
    have r7 := r6.keep (d7.below _)
    have g7 := OwnInts.below g6 b7
    have x7 := OwnInts.below x6 b7
    have s7 : w3.heap.size ≤ w7.heap.size := Nat.le_trans s6 b7.size
    clear b7 d7 l6 r6 g6 x6 s6 o6
    go_wp2_with fail
    refine (markIntS_c 1 _ _ _ _ x7 (by omega) (by omega) (by omega)).mono ?_
    rintro e w8 ⟨rfl, _, gr8⟩
    have b8 : Below w2.heap.size w7 w8 := (Below.refl _ _).grown gr8 (by omega) (fun j hj => (HX.out j hj).1)
    have l8 := l7.trans (b8.mono hW2)
    have r8 := r7.keep b8
    have hlg := World.ownsRow.lt g7
    have g8 := OwnInts.grown g7 gr8 (by
      rcases hvo : vg.ownBlock with _ | j
      · exact .inr rfl
      · refine .inl fun e => ?_
        have q1 := (hlg j hvo).1
        have q2 := (HX.out j e.symm).2
        omega)
    have s8 : w3.heap.size ≤ w8.heap.size := Nat.le_trans s7 gr8.size
    have k8 : decide (1 + (zs.length : Int) < 0) = false := decide_eq_false (by omega)
    clear gr8 b8 l7 r7 g7 x7 s7 hlg
    go_wp2_with fail
    refine (eqIntS_c _ _ _ _ _ _ g8.reads r8 (by omega)).mono ?_
    rintro e w9 ⟨rfl, d9⟩
    have b9 := d9.below w8.heap.size
    have l9 := andThen l8 b9
    have r9 := r8.keep (d9.below _)
    have g9 := OwnInts.below g8 b9
    have s9 : w3.heap.size ≤ w9.heap.size := Nat.le_trans s8 b9.size
    clear d9 b9 l8 r8 g8 s8
    go_wp2_with fail
    refine (markIntS_c 1 _ _ _ _ g9 (by omega) (by omega) (by omega)).mono ?_
    rintro e w10 ⟨rfl, m10, gr10⟩
    have hlg := World.ownsRow.lt g9
    have b10 : Below w3.heap.size w9 w10 := (Below.refl _ _).grown gr10 s9 (fun j hj => (hlg j hj).1)
    have l10 := l9.trans (b10.mono (by omega))
    have r10 := r9.keep (b10.mono s23)
    have s10 : w3.heap.size ≤ w10.heap.size := Nat.le_trans s9 gr10.size
    have rm10 := m10.reads
    have k10 : decide (1 + (l.length : Int) < 0) = false := decide_eq_false (by omega)
    clear hlg gr10 b10 l9 r9 g9 s9 m10
    go_wp2_with fail
    refine (heldIntS_c 1 _ _ _ _ rm10 (by omega) (by omega) (by omega)).mono ?_
    rintro e w' ⟨rfl, rfl⟩
    go_wp2_with fail
    refine (toIntS_c W.heap.size A cap zs _ (HR.out.keep l10) l10.size hn).mono ?_
    rintro e w11 ⟨v11, rfl, o11, b11⟩
    have l11 := andThen l10 b11
    have r11 := r10.keep (b11.mono (by omega))
    have rm11 := rm10.keep b11
    have s11 : w10.heap.size ≤ w11.heap.size := b11.size
    clear b11 l10 r10 rm10
    go_wp2_with fail
    refine (implAllocate_c T _ _ zs _ o11.reads (Nat.le_refl _) (by omega) (fun h => stable_all h)).mono ?_
    intro e w12 him
    obtain ⟨vh, rfl, oh, b12⟩ := alloc_again HSP.out rfl OS.out him
    have l12 := andThen l11 b12
    have r12 := r11.keep (b12.mono (by omega))
    have rm12 := rm11.keep (b12.mono s11)
    clear him b12 l11 r11 rm11 o11
    go_wp2_with fail
    refine (eqIntS_c _ _ _ _ _ _ oh.reads r12 (by omega)).mono ?_
    rintro e w13 ⟨rfl, d13⟩
    have b13 := d13.below w12.heap.size
    have l13 := andThen l12 b13
    have rm13 := rm12.keep (d13.below _)
    clear d13 b13 l12 r12 rm12 oh
    go_wp2_with fail
    refine (heldIntS_c 1 _ _ _ _ rm13 (by omega) (by omega) (by omega)).mono ?_
    rintro e w' ⟨rfl, rfl⟩
    go_wp2_with fail
    go_ret
    exact ⟨rfl, l13⟩
  · have k0 : decide ((zs.length : Int) > 1048576) = true := decide_eq_true (by omega)
    have k1 : (1048576 : Int) < (zs.length : Int) := by omega
    go_enter Try.func4, Try.ntmps4
    go_wp2_with fail
    go_ret
    exact ⟨rfl, Below.refl _ _⟩

end Go.Proofs.Ytcibffmhlamcdaa
