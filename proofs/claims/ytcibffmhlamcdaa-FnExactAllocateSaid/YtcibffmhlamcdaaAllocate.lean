/-
  impl.Allocate. Conditions: the weights can be read; the sort puts rows of their number in order.
-/
import Derived.Test.YtcibffmhlamcdaaAllocPlain
import Derived.Test.YtcibffmhlamcdaaStable
import Derived.Maps.AppendAt
namespace Go.Proofs.Ytcibffmhlamcdaa
open Go.RowKit
set_option linter.unusedVariables false
set_option maxRecDepth 4000

theorem blk_set1 {w : World} {g : Nat} {t : TypeId} {u : Value} (h : Blk w g t #[u]) (x : Value) : Blk (w.setCell ⟨g, 0, none⟩ x) g t #[x] := by
  have := h.set_ 0 x
  simpa using this
theorem blk_newAt {w : World} {g : Nat} {t : TypeId} {cs : Array Value} (hg : g = w.heap.size) : Blk (w.alloc (.cells cs t)) g t cs := by
  subst hg
  exact Blk.new _ _ _

theorem own_split {w : World} {base : Nat} {v : Value} {l : List Int} (h : OwnInts w base v l) (hn : 0 < l.length) :
    ∃ g cap, v = .slice (some ⟨g, 0, none⟩) l.length cap ∧ base ≤ g ∧ g < w.heap.size ∧ l.length ≤ cap ∧ cap ≤ maxLen ∧ NumR w g cap l.length (fun i => l.getD i 0) := by
  have h0 := h
  obtain ⟨g0, cap0, e0, _, hlt, hc0, _⟩ := h.form hn
  rcases h0.2 with ⟨rfl, h1⟩ | ⟨g, cap, cur, rfl, hb, hh, hc, hm, hs, ht⟩
  · omega
  · cases e0
    obtain ⟨f, f1, f2⟩ := ownC_of_owns h
    rw [Nat.mul_one] at f1 f2
    refine ⟨_, _, rfl, hb, hlt, hc, hm, f, f1, hc, fun i hi => ?_⟩
    have := f2 i hi
    rw [List.getElem?_map, List.getElem?_eq_getElem hi] at this
    show f i = .int .i64 (l.getD i 0)
    rw [List.getD_eq_getElem?_getD, List.getElem?_eq_getElem hi]
    exact (Option.some.inj this).symm
theorem own_join {w : World} {base g cap n : Nat} {h : Nat → Int} (hr : NumR w g cap n h) (hb : base ≤ g) (hm : cap ≤ maxLen) : OwnInts w base (.slice (some ⟨g, 0, none⟩) n cap) ((List.range n).map h) := by
  obtain ⟨f, ⟨cs, c1, c2, c3⟩, hc, hf⟩ := hr
  unfold OwnInts
  rw [List.length_map, List.length_range]
  refine ⟨by simp, .inr ⟨g, cap, cs, rfl, hb, c1, hc, hm, by rw [c2, Nat.mul_one], ?_⟩⟩
  apply List.ext_getElem?
  intro i
  rw [Nat.mul_one]
  by_cases hi : i < n
  · have := c3 i (by omega)
    rw [List.getElem?_take_of_lt hi, Array.getElem?_toList, this, hf i hi]
    simp [hi]
  · rw [List.getElem?_take_eq_none (by omega)]
    simp [hi]
theorem range_push (f : Nat → Int) (k : Nat) : (List.range (k + 1)).map f = (List.range k).map f ++ [f k] := by
  rw [List.range_succ, List.map_append]; rfl
theorem range_getD (f : Nat → Int) {n i : Nat} (h : i < n) : ((List.range n).map f).getD i 0 = f i := by
  rw [List.getD_eq_getElem?_getD]; simp [h]
theorem incF_le (d : Nat → Nat) (i : Nat) : ∀ k, 0 ≤ incF d k i ∧ incF d k i ≤ k
  | 0 => by simp [incF]
  | k + 1 => by
    have := incF_le d i k
    simp only [incF]
    split <;> omega
theorem below_only' {B : Nat} {a w w' : World} {g : Nat} (h : Below B a w) (k : w.grownBy w' (some g)) (hB : B ≤ w.heap.size) (hg : B ≤ g) : Below B a w' :=
  h.grown k hB (fun j hj => by have := Option.some.inj hj; omega)
theorem own_base {w : World} {base base' : Nat} {v : Value} {l : List Int} (h : OwnInts w base v l) (hb : base' ≤ base) : OwnInts w base' v l := by
  obtain ⟨h1, h2⟩ := h
  refine ⟨h1, ?_⟩
  rcases h2 with h2 | ⟨g, cap, cur, e1, e2, r⟩
  · exact .inl h2
  · exact .inr ⟨g, cap, cur, e1, by omega, r⟩
/-- Two own rows lie apart. -/
def Apart2 (v v' : Value) : Prop := ∃ g g', v.ownBlock = some g ∧ v'.ownBlock = some g' ∧ g ≠ g'

/-- What Allocate leaves. -/
def AllocEnd (T : Int) (zs : List Int) (w : World) (e : Ending) (w' : World) : Prop :=
  Below w.heap.size w w' ∧ ((okA T zs = false ∧ e = .returned (.slice none 0 0)) ∨
    (okA T zs = true ∧ ∃ (v : Value) (d : Nat → Nat) (l : Nat), e = .returned v ∧ OwnInts w' w.heap.size v ((List.range zs.length).map fun i => qf T (ws zs zs.length) zs i + incF d l i) ∧
      T - qs T (ws zs zs.length) zs zs.length = (l : Int) ∧ l < zs.length ∧ WP 0 zs.length id d ∧ SR (kf T (ws zs zs.length) zs) d 0 zs.length))

set_option maxHeartbeats 8000000 in
theorem implAllocate_c (T : Int) (L : Nat) (v : Value) (zs : List Int) (w : World) (h : ReadsInts w L v zs) (hL : L ≤ w.heap.size) (hl : zs.length ≤ 1048577) (hsort : zs.length ≤ 40 → SortsAt zs.length) :
    Calls Try.prog 10 #[.int .i64 T, v] w (AllocEnd T zs w) := by
  have HRD := Lib.hid h
  obtain ⟨A, cap, rfl, _⟩ := h
  obtain ⟨i0, hi, hz0, hz1, hz2⟩ := info_parts info_int
  have HSORT := Lib.hid hsort
  clear hsort
  go_enter Try.func10, Try.ntmps10
  go_wp2_with fail
  go_loopw [17] (fun i wr => ∃ k : Nat, k ≤ zs.length ∧ i = .int .i64 (k : Int) ∧ Hid (Blk wr w.heap.size 3 #[.int .i64 T]) ∧ Hid (Blk wr (w.heap.size + 1) 25 #[.slice A zs.length cap]) ∧ Hid (Blk wr (w.heap.size + 1 + 1) 3 #[.int .i64 (wsum zs k)]) ∧ Hid (Below w.heap.size w wr)) (fun i _ => zs.length - (intOf i).toNat)
  case atStart =>
    refine ⟨0, Nat.zero_le _, rfl, ?_, ?_, ?_, ?_⟩
    · exact ((Blk.new w 3 _).alloc _).alloc _
    · exact (blk_newAt (by simp)).alloc _
    · exact blk_newAt (by simp)
    · exact andAlloc (andAlloc (andAlloc (Below.refl _ _) _) _) _
  case round =>
    obtain ⟨k, hk, rfl, H2, H3, H5, HB⟩ := hrel
    have c2 := H2.out.cell 0
    have c3 := H3.out.cell 0
    have c5 := H5.out.cell 0
    have f5 := H5.out.frozen 0
    by_cases hlt : k < zs.length
    · obtain ⟨A', cap', hv, ha⟩ := HRD.out.keep (HB.out.mono hL)
      cases hv
      obtain ⟨b, off, rfl, hbL, e1⟩ := ha k hlt
      have hz : zs[k] = wAt zs k := (wAt_get hlt).symm
      rw [hz] at e1
      obtain ⟨s', hs'⟩ : ∃ s', IntKind.i64.wrap (wsum zs k + wAt zs k) = s' := ⟨_, rfl⟩
      have HS' : Hid (wsum zs (k + 1) = s') := hs'
      have k0 : (0 : Int) ≤ (k : Int) := by omega
      have k1 : (k : Int) < (zs.length : Int) := by omega
      generalize wsum zs k = s at *
      generalize wAt zs k = z at *
      have H2' := Lib.hid (H2.out.far (p := ⟨w.heap.size + 1 + 1, 0, none⟩) (show w.heap.size ≠ w.heap.size + 1 + 1 by omega) (.int .i64 s'))
      have H3' := Lib.hid (H3.out.far (p := ⟨w.heap.size + 1 + 1, 0, none⟩) (show w.heap.size + 1 ≠ w.heap.size + 1 + 1 by omega) (.int .i64 s'))
      have H5' := Lib.hid (blk_set1 H5.out (.int .i64 s'))
      have HB' := Lib.hid (andSet HB.out (p := ⟨w.heap.size + 1 + 1, 0, none⟩) (show w.heap.size ≤ w.heap.size + 1 + 1 by omega) (.int .i64 s'))
      clear H2 H3 H5 HB ha
      go_wp2_with fail
      go_roundw
      case rel => exact ⟨k + 1, by omega, by go_num, H2', H3', by rw [HS'.out]; exact H5', HB'⟩
      case measure => simp [intOf]; omega
    · obtain rfl : k = zs.length := by omega
      generalize hsum : wsum zs zs.length = s at *
      have HSUM := Lib.hid hsum
      cases h1 : inB T 0 1000000000
      case false =>
        have HNO := Lib.hid (okA_no (zs := zs) (.inl h1))
        go_wp2_with (go_at_call 19; refine (within_c _ _ _ _).mono ?_; rintro e w' ⟨rfl, rfl⟩; rw [h1])
        go_ret
        exact ⟨HB.out, .inl ⟨HNO.out, rfl⟩⟩
      cases h2 : inB (zs.length : Int) 1 40
      case false =>
        have HNO := Lib.hid (okA_no (T := T) (.inr (.inl h2)))
        go_wp2_with (go_at_call 19; refine (within_c _ _ _ _).mono ?_; rintro e w' ⟨rfl, rfl⟩; (first | rw [h1] | rw [h2]))
        go_ret
        exact ⟨HB.out, .inl ⟨HNO.out, rfl⟩⟩
      have HAW := Lib.hid (allWithin_c 0 1000000 L _ zs wr (HRD.out.keep (HB.out.mono hL)) (Nat.le_trans hL HB.out.size) (by omega))
      cases h3 : zs.all (fun z => inB z 0 1000000)
      case false =>
        rw [h3] at HAW
        have HNO := Lib.hid (okA_no (T := T) (.inr (.inr (.inl h3))))
        go_wp2_with (go_at_call 19; refine (within_c _ _ _ _).mono ?_; rintro e w' ⟨rfl, rfl⟩; (first | rw [h1] | rw [h2]))
        refine HAW.out.mono ?_
        rintro e W1 ⟨rfl, b1⟩
        go_wp2_with fail
        go_ret
        exact ⟨andThen HB.out b1, .inl ⟨HNO.out, rfl⟩⟩
      rw [h3] at HAW
      cases h4 : (s == 0)
      case true =>
        have HNO := Lib.hid (okA_no (T := T) (.inr (.inr (.inr (by rw [hsum]; exact h4)))))
        go_wp2_with (go_at_call 19; refine (within_c _ _ _ _).mono ?_; rintro e w' ⟨rfl, rfl⟩; (first | rw [h1] | rw [h2]))
        refine HAW.out.mono ?_
        rintro e W1 ⟨rfl, b1⟩
        have d5 := (b1.cell (p := ⟨w.heap.size + 1 + 1, 0, none⟩) H5.out.lt).trans c5
        go_wp2_with fail
        go_ret
        exact ⟨andThen HB.out b1, .inl ⟨HNO.out, rfl⟩⟩
      have HOK := Lib.hid (okA_yes h1 h2 h3 (by rw [hsum]; exact h4))
      go_wp2_with (go_at_call 19; refine (within_c _ _ _ _).mono ?_; rintro e w' ⟨rfl, rfl⟩; (first | rw [h1] | rw [h2]))
      refine HAW.out.mono ?_
      rintro e W1 ⟨rfl, b1⟩
      have d2 := (b1.cell (p := ⟨w.heap.size, 0, none⟩) H2.out.lt).trans c2
      have d3 := (b1.cell (p := ⟨w.heap.size + 1, 0, none⟩) H3.out.lt).trans c3
      have d5 := (b1.cell (p := ⟨w.heap.size + 1 + 1, 0, none⟩) H5.out.lt).trans c5
      have z5 : w.heap.size + 1 + 1 < W1.heap.size := Nat.lt_of_lt_of_le H5.out.lt b1.size
      have HB1 := Lib.hid (andThen HB.out b1)
      clear HAW HB b1 H2 H3 H5 c2 c3 c5 f5
      have hn1 := inB_iff.1 h2
      have ht := inB_iff.1 h1
      have HT := Lib.hid ht
      have HW := Lib.hid (wts_of h3)
      have n1 : 1 ≤ zs.length := by omega
      have n40 : zs.length ≤ 40 := by omega
      have HS0 : Hid (s = ws zs zs.length) := by show _ = _; rw [← HSUM.out]; exact wsum_ws HW.out n40 _ (Nat.le_refl _)
      have hs0 : 0 < s := by
        have h5 := (ws_nonneg HW.out zs.length (Nat.le_refl _)).1
        have h6 : s ≠ 0 := by simpa using h4
        have h7 := HS0.out
        omega
      have sne : ¬ s = 0 := by omega
      have HS1 := Lib.hid hs0
      have H4 := Lib.hid h4
      have HLEFT := Lib.hid (left_ok (T := T) hs0 HS0.out n1)
      have HWC : Hid (∃ b off, A = some ⟨b, off, none⟩ ∧ b < L ∧ ∀ i, i < zs.length → w.cell? ⟨b, off + i, none⟩ = some (.int .i64 (wAt zs i))) := by
        obtain ⟨A', cap', hv, ha⟩ := HRD.out
        cases hv
        obtain ⟨b, off, rfl, hb, _⟩ := ha 0 n1
        refine ⟨b, off, rfl, hb, fun i hi => ?_⟩
        obtain ⟨b', off', e, _, hc⟩ := ha i hi
        cases e
        rw [wAt_get hi]
        exact hc
      obtain ⟨b, off, rfl, hbL, hwc⟩ := HWC.out
      have HWC2 := Lib.hid hwc
      have hbb : b < w.heap.size := by omega
      have hWW : w.heap.size < W1.heap.size := by omega
      clear HWC hwc hn1 ht h1 h2 h3 h4 hsum HSUM HRD
      have BW0 := Lib.hid (((Below.refl W1.heap.size W1).alloc (Nat.le_refl _) (.cells #[] 3)).alloc (by simp) (.cells #[] 3))
      have x2 := (BW0.out.cell (p := ⟨w.heap.size, 0, none⟩) (show w.heap.size < W1.heap.size by omega)).trans d2
      have x3 := (BW0.out.cell (p := ⟨w.heap.size + 1, 0, none⟩) (show w.heap.size + 1 < W1.heap.size by omega)).trans d3
      have O8 : Hid (OwnInts ((W1.alloc (.cells #[] 3)).alloc (.cells #[] 3)) W1.heap.size (.slice (some ⟨W1.heap.size, 0, none⟩) 0 0) []) :=
        World.ownsRow.alloc (World.ownsRow_lit (base := W1.heap.size) (e := 3) (size := 1) W1 #[] 0 (Nat.le_refl _) (by decide) rfl) _
      have O9 : Hid (OwnInts ((W1.alloc (.cells #[] 3)).alloc (.cells #[] 3)) W1.heap.size (.slice (some ⟨W1.heap.size + 1, 0, none⟩) 0 0) []) := by
        have h9 := World.ownsRow_lit (base := W1.heap.size) (e := 3) (size := 1) (W1.alloc (.cells #[] 3)) #[] 0 (by simp) (by decide) rfl
        have e9 : (W1.alloc (.cells #[] 3)).heap.size = W1.heap.size + 1 := by simp
        rw [e9] at h9
        exact h9
      have OA : Hid (Apart2 (.slice (some ⟨W1.heap.size, 0, none⟩) 0 0) (.slice (some ⟨W1.heap.size + 1, 0, none⟩) 0 0)) := ⟨W1.heap.size, W1.heap.size + 1, rfl, rfl, by omega⟩
      have y2 := Lib.hid d2
      have y3 := Lib.hid d3
      have y5 := Lib.hid d5
      go_wp2_with fail
      rw [H4.out]
      clear x2 x3 d2 d3 d5 H4
      go_loopw [8, 9, 10, 48] (fun v8 v9 lf i wr => ∃ k : Nat, k ≤ zs.length ∧ i = .int .i64 (k : Int) ∧ lf = .int .i64 (T - qs T s zs k) ∧ Hid (OwnInts wr W1.heap.size v8 ((List.range k).map (qf T s zs))) ∧ Hid (OwnInts wr W1.heap.size v9 ((List.range k).map fun (i : Nat) => (i : Int))) ∧ Hid (Apart2 v8 v9) ∧ Hid (Below W1.heap.size W1 wr)) (fun _ _ _ i _ => zs.length - (intOf i).toNat)
      case atStart => exact ⟨0, Nat.zero_le _, rfl, by simp [qs], O8, O9, OA, BW0⟩
      case round =>
        clear O8 O9 OA BW0
        obtain ⟨k, hk, rfl, rfl, H8, H9, HA, HB⟩ := hrel
        by_cases hlt : k < zs.length
        · have c2 := (HB.out.cell (p := ⟨w.heap.size, 0, none⟩) hWW).trans y2.out
          have c5 := (HB.out.cell (p := ⟨w.heap.size + 1 + 1, 0, none⟩) z5).trans y5.out
          have cw := (HB.out.cell (p := ⟨b, off + k, none⟩) (Nat.lt_trans hbb hWW)).trans ((HB1.out.cell (p := ⟨b, off + k, none⟩) hbb).trans (HWC2.out k hlt))
          have hz := HW.out k hlt
          have hzs : wAt zs k ≤ s := by rw [HS0.out]; exact wAt_le HW.out hlt
          have hq := qf_bound (T := T) (S := s) (zs := zs) HT.out.1 HS1.out hz.1 hzs
          have hqs := qs_bound (T := T) (S := s) (zs := zs) HT.out.1 HS1.out HS0.out HW.out k (by omega)
          have HQS : Hid (T - qs T s zs k - qf T s zs k = T - qs T s zs (k + 1)) := by show _ = _; simp only [qs]; omega
          have hp0 := Int.mul_nonneg HT.out.1 hz.1
          have hp1 : T * wAt zs k ≤ 1000000000 * 1000000 := Int.mul_le_mul HT.out.2 hz.2 hz.1 (by decide)
          have e1 : IntKind.i64.wrap (T * wAt zs k) = T * wAt zs k := IntWalk.i64_in _ ⟨by omega, by omega⟩
          have r1 : (T * wAt zs k).tdiv s = qf T s zs k := Int.tdiv_eq_ediv_of_nonneg hp0
          have HR8 := Lib.hid (range_push (qf T s zs) k)
          have HR9 := Lib.hid (range_push (fun (i : Nat) => (i : Int)) k)
          have HT2 := HT.out
          have k0 : (0 : Int) ≤ (k : Int) := by omega
          have k1 : (k : Int) < (zs.length : Int) := by omega
          generalize wAt zs k = z at *
          generalize hqv : qf T s zs k = q at *
          have HQV := Lib.hid hqv
          generalize hll : (List.range k).map (qf T s zs) = l8 at *
          generalize hl9 : (List.range k).map (fun (i : Nat) => (i : Int)) = l9 at *
          have hlen8 : Hid (l8.length = k) := by show _ = _; rw [← hll]; simp
          have hlen9 : Hid (l9.length = k) := by show _ = _; rw [← hl9]; simp
          obtain ⟨lf, hlf⟩ : ∃ lf, T - qs T s zs k = lf := ⟨_, rfl⟩
          have l0 : 0 ≤ lf := by omega
          have l1 : lf ≤ 1000000000 := by omega
          have q0 := hq.1
          have q1 : q ≤ 1000000000 := by omega
          rw [hlf] at HQS ⊢
          have hlt8 := World.ownsRow.lt H8.out
          have hlt9 := World.ownsRow.lt H9.out
          have hbs := HB.out.size
          have HLT8 := Lib.hid hlt8
          have HLT9 := Lib.hid hlt9
          have HBS := Lib.hid hbs
          obtain ⟨g8, g9, a8, a9, a89⟩ := HA.out
          have A8 := Lib.hid a8
          have A9 := Lib.hid a9
          have A89 := Lib.hid a89
          clear hll hl9 hlf hqs hq hz hzs hqv hp0 hp1 hlt8 hlt9 hbs HA a8 a9 a89
          go_wp2_with (at_builtin; refine wpList_append_own_at _ rfl _ _ 25 rfl W1.heap.size 3 i0 (.int .i64 0) 1 8 Try.underlying25 hi hz0 hz1 hz2 rfl (by decide) _ _ _ rfl (World.ownsRow.alloc H8.out _) ⟨wr.heap.size, 0, none⟩ 1 1 [.int .i64 q] rfl rfl (one_news _ _ _) (one_cell q) ?c3 ?c4 ?c5 ?_)
          case c3 => have := hlen8.out; unfold maxLen; omega
          case c4 => have := hlen8.out; omega
          case c5 => have := HBS.out; simp; omega
          intro v8 w3 hown8 hg8 _ hat8
          have o8 := own_push hown8
          have hsz3 : wr.heap.size + 1 ≤ w3.heap.size := by have := hg8.size; simpa using this
          have o9 : OwnInts w3 W1.heap.size u9 l9 := OwnInts.grown (World.ownsRow.alloc H9.out (.cells #[.int .i64 q] 3)) hg8 (Or.inl (by rw [A8.out, A9.out]; intro e; exact A89.out (Option.some.inj e).symm))
          have B3 : Below W1.heap.size W1 w3 := (HB.out.alloc HBS.out (.cells #[.int .i64 q] 3)).grown hg8 (Nat.le_trans HBS.out (by simp)) (fun j hj => (HLT8.out j hj).1)
          have AP3 : Hid (∃ g, v8.ownBlock = some g ∧ g ≠ g9) := by
            rcases hat8 with e | e
            · exact ⟨g8, e.trans A8.out, A89.out⟩
            · refine ⟨_, e, ?_⟩
              have := (HLT9.out g9 A9.out).2
              simp
              omega
          have c2' := (B3.cell (p := ⟨w.heap.size, 0, none⟩) hWW).trans y2.out
          have cw' : Hid True := trivial
          have O8 := Lib.hid o8
          have O9 := Lib.hid o9
          have HB3 := Lib.hid B3
          have HBS3 := Lib.hid B3.size
          clear hown8 hg8 hat8 o8 o9 B3 H8 H9 HB HBS hsz3 cw c2 c5
          go_wp2_with (at_builtin; refine wpList_append_own_at _ rfl _ _ 25 rfl W1.heap.size 3 i0 (.int .i64 0) 1 8 Try.underlying25 hi hz0 hz1 hz2 rfl (by decide) _ _ _ rfl (World.ownsRow.alloc O9.out _) ⟨w3.heap.size, 0, none⟩ 1 1 [.int .i64 (k : Int)] rfl rfl (one_news _ _ _) (one_cell (k : Int)) ?c3 ?c4 ?c5 ?_)
          case c3 => have := hlen9.out; unfold maxLen; omega
          case c4 => have := hlen9.out; omega
          case c5 => have := HBS3.out; simp; omega
          intro v9 w4 hown9 hg9 _ hat9
          have o9 := own_push hown9
          obtain ⟨h8, a8, a89⟩ := AP3.out
          have hlt8 := (World.ownsRow.lt O8.out h8 a8).2
          have o8 : OwnInts w4 W1.heap.size v8 (l8 ++ [q]) := OwnInts.grown (World.ownsRow.alloc O8.out (.cells #[.int .i64 (k : Int)] 3)) hg9 (Or.inl (by rw [A9.out, a8]; intro e; exact a89 (Option.some.inj e)))
          have hlt9 := World.ownsRow.lt O9.out
          have B4 : Below W1.heap.size W1 w4 := (HB3.out.alloc HBS3.out (.cells #[.int .i64 (k : Int)] 3)).grown hg9 (Nat.le_trans HBS3.out (by simp)) (fun j hj => (hlt9 j hj).1)
          have AP4 : Hid (Apart2 v8 v9) := by
            rcases hat9 with e | e
            · exact ⟨h8, g9, a8, e.trans A9.out, a89⟩
            · refine ⟨h8, _, a8, e, ?_⟩
              simp
              omega
          have hl81 : (l8 ++ [q]).length = k + 1 := by rw [List.length_append, hlen8.out]; rfl
          obtain ⟨g, cap8, hv8, hg1, hg2, hg3, hcell⟩ := OwnInts.form o8 (by omega)
          rw [hl81] at hv8
          have hck := hcell k (by omega)
          have hqk : (l8 ++ [q])[k] = q := by
            rw [List.getElem_append_right (by rw [hlen8.out]; exact Nat.le_refl _)]
            simp
          rw [hqk] at hck
          have k2 : (k : Int) < ((k + 1 : Nat) : Int) := by omega
          have O8' := Lib.hid o8
          have O9' := Lib.hid o9
          have HB4 := Lib.hid B4
          subst hv8
          clear hown9 hg9 hat9 o8 o9 B4 O8 O9 HB3 HBS3 hlt8 hlt9 a8 a89 hl81 hqk hcell AP3 A8 A9 A89 HLT8 HLT9 hg1 hg2 hg3 c2'
          go_wp2_with fail
          go_roundw
          case rel => exact ⟨k + 1, by omega, by go_num, by rw [HQS.out], by rw [HR8.out]; exact O8', by rw [HR9.out]; exact O9', AP4, HB4⟩
          case measure => simp [intOf]; omega
        · obtain rfl : k = zs.length := by omega
          obtain ⟨l, hl1, hl2, hl3⟩ := HLEFT.out
          have HL := Lib.hid (And.intro hl1 hl2)
          rw [hl1]
          have len8 : ((List.range zs.length).map (qf T s zs)).length = zs.length := by simp
          have len9 : ((List.range zs.length).map fun (i : Nat) => (i : Int)).length = zs.length := by simp
          obtain ⟨g8, cap8, hv8, bg8, lg8, cc8, cm8, n8⟩ := own_split H8.out (by omega)
          obtain ⟨g9, cap9, hv9, bg9, lg9, cc9, cm9, n9⟩ := own_split H9.out (by omega)
          rw [len8] at hv8 n8 cc8
          rw [len9] at hv9 n9 cc9
          subst hv8 hv9
          have hne : g8 ≠ g9 := by
            obtain ⟨p, p', e, e', h⟩ := HA.out
            cases e
            cases e'
            exact h
          have N8 := Lib.hid (n8.congr (d' := qf T s zs) fun i hi => range_getD _ hi)
          have N9 : IntR wr g9 cap9 zs.length id := n9.congr (d' := fun i => ((id i : Nat) : Int)) fun i hi => range_getD _ hi
          have d2 := (HB.out.cell (p := ⟨w.heap.size, 0, none⟩) hWW).trans y2.out
          have d3 := (HB.out.cell (p := ⟨w.heap.size + 1, 0, none⟩) (by show w.heap.size + 1 < _; omega)).trans y3.out
          have d5 := (HB.out.cell (p := ⟨w.heap.size + 1 + 1, 0, none⟩) z5).trans y5.out
          have HC : CmpOk wr g9 zs.length (kf T s zs) (.pointer (some ⟨w.heap.size, 0, none⟩)) (.pointer (some ⟨w.heap.size + 1, 0, none⟩)) (.pointer (some ⟨w.heap.size + 1 + 1, 0, none⟩)) := by
            intro w' hg x y hx hy
            have cw := fun i (hi : i < zs.length) => hg.cell ((HB.out.cell (p := ⟨b, off + i, none⟩) (Nat.lt_trans hbb hWW)).trans ((HB1.out.cell (p := ⟨b, off + i, none⟩) hbb).trans (HWC2.out i hi))) (fun e => by have := Option.some.inj e; simp at this; omega)
            have hwx := HW.out x hx
            have hwy := HW.out y hy
            exact sortCmp_c T s (wAt zs x) (wAt zs y) x y _ _ _ b off zs.length cap w' (hg.cell d2 (fun e => by have := Option.some.inj e; simp at this; omega)) (hg.cell d3 (fun e => by have := Option.some.inj e; simp at this; omega)) (hg.cell d5 (fun e => by have := Option.some.inj e; simp at this; omega)) hx hy (cw x hx) (cw y hy) HT.out.1 HT.out.2 HS1.out hwx.1 hwx.2 hwy.1 hwy.2
          have HSRT := Lib.hid (HSORT.out n40 (kf T s zs) g9 cap9 cap9 id _ _ _ wr N9 (fun p hp => hp) HC (fun p q _ h1 _ _ => h1))
          have HBS := Lib.hid HB.out.size
          clear d2 d3 d5 HC n8 n9 N9 H8 H9 HA y2 y3 y5
          go_wp2_with fail
          refine HSRT.out.mono ?_
          rintro e W3 ⟨rfl, d, hr9, hwp, hsr, hg9⟩
          have N8' := Lib.hid (N8.out.grown hg9 hne)
          have N9' := Lib.hid hr9
          have HWP := Lib.hid hwp
          have HSR := Lib.hid hsr
          have HB3 := Lib.hid (below_only' HB.out hg9 HBS.out bg9)
          clear hr9 hwp hsr hg9 N8 HSRT HB
          have lc9 : (l : Int) ≤ (cap9 : Int) := by omega
          have l00 : (0 : Int) ≤ (l : Int) := by omega
          go_wp2_with fail
          clear hl1 hl3 lc9
          go_loopw [79] (fun i wl => ∃ k : Nat, k ≤ l ∧ i = .int .i64 (k : Int) ∧ Hid (NumR wl g8 cap8 zs.length fun i => qf T s zs i + incF d k i) ∧ Hid (IntR wl g9 cap9 zs.length d) ∧ Hid (Below W1.heap.size W1 wl)) (fun i _ => l - (intOf i).toNat)
          case atStart => exact ⟨0, Nat.zero_le _, rfl, N8'.out.congr (fun i _ => by simp [incF]), N9', HB3⟩
          case round =>
            clear N8' N9' HB3
            obtain ⟨k, hk, rfl, HN8, HN9, HBl⟩ := hrel
            by_cases hlt : k < l
            · have c9 := HN9.out.cell (i := k) (by omega)
              have hx : d k < zs.length := HWP.out.lt (Nat.le_refl _) (fun p hp => hp) k (by omega)
              have c8 := HN8.out.cell hx
              have f8 := HN8.out.frozen (d k)
              have hinc := incF_le d (d k) k
              have hwx := HW.out (d k) hx
              have hqx := qf_bound (T := T) (S := s) (zs := zs) HT.out.1 HS1.out hwx.1 (by rw [HS0.out]; exact wAt_le HW.out hx)
              have HT2 := HT.out
              obtain ⟨y, hy⟩ : ∃ y, qf T s zs (d k) + incF d k (d k) = y := ⟨_, rfl⟩
              have y0 : 0 ≤ y := by omega
              have y1 : y ≤ 2000000000 := by omega
              have HN8' := Lib.hid ((HN8.out.put (d k) (y + 1)).congr (d' := fun i => qf T s zs i + incF d (k + 1) i) (fun i hi => by
                show (if i = d k then y + 1 else qf T s zs i + incF d k i) = qf T s zs i + (incF d k i + if d k = i then 1 else 0)
                by_cases e : i = d k
                · subst e
                  rw [if_pos rfl, if_pos rfl]
                  omega
                · rw [if_neg e, if_neg (fun e' => e e'.symm)]
                  omega))
              have HN9' : Hid (IntR _ g9 cap9 zs.length d) := HN9.out.far (p := ⟨g8, d k, none⟩) (Ne.symm hne) (.int .i64 (y + 1))
              have HB' := Lib.hid (HBl.out.setCell (p := ⟨g8, d k, none⟩) bg8 (.int .i64 (y + 1)))
              have hX : (d k : Int) < (zs.length : Int) := by omega
              rw [hy] at c8
              generalize d k = x at *
              have k0 : (0 : Int) ≤ (k : Int) := by omega
              have k1 : (k : Int) < (l : Int) := by omega
              clear HN8 HN9 HBl hinc hwx hqx hy
              go_wp2_with fail
              go_roundw
              case rel => exact ⟨k + 1, by omega, by go_num, HN8', HN9', HB'⟩
              case measure => simp [intOf]; omega
            · obtain rfl : k = l := by omega
              have HO := Lib.hid (own_join HN8.out bg8 cm8)
              clear HN8 HN9
              go_wp2_with fail
              go_ret
              refine ⟨HB1.out.trans (HBl.out.mono HB1.out.size), .inr ⟨HOK.out, _, d, k, rfl, ?_, ?_, HL.out.2, HWP.out, ?_⟩⟩
              · rw [← HS0.out]
                exact own_base HO.out HB1.out.size
              · rw [← HS0.out]
                exact HL.out.1
              · rw [← HS0.out]
                exact HSR.out

end Go.Proofs.Ytcibffmhlamcdaa
