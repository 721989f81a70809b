/-
  spec.Allocate. Conditions: the weights can be read.
-/
import Derived.Test.YtcibffmhlamcdaaAllocate
import Derived.Test.YtcibffmhlamcdaaAllocSum
namespace Go.Proofs.Ytcibffmhlamcdaa
open Go.RowKit
set_option linter.unusedVariables false
set_option maxRecDepth 4000

/-- d is the order of the remainders. -/
def Ordered (T S : Int) (zs : List Int) (d : Nat → Nat) : Prop := WP 0 zs.length id d ∧ SR (kf T S zs) d 0 zs.length
/-- What is left of the remainders behind k picks. -/
def rest (T S : Int) (zs : List Int) (d : Nat → Nat) (k i : Nat) : Int := if incF d k i = 0 then kf T S zs i else -1
theorem rest_zero (T S : Int) (zs : List Int) (d : Nat → Nat) (i : Nat) : rest T S zs d 0 i = kf T S zs i := if_pos rfl
theorem pick_eq {T S : Int} {zs : List Int} {d : Nat → Nat} {k b : Nat} (hS : 0 < S) (ho : Ordered T S zs d) (hk : k < zs.length) (hb : b < zs.length) (h1 : ∀ p, p < zs.length → rest T S zs d k p ≤ rest T S zs d k b) (h2 : ∀ p, p < b → rest T S zs d k p < rest T S zs d k b) : b = d k := by
  have hinj := wp_inj ho.1
  have hdk : d k < zs.length := wp_lt ho.1 k hk
  have hk0 : ∀ i, 0 ≤ kf T S zs i := fun i => Int.emod_nonneg _ (by omega)
  have e0 : incF d k (d k) = 0 := incF_none k fun t ht e => by have := hinj t k (by omega) hk e; omega
  have r0 : rest T S zs d k (d k) = kf T S zs (d k) := if_pos e0
  have g1 := h1 (d k) hdk
  have g2 := hk0 (d k)
  rw [r0] at g1
  rcases incF_01 hinj k (by omega) b with ⟨e, hn⟩ | ⟨e, _⟩
  · have rb : rest T S zs d k b = kf T S zs b := if_pos e
    rw [rb] at g1
    have hall := wp_all ho.1 b hb
    rcases incF_01 hinj zs.length (Nat.le_refl _) b with ⟨e', _⟩ | ⟨_, t, ht, et⟩
    · omega
    · have htk : k ≤ t := by
        rcases Nat.lt_or_ge t k with h | h
        · exact absurd et (hn t h)
        · exact h
      by_cases c : t = k
      · rw [← c, et]
      · have := ho.2 k t (Nat.zero_le _) (by omega) ht
        rw [et] at this
        unfold RR at this
        rcases this with h | ⟨h, h'⟩
        · omega
        · have := h2 (d k) h'
          rw [r0, rb] at this
          omega
  · have rb : rest T S zs d k b = -1 := if_neg (by omega)
    rw [rb] at g1
    omega
theorem rest_step {T S : Int} {zs : List Int} {d : Nat → Nat} {k i : Nat} (ho : Ordered T S zs d) (hk : k < zs.length) : (if i = d k then -1 else rest T S zs d k i) = rest T S zs d (k + 1) i := by
  have h0 := incF_le d i k
  unfold rest
  by_cases e : i = d k
  · subst e
    have e1 : incF d (k + 1) (d k) = incF d k (d k) + 1 := by simp [incF]
    rw [if_pos rfl, e1, if_neg (by omega)]
  · have e1 : incF d (k + 1) i = incF d k i := by
      simp only [incF]
      rw [if_neg (fun h => e h.symm), Int.add_zero]
    rw [if_neg e, e1]

/-- What spec.Allocate leaves. -/
def SpecAllocEnd (T : Int) (zs : List Int) (w : World) (e : Ending) (w' : World) : Prop :=
  Below w.heap.size w w' ∧ ((okA T zs = false ∧ ∃ v, e = .returned v ∧ OwnInts w' w.heap.size v []) ∨
    (okA T zs = true ∧ ∃ (v : Value) (h : Nat → Int), e = .returned v ∧ OwnInts w' w.heap.size v ((List.range zs.length).map h) ∧
      ∀ (d : Nat → Nat) (l : Nat), Ordered T (ws zs zs.length) zs d → T - qs T (ws zs zs.length) zs zs.length = (l : Int) → ∀ i, i < zs.length → h i = qf T (ws zs zs.length) zs i + incF d l i))
theorem all_no {zs : List Int} {k : Nat} (hk : k < zs.length) (h : inB (wAt zs k) 0 1000000 = false) : zs.all (fun z => inB z 0 1000000) = false := by
  rw [List.all_eq_false]
  exact ⟨zs[k], List.getElem_mem _, by rw [wAt_get hk] at h; simp [h]⟩
theorem all_yes {zs : List Int} (h : ∀ k, k < zs.length → inB (wAt zs k) 0 1000000 = true) : zs.all (fun z => inB z 0 1000000) = true := by
  rw [List.all_eq_true]
  intro z hz
  obtain ⟨k, hk, rfl⟩ := List.getElem_of_mem hz
  have := h k hk
  rwa [wAt_get hk] at this
theorem own_lit0 {w : World} {base g : Nat} (hg : g = w.heap.size) (hb : base ≤ w.heap.size) : OwnInts (w.alloc (.cells #[] 3)) base (.slice (some ⟨g, 0, none⟩) 0 0) [] := by
  subst hg
  exact World.ownsRow_lit (base := base) (e := 3) (size := 1) w #[] 0 hb (by decide) rfl

set_option maxHeartbeats 8000000 in
theorem specAllocate_c (T : Int) (L : Nat) (v : Value) (zs : List Int) (w : World) (h : ReadsInts w L v zs) (hL : L ≤ w.heap.size) (hl : zs.length ≤ 1048577) :
    Calls Try.prog 8 #[.int .i64 T, v] w (SpecAllocEnd T zs w) := by
  have HRD := Lib.hid h
  obtain ⟨A, cap, rfl, _⟩ := h
  obtain ⟨i0, hi, hz0, hz1, hz2⟩ := info_parts info_int
  have HL0 := Lib.hid (own_lit0 (w := w) (base := w.heap.size) rfl (Nat.le_refl _))
  have HB0 := Lib.hid (andAlloc (Below.refl w.heap.size w) (.cells #[] 3))
  cases h1 : inB T 0 1000000000
  case false =>
    have HNO := Lib.hid (okA_no (zs := zs) (.inl h1))
    go_enter Try.func8, Try.ntmps8
    go_wp2_with (go_at_call 18; refine (l01In_c _ _ _ _).mono ?_; rintro e w' ⟨rfl, rfl⟩; rw [h1])
    go_ret
    exact ⟨HB0.out, .inl ⟨HNO.out, _, rfl, HL0.out⟩⟩
  cases h2 : inB (zs.length : Int) 1 40
  case false =>
    have HNO := Lib.hid (okA_no (T := T) (.inr (.inl h2)))
    go_enter Try.func8, Try.ntmps8
    go_wp2_with (go_at_call 18; refine (l01In_c _ _ _ _).mono ?_; rintro e w' ⟨rfl, rfl⟩; (first | rw [h1] | rw [h2]))
    go_ret
    exact ⟨HB0.out, .inl ⟨HNO.out, _, rfl, HL0.out⟩⟩
  have hn1 := inB_iff.1 h2
  have ht := inB_iff.1 h1
  have n1 : 1 ≤ zs.length := by omega
  have n40 : zs.length ≤ 40 := by omega
  have HH1 := Lib.hid h1
  have HH2 := Lib.hid h2
  have HWC : Hid (∃ b off, A = some ⟨b, off, none⟩ ∧ b < L ∧ ∀ i, i < zs.length → w.cell? ⟨b, off + i, none⟩ = some (.int .i64 (wAt zs i))) := by
    obtain ⟨A', cap', hv, ha⟩ := HRD.out
    cases hv
    obtain ⟨b, off, rfl, hb, _⟩ := ha 0 n1
    refine ⟨b, off, rfl, hb, fun i hi => ?_⟩
    obtain ⟨b', off', e, _, hc⟩ := ha i hi
    cases e
    rw [wAt_get hi]
    exact hc
  obtain ⟨b, off, rfl, hbL, hwc⟩ := HWC.out
  have HWC2 := Lib.hid hwc
  have HT := Lib.hid ht
  have hbb : b < w.heap.size := by omega
  have hbn : ¬ w.heap.size = b := by omega
  clear HWC hwc ht hn1 HRD
  go_enter Try.func8, Try.ntmps8
  go_wp2_with (go_at_call 18; refine (l01In_c _ _ _ _).mono ?_; rintro e w' ⟨rfl, rfl⟩; (first | rw [h1] | rw [h2]))
  clear h1 h2
  go_loop [6, 7] (fun s i => ∃ k : Nat, k ≤ zs.length ∧ i = .int .i64 (k : Int) ∧ s = .int .i64 (ws zs k) ∧ Hid (∀ p, p < k → inB (wAt zs p) 0 1000000 = true)) (fun _ i => zs.length - (intOf i).toNat)
  case atStart => exact ⟨0, Nat.zero_le _, rfl, rfl, (show ∀ p, p < 0 → inB (wAt zs p) 0 1000000 = true from fun p hp => by omega)⟩
  case round =>
    obtain ⟨k, hk, rfl, rfl, HV⟩ := hrel
    by_cases hlt : k < zs.length
    · have cw := (HB0.out.cell (p := ⟨b, off + k, none⟩) hbb).trans (HWC2.out k hlt)
      have k0 : (0 : Int) ≤ (k : Int) := by omega
      have k1 : (k : Int) < (zs.length : Int) := by omega
      cases h3 : inB (wAt zs k) 0 1000000
      case false =>
        have HNO := Lib.hid (okA_no (T := T) (.inr (.inr (.inl (all_no hlt h3)))))
        generalize wAt zs k = z at *
        go_wp2_with (go_at_call 18; refine (l01In_c _ _ _ _).mono ?_; rintro e w' ⟨rfl, rfl⟩; rw [h3])
        go_ret
        exact ⟨HB0.out, .inl ⟨HNO.out, _, rfl, HL0.out⟩⟩
      have HV2 : Hid (∀ p, p < k + 1 → inB (wAt zs p) 0 1000000 = true) := fun p hp => by
        by_cases e : p = k
        · rw [e]; exact h3
        · exact HV.out p (by omega)
      have hz := inB_iff.1 h3
      have hws : 0 ≤ ws zs k ∧ ws zs k ≤ k * 1000000 := by
        clear HV2 cw
        have hv := HV.out
        clear HV
        induction k with
        | zero => simp [ws]
        | succ k ih =>
          have h5 := inB_iff.1 (hv k (by omega))
          have h6 := ih (by omega) (by omega) (by omega) (by omega) (inB_true h5.1 h5.2) h5 (fun p hp => hv p (by omega))
          simp only [ws]
          omega
      have E1 : Hid (ws zs (k + 1) = ws zs k + wAt zs k) := rfl
      generalize wAt zs k = z at *
      generalize ws zs k = s at *
      go_wp2_with (go_at_call 18; refine (l01In_c _ _ _ _).mono ?_; rintro e w' ⟨rfl, rfl⟩; rw [h3])
      go_round
      case rel => exact ⟨k + 1, by omega, by go_num, by rw [E1.out], HV2⟩
      case measure => simp [intOf]; omega
    · obtain rfl : k = zs.length := by omega
      have hall := all_yes HV.out
      have HW := Lib.hid (wts_of hall)
      have hws := wsum_ws HW.out n40 _ (Nat.le_refl _)
      have hw0 := (ws_nonneg HW.out zs.length (Nat.le_refl _)).1
      obtain ⟨s, hs⟩ : ∃ s, ws zs zs.length = s := ⟨_, rfl⟩
      have HS0 : Hid (s = ws zs zs.length) := hs.symm
      rw [hs] at hws hw0 ⊢
      cases h4 : (s == 0)
      case true =>
        have HNO := Lib.hid (okA_no (T := T) (.inr (.inr (.inr (by rw [hws]; exact h4)))))
        clear hs
        go_wp2_with fail
        go_ret
        exact ⟨HB0.out, .inl ⟨HNO.out, _, rfl, HL0.out⟩⟩
      have HOK := Lib.hid (okA_yes HH1.out HH2.out hall (by rw [hws]; exact h4))
      have hs0 : 0 < s := by
        have h6 : s ≠ 0 := by simpa using h4
        omega
      have sne : ¬ s = 0 := by omega
      have H4 := Lib.hid h4
      have HS1 := Lib.hid hs0
      have HLEFT := Lib.hid (left_ok (T := T) hs0 HS0.out n1)
      have HA0 : Hid (Apart2 (.slice (some ⟨w.heap.size, 0, none⟩) 0 0) (.slice (some ⟨w.heap.size + 1, 0, none⟩) 0 0)) := ⟨w.heap.size, w.heap.size + 1, rfl, rfl, by omega⟩
      have O8 : Hid (OwnInts ((w.alloc (.cells #[] 3)).alloc (.cells #[] 3)) w.heap.size (.slice (some ⟨w.heap.size, 0, none⟩) 0 0) []) := World.ownsRow.alloc HL0.out _
      have O9 : Hid (OwnInts ((w.alloc (.cells #[] 3)).alloc (.cells #[] 3)) w.heap.size (.slice (some ⟨w.heap.size + 1, 0, none⟩) 0 0) []) := own_lit0 (by simp) (by simp)
      have BW0 := Lib.hid (andAlloc HB0.out (.cells #[] 3))
      clear HL0 HB0 hs hws hall HV
      go_wp2_with fail
      try rw [H4.out]
      clear H4
      go_loopw [5, 8, 9, 10] (fun v8 lf v9 i wr => ∃ k : Nat, k ≤ zs.length ∧ i = .int .i64 (k : Int) ∧ lf = .int .i64 (T - qs T s zs k) ∧ Hid (OwnInts wr w.heap.size v8 ((List.range k).map (qf T s zs))) ∧ Hid (OwnInts wr w.heap.size v9 ((List.range k).map (kf T s zs))) ∧ Hid (Apart2 v8 v9) ∧ Hid (Below w.heap.size w wr)) (fun _ _ _ i _ => zs.length - (intOf i).toNat)
      case atStart => exact ⟨0, Nat.zero_le _, rfl, by simp [qs], O8, O9, HA0, BW0⟩
      case round =>
        clear O8 O9 HA0 BW0
        obtain ⟨k, hk, rfl, rfl, H8, H9, HA, HB⟩ := hrel
        by_cases hlt : k < zs.length
        · have cw := (HB.out.cell (p := ⟨b, off + k, none⟩) hbb).trans (HWC2.out k hlt)
          have hz := HW.out k hlt
          have hzs : wAt zs k ≤ s := by rw [HS0.out]; exact wAt_le HW.out hlt
          have hq := qf_bound (T := T) (S := s) (zs := zs) HT.out.1 HS1.out hz.1 hzs
          have hqs := qs_bound (T := T) (S := s) (zs := zs) HT.out.1 HS1.out HS0.out HW.out k (by omega)
          have HQS : Hid (T - qs T s zs k - qf T s zs k = T - qs T s zs (k + 1)) := by show _ = _; simp only [qs]; omega
          have hp0 := Int.mul_nonneg HT.out.1 hz.1
          have hp1 : T * wAt zs k ≤ 1000000000 * 1000000 := Int.mul_le_mul HT.out.2 hz.2 hz.1 (by decide)
          have e1 : IntKind.i64.wrap (T * wAt zs k) = T * wAt zs k := IntWalk.i64_in _ ⟨by omega, by omega⟩
          have r1 : (T * wAt zs k).tdiv s = qf T s zs k := Int.tdiv_eq_ediv_of_nonneg hp0
          have HR8 := Lib.hid (range_push (qf T s zs) k)
          have r2 : (T * wAt zs k).tmod s = kf T s zs k := Int.tmod_eq_emod_of_nonneg hp0
          have kk0 : 0 ≤ kf T s zs k := Int.emod_nonneg _ sne
          have kk1 : kf T s zs k < s := Int.emod_lt_of_pos _ HS1.out
          have kk2 : s ≤ 40000000 := by rw [HS0.out]; have := (ws_nonneg HW.out zs.length (Nat.le_refl _)).2; omega
          have HR9 := Lib.hid (range_push (kf T s zs) k)
          have HT2 := HT.out
          have k0 : (0 : Int) ≤ (k : Int) := by omega
          have k1 : (k : Int) < (zs.length : Int) := by omega
          generalize wAt zs k = z at *
          generalize hkv : kf T s zs k = rk at *
          have HKV := Lib.hid hkv
          generalize hqv : qf T s zs k = q at *
          have HQV := Lib.hid hqv
          generalize hll : (List.range k).map (qf T s zs) = l8 at *
          generalize hl9 : (List.range k).map (kf T s zs) = l9 at *
          have hlen8 : Hid (l8.length = k) := by show _ = _; rw [← hll]; simp
          have hlen9 : Hid (l9.length = k) := by show _ = _; rw [← hl9]; simp
          obtain ⟨lf, hlf⟩ : ∃ lf, T - qs T s zs k = lf := ⟨_, rfl⟩
          have l0 : 0 ≤ lf := by omega
          have l1 : lf ≤ 1000000000 := by omega
          have q0 := hq.1
          have q1 : q ≤ 1000000000 := by omega
          rw [hlf] at HQS ⊢
          have hlt8 := World.ownsRow.lt H8.out
          have hlt9 := World.ownsRow.lt H9.out
          have hbs := HB.out.size
          have HLT8 := Lib.hid hlt8
          have HLT9 := Lib.hid hlt9
          have HBS := Lib.hid hbs
          obtain ⟨g8, g9, a8, a9, a89⟩ := HA.out
          have A8 := Lib.hid a8
          have A9 := Lib.hid a9
          have A89 := Lib.hid a89
          clear hll hl9 hlf hqs hq hz hzs hqv hkv hp0 hp1 kk2 hlt8 hlt9 hbs HA a8 a9 a89
          go_wp2_with (at_builtin; refine wpList_append_own_at _ rfl _ _ 25 rfl w.heap.size 3 i0 (.int .i64 0) 1 8 Try.underlying25 hi hz0 hz1 hz2 rfl (by decide) _ _ _ rfl (World.ownsRow.alloc H8.out _) ⟨wr.heap.size, 0, none⟩ 1 1 [.int .i64 q] rfl rfl (one_news _ _ _) (one_cell q) ?c3 ?c4 ?c5 ?_)
          case c3 => have := hlen8.out; unfold maxLen; omega
          case c4 => have := hlen8.out; omega
          case c5 => have := HBS.out; simp; omega
          intro v8 w3 hown8 hg8 _ hat8
          have o8 := own_push hown8
          have hsz3 : wr.heap.size + 1 ≤ w3.heap.size := by have := hg8.size; simpa using this
          have o9 : OwnInts w3 w.heap.size u9 l9 := OwnInts.grown (World.ownsRow.alloc H9.out (.cells #[.int .i64 q] 3)) hg8 (Or.inl (by rw [A8.out, A9.out]; intro e; exact A89.out (Option.some.inj e).symm))
          have B3 : Below w.heap.size w w3 := (HB.out.alloc HBS.out (.cells #[.int .i64 q] 3)).grown hg8 (Nat.le_trans HBS.out (by simp)) (fun j hj => (HLT8.out j hj).1)
          have AP3 : Hid (∃ g, v8.ownBlock = some g ∧ g ≠ g9) := by
            rcases hat8 with e | e
            · exact ⟨g8, e.trans A8.out, A89.out⟩
            · refine ⟨_, e, ?_⟩
              have := (HLT9.out g9 A9.out).2
              simp
              omega
          have cw' : Hid True := trivial
          have O8 := Lib.hid o8
          have O9 := Lib.hid o9
          have HB3 := Lib.hid B3
          have HBS3 := Lib.hid B3.size
          clear hown8 hg8 hat8 o8 o9 B3 H8 H9 HB HBS hsz3 cw
          go_wp2_with (at_builtin; refine wpList_append_own_at _ rfl _ _ 25 rfl w.heap.size 3 i0 (.int .i64 0) 1 8 Try.underlying25 hi hz0 hz1 hz2 rfl (by decide) _ _ _ rfl (World.ownsRow.alloc O9.out _) ⟨w3.heap.size, 0, none⟩ 1 1 [.int .i64 rk] rfl rfl (one_news _ _ _) (one_cell rk) ?c3 ?c4 ?c5 ?_)
          case c3 => have := hlen9.out; unfold maxLen; omega
          case c4 => have := hlen9.out; omega
          case c5 => have := HBS3.out; simp; omega
          intro v9 w4 hown9 hg9 _ hat9
          have o9 := own_push hown9
          obtain ⟨h8, a8, a89⟩ := AP3.out
          have hlt8 := (World.ownsRow.lt O8.out h8 a8).2
          have o8 : OwnInts w4 w.heap.size v8 (l8 ++ [q]) := OwnInts.grown (World.ownsRow.alloc O8.out (.cells #[.int .i64 rk] 3)) hg9 (Or.inl (by rw [A9.out, a8]; intro e; exact a89 (Option.some.inj e)))
          have hlt9 := World.ownsRow.lt O9.out
          have B4 : Below w.heap.size w w4 := (HB3.out.alloc HBS3.out (.cells #[.int .i64 rk] 3)).grown hg9 (Nat.le_trans HBS3.out (by simp)) (fun j hj => (hlt9 j hj).1)
          have AP4 : Hid (Apart2 v8 v9) := by
            rcases hat9 with e | e
            · exact ⟨h8, g9, a8, e.trans A9.out, a89⟩
            · refine ⟨h8, _, a8, e, ?_⟩
              simp
              omega
          have hl81 : (l8 ++ [q]).length = k + 1 := by rw [List.length_append, hlen8.out]; rfl
          obtain ⟨g, cap8, hv8, hg1, hg2, hg3, hcell⟩ := OwnInts.form o8 (by omega)
          rw [hl81] at hv8
          have hck := hcell k (by omega)
          have hqk : (l8 ++ [q])[k] = q := by
            rw [List.getElem_append_right (by rw [hlen8.out]; exact Nat.le_refl _)]
            simp
          rw [hqk] at hck
          have k2 : (k : Int) < ((k + 1 : Nat) : Int) := by omega
          have O8' := Lib.hid o8
          have O9' := Lib.hid o9
          have HB4 := Lib.hid B4
          subst hv8
          clear hown9 hg9 hat9 o8 o9 B4 O8 O9 HB3 HBS3 hlt8 hlt9 a8 a89 hl81 hqk hcell AP3 A8 A9 A89 HLT8 HLT9 hg1 hg2 hg3
          go_wp2_with fail
          go_roundw
          case rel => exact ⟨k + 1, by omega, by go_num, by rw [HQS.out], by rw [HR8.out]; exact O8', by rw [HR9.out]; exact O9', AP4, HB4⟩
          case measure => simp [intOf]; omega
        · obtain rfl : k = zs.length := by omega
          obtain ⟨l, hl1, hl2, hl3⟩ := HLEFT.out
          have HL := Lib.hid (And.intro hl1 hl2)
          rw [hl1]
          have len8 : ((List.range zs.length).map (qf T s zs)).length = zs.length := by simp
          have len9 : ((List.range zs.length).map (kf T s zs)).length = zs.length := by simp
          obtain ⟨g8, cap8, hv8, bg8, lg8, cc8, cm8, n8⟩ := own_split H8.out (by omega)
          obtain ⟨g9, cap9, hv9, bg9, lg9, cc9, cm9, n9⟩ := own_split H9.out (by omega)
          rw [len8] at hv8 n8 cc8
          rw [len9] at hv9 n9 cc9
          subst hv8 hv9
          have hne : g8 ≠ g9 := by
            obtain ⟨p, p', e, e', h⟩ := HA.out
            cases e
            cases e'
            exact h
          have N8 := Lib.hid (n8.congr (d' := qf T s zs) fun i hi => range_getD _ hi)
          have N9 := Lib.hid (n9.congr (d' := kf T s zs) fun i hi => range_getD _ hi)
          have HQ0 : Hid (∀ i, i < zs.length → 0 ≤ qf T s zs i ∧ qf T s zs i ≤ T + (0 : Nat)) := fun i hi => by
            have := qf_bound (T := T) (S := s) (zs := zs) HT.out.1 HS1.out (HW.out i hi).1 (by rw [HS0.out]; exact wAt_le HW.out hi)
            omega
          have HD0 : Hid (∀ d, Ordered T s zs d → (∀ i, i < zs.length → qf T s zs i = qf T s zs i + incF d 0 i) ∧ (∀ i, i < zs.length → kf T s zs i = rest T s zs d 0 i)) := fun d _ => ⟨fun i _ => by simp [incF], fun i _ => (rest_zero T s zs d i).symm⟩
          have HTT := Lib.hid HT.out.2
          clear n8 n9 H8 H9 HA len8 len9 hl1 hl3
          go_wp2_with fail
          go_loopw [8] (fun lf wl => ∃ (u k : Nat) (h r : Nat → Int), Hid (u + k = l) ∧ lf = .int .i64 (u : Int) ∧ Hid (NumR wl g8 cap8 zs.length h) ∧ Hid (NumR wl g9 cap9 zs.length r) ∧ Hid (∀ i, i < zs.length → 0 ≤ h i ∧ h i ≤ T + (k : Int)) ∧ Hid (∀ d, Ordered T s zs d → (∀ i, i < zs.length → h i = qf T s zs i + incF d k i) ∧ (∀ i, i < zs.length → r i = rest T s zs d k i)) ∧ Hid (Below w.heap.size w wl)) (fun lf _ => (intOf lf).toNat)
          case atStart => exact ⟨l, 0, _, _, (show l + 0 = l from rfl), rfl, N8, N9, HQ0, HD0, HB⟩
          case round =>
            clear N8 N9 HQ0 HD0 HB
            obtain ⟨u, k, h, r, huk, rfl, HN8, HN9, HQk, HDk, HBk⟩ := hrel
            have hukl := huk.out
            by_cases hu : 0 < u
            · obtain ⟨u', hu'⟩ : ∃ q : Nat, (u : Int) - 1 = (q : Int) := ⟨u - 1, by omega⟩
              have HU := Lib.hid hu'
              have uk : (0 : Int) < (u : Int) := by omega
              have ul : u ≤ 40 := by omega
              clear hu'
              go_wp2_with fail
              go_loopw [12, 13] (fun bv jv wj => ∃ b j : Nat, 1 ≤ j ∧ j ≤ zs.length ∧ b < j ∧ bv = .int .i64 (b : Int) ∧ jv = .int .i64 (j : Int) ∧ Hid (∀ p, p < j → r p ≤ r b) ∧ Hid (∀ p, p < b → r p < r b) ∧ Hid (NumR wj g8 cap8 zs.length h) ∧ Hid (NumR wj g9 cap9 zs.length r) ∧ Hid (Below w.heap.size w wj)) (fun _ jv _ => zs.length - (intOf jv).toNat)
              case atStart => exact ⟨0, 1, Nat.le_refl _, n1, by omega, rfl, rfl, (show ∀ p, p < 1 → r p ≤ r 0 from fun p hp => by rw [show p = 0 by omega]; exact Int.le_refl _), (show ∀ p, p < 0 → r p < r 0 from fun p hp => by omega), HN8, HN9, HBk⟩
              case round =>
                clear HN8 HN9 HBk
                obtain ⟨b', j, j1, j2, hbj, rfl, rfl, M1, M2, HN8, HN9, HBk⟩ := hrel
                by_cases hlt : j < zs.length
                · have e1 := HN9.out.cell (i := j) hlt
                  have e2 := HN9.out.cell (i := b') (by omega)
                  have k0 : (0 : Int) ≤ (j : Int) := by omega
                  have k1 : (j : Int) < (zs.length : Int) := by omega
                  have k2 : (0 : Int) ≤ (b' : Int) := by omega
                  have k3 : (b' : Int) < (zs.length : Int) := by omega
                  have A8 := Lib.hid (fun q => HN8.out.drewN q)
                  have A9 := Lib.hid (fun q => HN9.out.drewN q)
                  have AB := Lib.hid (fun q => andDrewN HBk.out q)
                  clear HN8 HN9 HBk
                  by_cases hr : r b' < r j
                  · have N1 : Hid (∀ p, p < j + 1 → r p ≤ r j) := fun p hp => by
                      by_cases e : p = j
                      · rw [e]; exact Int.le_refl _
                      · have := M1.out p (by omega); omega
                    have N2 : Hid (∀ p, p < j → r p < r j) := fun p hp => by have := M1.out p hp; omega
                    have d1 : decide (r j > r b') = true := decide_eq_true hr
                    clear M1 M2
                    go_wp2_with fail
                    go_quiet (fail)
                    go_wp2_with fail
                    go_roundw
                    case rel => exact ⟨j, j + 1, by omega, by omega, by omega, rfl, by go_num, N1, N2, A8.out _, A9.out _, AB.out _⟩
                    case measure => simp [intOf]; omega
                  · have N1 : Hid (∀ p, p < j + 1 → r p ≤ r b') := fun p hp => by
                      by_cases e : p = j
                      · rw [e]; omega
                      · exact M1.out p (by omega)
                    have d1 : decide (r j > r b') = false := decide_eq_false hr
                    have d2 : ¬ r b' < r j := hr
                    clear M1
                    go_wp2_with fail
                    go_quiet (fail)
                    go_wp2_with fail
                    go_roundw
                    case rel => exact ⟨b', j + 1, by omega, by omega, by omega, rfl, by go_num, N1, M2, A8.out _, A9.out _, AB.out _⟩
                    case measure => simp [intOf]; omega
                · obtain rfl : j = zs.length := by omega
                  have c8 := HN8.out.cell hbj
                  have f8 := HN8.out.frozen b'
                  have c9 := HN9.out.cell hbj
                  have f9 := HN9.out.frozen b'
                  have hbd := HQk.out b' hbj
                  have hT2 := HTT.out
                  have k2 : (0 : Int) ≤ (b' : Int) := by omega
                  have k3 : (b' : Int) < (zs.length : Int) := by omega
                  obtain ⟨y, hy⟩ : ∃ y, h b' = y := ⟨_, rfl⟩
                  have y0 : 0 ≤ y := by omega
                  have y1 : y ≤ 2000000000 := by omega
                  have hne' : g9 ≠ g8 := fun e => hne e.symm
                  have A8 := Lib.hid ((HN8.out.put b' (y + 1)).far (p := ⟨g9, b', none⟩) hne (.int .i64 (-1)))
                  have A9 := Lib.hid ((HN9.out.far (p := ⟨g8, b', none⟩) hne' (.int .i64 (y + 1))).put b' (-1))
                  have AB := Lib.hid (andSet (andSet HBk.out (p := ⟨g8, b', none⟩) bg8 (.int .i64 (y + 1))) (p := ⟨g9, b', none⟩) bg9 (.int .i64 (-1)))
                  have AQ : Hid (∀ i, i < zs.length → 0 ≤ (if i = b' then y + 1 else h i) ∧ (if i = b' then y + 1 else h i) ≤ T + ((k + 1 : Nat) : Int)) := fun i hi => by
                    have := HQk.out i hi
                    split <;> omega
                  have AD : Hid (∀ d, Ordered T s zs d → (∀ i, i < zs.length → (if i = b' then y + 1 else h i) = qf T s zs i + incF d (k + 1) i) ∧ (∀ i, i < zs.length → (if i = b' then -1 else r i) = rest T s zs d (k + 1) i)) := fun d ho => by
                    obtain ⟨q1, q2⟩ := HDk.out d ho
                    have hkn : k < zs.length := by omega
                    have hb : b' = d k := pick_eq HS1.out ho hkn hbj (fun p hp => by rw [← q2 p hp, ← q2 b' hbj]; exact M1.out p hp) (fun p hp => by rw [← q2 p (by omega), ← q2 b' hbj]; exact M2.out p hp)
                    refine ⟨fun i hi => ?_, fun i hi => ?_⟩
                    · simp only [incF]
                      by_cases e : i = b'
                      · rw [if_pos e, if_pos (by rw [e, hb]), ← hy, e, q1 b' hbj]
                        omega
                      · rw [if_neg e, if_neg (fun e' => e (by rw [hb, e'])), q1 i hi]
                        omega
                    · rw [hb, ← rest_step ho hkn, q2 i hi]
                  have hu' := HU.out
                  have AU : Hid (u' + (k + 1) = l) := by show _ = _; omega
                  rw [hy] at c8
                  clear HN8 HN9 HBk M1 M2 HQk HDk huk hbd hy
                  go_wp2_with fail
                  go_roundw
                  case rel => exact ⟨u', k + 1, _, _, AU, rfl, A8, A9, AQ, AD, AB⟩
                  case measure => simp [intOf] <;> omega
            · obtain rfl : u = 0 := by omega
              have HO := Lib.hid (own_join HN8.out bg8 cm8)
              have hkl : k = l := by omega
              go_wp2_with fail
              go_ret
              refine ⟨HBk.out, .inr ⟨HOK.out, _, h, rfl, HO.out, ?_⟩⟩
              rw [← HS0.out]
              intro d l' ho hl' i hi
              have e1 := HL.out.1
              have e2 : l' = k := by omega
              rw [e2]
              exact (HDk.out d ho).1 i hi

end Go.Proofs.Ytcibffmhlamcdaa
