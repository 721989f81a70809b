/-
  TimelineOf of both packages builds the same row of segments. Conditions: the facts can be read.
-/
import Derived.Test.YtmehfclhmbhjaaaStoreOk
import Derived.Test.YtmehfclhmbhjaaaValueAt2
import Derived.Test.YtmehfclhmbhjaaaSegMark
import Derived.Test.YtmehfclhmbhjaaaMonthsIn
namespace Go.Proofs.Ytmehfclhmbhjaaa
open Go.RowKit
set_option linter.unusedVariables false
set_option maxRecDepth 4000

def joinB (q : Nat) (G : Nat → Nat → Int) (m v : Int) : Bool := decide (0 < q) && (G (q - 1) 1 == m && G (q - 1) 2 == v)
def segRow (m v : Int) (j : Nat) : Int := if j = 0 then m else if j = 1 then m + 1 else v
def setTo (G : Nat → Nat → Int) (p : Nat) (x : Int) (i j : Nat) : Int := if i = p ∧ j = 1 then x else G i j
def tlStep (s : Nat × (Nat → Nat → Int)) (m : Int) (r : Int × Bool) : Nat × (Nat → Nat → Int) :=
  if r.2 = true then (if joinB s.1 s.2 m r.1 = true then (s.1, setTo s.2 (s.1 - 1) (m + 1)) else (s.1 + 1, addRow s.2 s.1 (segRow m r.1))) else s
def tlS (F : Nat → Nat → Int) (n : Nat) (key kn from_ : Int) : Nat → Nat × (Nat → Nat → Int)
  | 0 => (0, fun _ _ => 0)
  | t + 1 => tlStep (tlS F n key kn from_ t) (from_ + (t : Int)) (valueAt F key (from_ + (t : Int)) kn n)
theorem tlS_len (F : Nat → Nat → Int) (n : Nat) (key kn from_ : Int) : ∀ t, (tlS F n key kn from_ t).1 ≤ t
  | 0 => Nat.le_refl _
  | t + 1 => by
    have := tlS_len F n key kn from_ t
    unfold tlS tlStep
    split
    · split
      · dsimp only; omega
      · dsimp only; omega
    · omega
def tlCount (a b : Int) : Nat := (b - a).toNat
def timeline (F : Nat → Nat → Int) (n : Nat) (key kn a b : Int) : Nat × (Nat → Nat → Int) :=
  if (storeB n F && (inB kn 0 3599 && (inB a 0 3600 && inB b 0 3600))) = true then tlS F n key kn a (tlCount a b) else (0, fun _ _ => 0)
theorem timeline_len (F : Nat → Nat → Int) (n : Nat) (key kn a b : Int) : (timeline F n key kn a b).1 ≤ 3600 := by
  unfold timeline
  split
  · rename_i h
    simp only [Bool.and_eq_true] at h
    have h1 := inB_iff.1 h.2.2.1
    have h2 := inB_iff.1 h.2.2.2
    have := tlS_len F n key kn a (tlCount a b)
    unfold tlCount at *
    omega
  · simp
theorem valueAt_i64 {F : Nat → Nat → Int} {key m kn : Int} : ∀ n, (∀ i, i < n → I64 (F i 4)) → I64 (valueAt F key m kn n).1
  | 0, _ => ⟨by show (_ : Int) ≤ 0; omega, by show (0 : Int) ≤ _; omega⟩
  | n + 1, h => by
    unfold valueAt
    split
    · exact h n (by omega)
    · exact valueAt_i64 n fun i hi => h i (by omega)

/-- A result that is a row of segments of the call's own. -/
def SegEnd (q : Nat) (G : Nat → Nat → Int) (w : World) (e : Ending) (w' : World) : Prop := ∃ A c, e = .returned (.slice A q c) ∧ OwnV 3 68 w' w.heap.size (.slice A q c) q G ∧ Below w.heap.size w w'

set_option maxHeartbeats 400000 in
theorem isEnd_c (m : Int) (w : World) :
    Calls Try.prog 64 #[.int .i64 m] w fun e w' => e = .returned (.bool (inB m 0 3600)) ∧ w = w' := by
  go_enter Try.func64, Try.ntmps64
  go_wp2_with (go_at_call 65; refine (within_c _ _ _ _).mono ?_; rintro e w' ⟨rfl, rfl⟩)
  go_ret
  exact ⟨rfl, rfl⟩

set_option maxRecDepth 20000 in
set_option maxHeartbeats 8000000 in
theorem implTimelineOf_c (L : Nat) (A : Option Addr) (n cap : Nat) (F : Nat → Nat → Int) (key kn fr tt : Int) (w : World) (h1 : Tab 5 w L A n F) (hL : L ≤ w.heap.size) (hn : n ≤ 1048577) :
    Calls Try.prog 44 #[.agg #[.slice A n cap], .int .i64 key, .int .i64 kn, .int .i64 fr, .int .i64 tt] w (SegEnd (timeline F n key kn fr tt).1 (timeline F n key kn fr tt).2 w) := by
  obtain ⟨i0, hi, hz0, hz1, hz2⟩ := info_parts info_Segment
  have hvals := Lib.hid (fun (m : Int) => valueAt_i64 (F := F) (key := key) (m := m) (kn := kn) n (fun i hi => by obtain ⟨b, off, _, _, hc⟩ := h1 i hi; exact (hc 4 (by omega)).2))
  have L0 : Below w.heap.size w (w.alloc (.cells #[.slice A n cap] 38)) := andAlloc (Below.refl _ _) _
  have B0 : (w.alloc (.cells #[.slice A n cap] 38)).cell? ⟨w.heap.size, 0, none⟩ = some (.slice A n cap) := by go_simp
  have S0 := Lib.hid (show (w.alloc (.cells #[.slice A n cap] 38)).heap.size = w.heap.size + 1 by simp)
  have H1 := Lib.hid (h1.keep (L0.mono hL))
  have HC := Lib.hid (implStoreOk_c L A n cap F _ (H1.out) (by have := S0.out; omega) hn)
  clear h1
  cases q1 : storeB n F <;> cases q2 : inB kn 0 3599 <;> cases q3 : inB fr 0 3600 <;> cases q4 : inB tt 0 3600
  case true.true.true.true =>
    obtain ⟨T, hT⟩ : ∃ T : Nat, tlCount fr tt = T := ⟨_, rfl⟩
    have HS : Hid (timeline F n key kn fr tt = tlS F n key kn fr T) := by show _ = _; unfold timeline; rw [q1, q2, q3, q4, ← hT]; rfl
    obtain ⟨f0, f1⟩ := inB_iff.1 q3
    obtain ⟨f2, f3⟩ := inB_iff.1 q4
    have HTT : Hid (T = (tt - fr).toNat) := hT.symm
    clear hT
    rw [q1] at HC
    clear q1
    go_enter Try.func44, Try.ntmps44
    go_wp2_with fail
    generalize w.alloc (.cells #[.slice A n cap] 38) = W1 at L0 B0 S0 H1 HC ⊢
    go_wp2_with (first
      | (go_at_call 25; refine HC.out.mono ?_; rintro e w1 ⟨rfl, b1⟩; have sl1 := cell_later b1 B0)
      | (go_at_call 64; refine (isEnd_c _ _).mono ?_; rintro e w' ⟨rfl, rfl⟩)
      | (go_at_call 75; refine (implMonthOk_c _ _).mono ?_; rintro e w' ⟨rfl, rfl⟩))
    have hw1 : w.heap.size + 1 ≤ W1.heap.size := by have := S0.out; omega
    have hL1 : L ≤ W1.heap.size := by omega
    have hB1 : Below (w.heap.size + 1) W1 w1 := b1.mono hw1
    have hb1z := b1.size
    clear q2 q3 q4 sl1 b1
    go_loopw [11, 12] (fun v i wr => ∃ t : Nat, t ≤ T ∧ i = .int .i64 (fr + (t : Int)) ∧ OwnV 3 68 wr (w.heap.size + 1) v (tlS F n key kn fr t).1 (tlS F n key kn fr t).2 ∧ Below (w.heap.size + 1) W1 wr) (fun _ i _ => (tt - intOf i).toNat)
    case atStart => exact ⟨0, by omega, by simp, ownV_lit (by omega) (heap_alloc_new w1 _), hB1.alloc (by omega) _⟩
    case round =>
      obtain ⟨t, ht, rfl, hown, hbl⟩ := hrel
      have sl : wr.cell? ⟨w.heap.size, 0, none⟩ = some (.slice A n cap) := (hbl.cell (p := ⟨w.heap.size, 0, none⟩) (by show w.heap.size < _; omega)).trans B0
      have hcl := tlS_len F n key kn fr t
      have hbz := hbl.size
      by_cases hlt : fr + (t : Int) < tt
      · obtain ⟨m, hm⟩ : ∃ m : Int, fr + (t : Int) = m := ⟨_, rfl⟩
        obtain ⟨x, o1, hx⟩ : ∃ x o, valueAt F key m kn n = (x, o) := ⟨_, _, rfl⟩
        have hxi : I64 x := by have := hvals.out m; rw [hx] at this; exact this
        obtain ⟨q, G, hs⟩ : ∃ q G, tlS F n key kn fr t = (q, G) := ⟨_, _, rfl⟩
        have HN : Hid (tlS F n key kn fr (t + 1) = tlStep (q, G) m (x, o1)) := by show _ = _; rw [← hx, ← hs, ← hm]; rfl
        have HM : Hid (fr + ((t + 1 : Nat) : Int) = m + 1) := by show _ = _; omega
        rw [hs] at hown hcl
        rw [hm]
        have m0 : 0 ≤ m := by omega
        have m1 : m < tt := by omega
        have m2 : m ≤ 3600 := by omega
        have HX := Lib.hid hx
        have HMM := Lib.hid hm
        have HTL : t + 1 ≤ T := by have := HTT.out; omega
        have hql : q ≤ 3600 := by have := HTT.out; simp at hcl; omega
        have hI0 : I64 m := ⟨by omega, by omega⟩
        have hI1 : I64 (m + 1) := ⟨by omega, by omega⟩
        have HII := Lib.hid (And.intro hxi (And.intro hI0 hI1))
        obtain ⟨Ao, co, rfl, _⟩ := hown.len_le
        have HO := Lib.hid hown
        clear hx hs hm hown hxi hI0 hI1 hlt hcl
        go_wp2_with fail
        refine (implValueAt_c L _ _ _ F key m kn _ (H1.out.keep (hbl.mono (by omega))) (by omega) hn).mono ?_
        rintro e w2 ⟨rfl, b2⟩
        rw [HX.out]
        have hb2 := Below.trans hbl (b2.mono (by omega))
        have hs2 := b2.size
        have HO2 := Lib.hid (HO.out.below b2)
        clear b2 HO sl hbl
        cases ho : o1
        case false =>
          have HN2 : Hid (tlS F n key kn fr (t + 1) = (q, G)) := by show _ = _; rw [HN.out, ho]; rfl
          clear ho
          go_wp2_with fail
          go_roundw
          case rel => exact ⟨t + 1, by omega, by rw [HM.out], by rw [HN2.out]; exact HO2.out, hb2⟩
          case measure => simp [intOf]; omega
        case true =>
          cases hj : joinB q G m x
          case true =>
            have HN2 : Hid (tlS F n key kn fr (t + 1) = (q, setTo G (q - 1) (m + 1))) := by show _ = _; rw [HN.out, ho]; unfold tlStep; simp only [if_true, hj]
            have hj2 := hj
            unfold joinB at hj2
            simp only [Bool.and_eq_true, decide_eq_true_eq] at hj2
            obtain ⟨hq0, hj3, hj4⟩ := hj2
            obtain ⟨p, rfl⟩ : ∃ p, q = p + 1 := ⟨q - 1, by omega⟩
            simp only [Nat.add_sub_cancel] at hj3 hj4 HN2
            obtain ⟨A', c', e', ⟨_, h0, _⟩ | ⟨g, hA, g1, g2, g3, f, g4, g5⟩⟩ := HO2.out
            · omega
            injection e' with e1 e2 e3
            subst e1 e3 hA
            have hc3 : (p + 1) * 3 ≤ co * 3 := Nat.mul_le_mul_right _ g2
            have u1 : w2.cell? ⟨g, p * 3 + 1, none⟩ = some (.int .i64 (G p 1)) := by rw [g4.cell _ (by omega), (g5 p (by omega) 1 (by omega)).1]
            have u2 : w2.cell? ⟨g, p * 3 + 2, none⟩ = some (.int .i64 (G p 2)) := by rw [g4.cell _ (by omega), (g5 p (by omega) 2 (by omega)).1]
            have v1 := g4.frozen (p * 3 + 1)
            have hGm : G p 1 = m := by simpa using hj3
            have HNEW : Hid (OwnV 3 68 (w2.setCell ⟨g, p * 3 + 1, none⟩ (.int .i64 (m + 1))) (w.heap.size + 1) (.slice (some ⟨g, 0, none⟩) (p + 1) co) (p + 1) (setTo G p (m + 1))) := by
              refine ⟨_, co, rfl, .inr ⟨g, rfl, g1, g2, g3, _, g4.set (p * 3 + 1) (.int .i64 (m + 1)), fun i hi j hj => ?_⟩⟩
              by_cases hij : i = p ∧ j = 1
              · obtain ⟨rfl, rfl⟩ := hij
                have e : setTo G i (m + 1) i 1 = m + 1 := if_pos ⟨rfl, rfl⟩
                rw [e]
                exact ⟨by simp, HII.out.2.2⟩
              · have e : setTo G p (m + 1) i j = G i j := if_neg hij
                have hne : ¬ (i * 3 + j = p * 3 + 1) := by omega
                rw [e]
                simp only [hne, if_false]
                exact g5 i hi j hj
            have HBN := Lib.hid (hb2.setCell (p := ⟨g, p * 3 + 1, none⟩) (show w.heap.size + 1 ≤ g from g1) (.int .i64 (m + 1)))
            have p1 : ((p : Int) + 1) - 1 = p := by omega
            have p2 : (0 : Int) ≤ (p : Int) := by omega
            have p3 : (p : Int) < (p : Int) + 1 := by omega
            have p4 : decide ((0 : Int) < (p : Int) + 1) = true := decide_eq_true (by omega)
            clear ho hj g4 g5 HO2 hj3
            generalize G p 1 = y1 at *
            generalize G p 2 = y2 at *
            subst hGm
            have j3 : (y1 == y1) = true := by simp
            go_wp2_with fail
            go_roundw
            case rel => exact ⟨t + 1, by omega, by rw [HM.out], by rw [HN2.out]; exact HNEW.out, HBN.out⟩
            case measure => simp [intOf]; omega
          case false =>
            have HN2 : Hid (tlS F n key kn fr (t + 1) = (q + 1, addRow G q (segRow m x))) := by show _ = _; rw [HN.out, ho]; unfold tlStep; simp only [if_true, hj]; rfl
            have HOA := Lib.hid (HO2.out.addRow (segRow m x))
            have HNW : Hid (NewsT 3 (w2.alloc (.cells #[.int .i64 m, .int .i64 (m + 1), .int .i64 x] 68)) (some ⟨w2.heap.size, 0, none⟩) 1 q (addRow G q (segRow m x))) :=
              news_one [.int .i64 m, .int .i64 (m + 1), .int .i64 x] (heap_alloc_new w2 _) rfl fun j hj => by
                rw [addRow_new]
                rcases (show j = 0 ∨ j = 1 ∨ j = 2 by omega) with rfl | rfl | rfl
                · exact ⟨rfl, HII.out.2.1⟩
                · exact ⟨rfl, HII.out.2.2⟩
                · exact ⟨rfl, HII.out.1⟩
            have hbW := Lib.hid (hb2.alloc (o := .cells #[.int .i64 m, .int .i64 (m + 1), .int .i64 x] 68) (by omega))
            unfold joinB at hj
            clear ho
            rcases q with _ | p
            · clear hj HO2
              go_wp2_with (at_builtin; refine wpList_append_ownV (F := addRow G 0 (segRow m x)) rfl _ _ 25 rfl i0 _ 24 Try.underlying25 hi hz0 hz1 hz2 rfl (by decide) rfl (HOA.out.alloc _) _ 1 1 rfl HNW.out (by unfold maxLen; omega) (by omega) (by simp; omega) ?_)
              intro A3 c3 w3 hown3 hg3
              have hbl3 := Lib.hid (hg3.below hbW.out (Nat.le_refl _) (by simp; omega))
              have HO3 := Lib.hid hown3
              clear hown3 hg3
              go_wp2
              go_roundw
              case rel => exact ⟨t + 1, by omega, by rw [HM.out], by rw [HN2.out]; exact HO3.out, hbl3.out⟩
              case measure => simp [intOf]; omega
            · simp only [Nat.add_sub_cancel] at hj
              have p0 : decide (0 < p + 1) = true := decide_eq_true (by omega)
              rw [p0, Bool.true_and] at hj
              obtain ⟨A', c', e', ⟨_, h0, _⟩ | ⟨g, hA, g1, g2, g3, f, g4, g5⟩⟩ := HO2.out
              · omega
              injection e' with e1 e2 e3
              subst e1 e3 hA
              have hc3 : (p + 1) * 3 ≤ co * 3 := Nat.mul_le_mul_right _ g2
              have u1 : w2.cell? ⟨g, p * 3 + 1, none⟩ = some (.int .i64 (G p 1)) := by rw [g4.cell _ (by omega), (g5 p (by omega) 1 (by omega)).1]
              have u2 : w2.cell? ⟨g, p * 3 + 2, none⟩ = some (.int .i64 (G p 2)) := by rw [g4.cell _ (by omega), (g5 p (by omega) 2 (by omega)).1]
              have p1 : ((p : Int) + 1) - 1 = p := by omega
              have p2 : (0 : Int) ≤ (p : Int) := by omega
              have p3 : (p : Int) < (p : Int) + 1 := by omega
              have p4 : decide ((0 : Int) < (p : Int) + 1) = true := decide_eq_true (by omega)
              clear g4 g5 HO2 p0
              cases j3 : (G p 1 == m) <;> cases j4 : (G p 2 == x)
              case true.true => rw [j3, j4] at hj; cases hj
              all_goals
                clear hj
                generalize G p 1 = y1 at u1 j3
                generalize G p 2 = y2 at u2 j4
                go_wp2_with (at_builtin; refine wpList_append_ownV (F := addRow G (p + 1) (segRow m x)) rfl _ _ 25 rfl i0 _ 24 Try.underlying25 hi hz0 hz1 hz2 rfl (by decide) rfl (HOA.out.alloc _) _ 1 1 rfl HNW.out (by unfold maxLen; omega) (by omega) (by simp; omega) ?_)
                intro A3 c3 w3 hown3 hg3
                have hbl3 := Lib.hid (hg3.below hbW.out (Nat.le_refl _) (by simp; omega))
                have HO3 := Lib.hid hown3
                clear hown3 hg3 u1 u2
                go_wp2
                go_roundw
                case rel => exact ⟨t + 1, by omega, by rw [HM.out], by rw [HN2.out]; exact HO3.out, hbl3.out⟩
                case measure => simp [intOf]; omega
      · have htT : t = T := by have := HTT.out; omega
        subst htT
        obtain ⟨Ao, co, rfl, _⟩ := hown.len_le
        have HO := Lib.hid hown
        clear hown
        go_wp2
        go_ret
        exact ⟨Ao, co, by rw [HS.out]; rfl, by rw [HS.out]; exact HO.out.more (by omega), L0.trans (hbl.mono (by omega))⟩
  all_goals
    have HS : Hid (timeline F n key kn fr tt = (0, fun _ _ => 0)) := by show _ = _; unfold timeline; rw [q1, q2, q3, q4]; rfl
    rw [q1] at HC
    clear q1
    go_enter Try.func44, Try.ntmps44
    go_wp2_with fail
    generalize w.alloc (.cells #[.slice A n cap] 38) = W1 at L0 B0 S0 H1 HC ⊢
    go_wp2_with (first
      | (go_at_call 25; refine HC.out.mono ?_; rintro e w1 ⟨rfl, b1⟩; have sl1 := cell_later b1 B0)
      | (go_at_call 64; refine (isEnd_c _ _).mono ?_; rintro e w' ⟨rfl, rfl⟩)
      | (go_at_call 75; refine (implMonthOk_c _ _).mono ?_; rintro e w' ⟨rfl, rfl⟩))
    go_ret
    rw [HS.out]
    exact ⟨_, _, rfl, ownV_none, andThen L0 b1⟩

set_option maxRecDepth 20000 in
set_option maxHeartbeats 8000000 in
theorem specTimelineOf_c (L : Nat) (A : Option Addr) (n cap : Nat) (F : Nat → Nat → Int) (key kn fr tt : Int) (w : World) (h1 : Tab 5 w L A n F) (hL : L ≤ w.heap.size) (hn : n ≤ 1048577) :
    Calls Try.prog 43 #[.agg #[.slice A n cap], .int .i64 key, .int .i64 kn, .int .i64 fr, .int .i64 tt] w (SegEnd (timeline F n key kn fr tt).1 (timeline F n key kn fr tt).2 w) := by
  obtain ⟨i0, hi, hz0, hz1, hz2⟩ := info_parts info_Segment
  have hvals := Lib.hid (fun (m : Int) => valueAt_i64 (F := F) (key := key) (m := m) (kn := kn) n (fun i hi => by obtain ⟨b, off, _, _, hc⟩ := h1 i hi; exact (hc 4 (by omega)).2))
  have L0 : Below w.heap.size w ((w.alloc (.cells #[.slice A n cap] 38)).alloc (.cells #[] 68)) := andAlloc (andAlloc (Below.refl _ _) _) _
  have B0 : ((w.alloc (.cells #[.slice A n cap] 38)).alloc (.cells #[] 68)).cell? ⟨w.heap.size, 0, none⟩ = some (.slice A n cap) := by go_simp
  have S0 := Lib.hid (show ((w.alloc (.cells #[.slice A n cap] 38)).alloc (.cells #[] 68)).heap.size = w.heap.size + 1 + 1 by simp)
  have O0 : ∀ G, OwnV 3 68 ((w.alloc (.cells #[.slice A n cap] 38)).alloc (.cells #[] 68)) (w.heap.size + 1) (.slice (some ⟨w.heap.size + 1, 0, none⟩) 0 0) 0 G := fun G => ownV_lit (Nat.le_refl _) (by have := heap_alloc_new (w.alloc (.cells #[.slice A n cap] 38)) (.cells #[] 68); rw [World.size_alloc] at this; exact this)
  have O0 := Lib.hid O0
  have H1 := Lib.hid (h1.keep (L0.mono hL))
  have HC := Lib.hid (specStoreOk_c L A n cap F _ (H1.out) (by have := S0.out; omega) hn)
  clear h1
  cases q1 : storeB n F <;> cases q2 : inB kn 0 3599 <;> cases q3 : inB fr 0 3600 <;> cases q4 : inB tt 0 3600
  case true.true.true.true =>
    obtain ⟨T, hT⟩ : ∃ T : Nat, tlCount fr tt = T := ⟨_, rfl⟩
    have HS : Hid (timeline F n key kn fr tt = tlS F n key kn fr T) := by show _ = _; unfold timeline; rw [q1, q2, q3, q4, ← hT]; rfl
    obtain ⟨f0, f1⟩ := inB_iff.1 q3
    obtain ⟨f2, f3⟩ := inB_iff.1 q4
    have HTT : Hid (T = (tt - fr).toNat) := hT.symm
    clear hT
    rw [q1] at HC
    clear q1
    go_enter Try.func43, Try.ntmps43
    go_wp2_with fail
    generalize (w.alloc (.cells #[.slice A n cap] 38)).alloc (.cells #[] 68) = W1 at L0 B0 S0 O0 H1 HC ⊢
    go_wp2_with (first
      | (go_at_call 23; refine HC.out.mono ?_; rintro e w1 ⟨rfl, b1⟩; have sl1 := cell_later b1 B0)
      | (go_at_call 61; refine (l04End_c _ _).mono ?_; rintro e w' ⟨rfl, rfl⟩)
      | (go_at_call 74; refine (specMonthOk_c _ _).mono ?_; rintro e w' ⟨rfl, rfl⟩))
    have hw1 : w.heap.size + 1 ≤ W1.heap.size := by have := S0.out; omega
    have hL1 : L ≤ W1.heap.size := by omega
    have hB1 : Below (w.heap.size + 1) W1 w1 := b1.mono hw1
    have hb1z := b1.size
    have O1 := Lib.hid ((O0.out (tlS F n key kn fr 0).2).below b1)
    clear q2 q3 q4 sl1 b1
    go_loopw [11, 12] (fun v i wr => ∃ t : Nat, t ≤ T ∧ i = .int .i64 (fr + (t : Int)) ∧ OwnV 3 68 wr (w.heap.size + 1) v (tlS F n key kn fr t).1 (tlS F n key kn fr t).2 ∧ Below (w.heap.size + 1) W1 wr) (fun _ i _ => (tt - intOf i).toNat)
    case atStart => exact ⟨0, by omega, by simp, O1.out, hB1⟩
    case round =>
      obtain ⟨t, ht, rfl, hown, hbl⟩ := hrel
      have sl : wr.cell? ⟨w.heap.size, 0, none⟩ = some (.slice A n cap) := (hbl.cell (p := ⟨w.heap.size, 0, none⟩) (by show w.heap.size < _; omega)).trans B0
      have hcl := tlS_len F n key kn fr t
      have hbz := hbl.size
      by_cases hlt : fr + (t : Int) < tt
      · obtain ⟨m, hm⟩ : ∃ m : Int, fr + (t : Int) = m := ⟨_, rfl⟩
        obtain ⟨x, o1, hx⟩ : ∃ x o, valueAt F key m kn n = (x, o) := ⟨_, _, rfl⟩
        have hxi : I64 x := by have := hvals.out m; rw [hx] at this; exact this
        obtain ⟨q, G, hs⟩ : ∃ q G, tlS F n key kn fr t = (q, G) := ⟨_, _, rfl⟩
        have HN : Hid (tlS F n key kn fr (t + 1) = tlStep (q, G) m (x, o1)) := by show _ = _; rw [← hx, ← hs, ← hm]; rfl
        have HM : Hid (fr + ((t + 1 : Nat) : Int) = m + 1) := by show _ = _; omega
        rw [hs] at hown hcl
        rw [hm]
        have m0 : 0 ≤ m := by omega
        have m1 : m < tt := by omega
        have m2 : m ≤ 3600 := by omega
        have HX := Lib.hid hx
        have HMM := Lib.hid hm
        have HTL : t + 1 ≤ T := by have := HTT.out; omega
        have hql : q ≤ 3600 := by have := HTT.out; simp at hcl; omega
        have hI0 : I64 m := ⟨by omega, by omega⟩
        have hI1 : I64 (m + 1) := ⟨by omega, by omega⟩
        have HII := Lib.hid (And.intro hxi (And.intro hI0 hI1))
        obtain ⟨Ao, co, rfl, _⟩ := hown.len_le
        have HO := Lib.hid hown
        clear hx hs hm hown hxi hI0 hI1 hlt hcl
        go_wp2_with fail
        refine (specValueAt_c L _ _ _ F key m kn _ (H1.out.keep (hbl.mono (by omega))) (by omega) hn).mono ?_
        rintro e w2 ⟨rfl, b2⟩
        rw [HX.out]
        have hb2 := Below.trans hbl (b2.mono (by omega))
        have hs2 := b2.size
        have HO2 := Lib.hid (HO.out.below b2)
        clear b2 HO sl hbl
        cases ho : o1
        case false =>
          have HN2 : Hid (tlS F n key kn fr (t + 1) = (q, G)) := by show _ = _; rw [HN.out, ho]; rfl
          clear ho
          go_wp2_with fail
          go_roundw
          case rel => exact ⟨t + 1, by omega, by rw [HM.out], by rw [HN2.out]; exact HO2.out, hb2⟩
          case measure => simp [intOf]; omega
        case true =>
          cases hj : joinB q G m x
          case true =>
            have HN2 : Hid (tlS F n key kn fr (t + 1) = (q, setTo G (q - 1) (m + 1))) := by show _ = _; rw [HN.out, ho]; unfold tlStep; simp only [if_true, hj]
            have hj2 := hj
            unfold joinB at hj2
            simp only [Bool.and_eq_true, decide_eq_true_eq] at hj2
            obtain ⟨hq0, hj3, hj4⟩ := hj2
            obtain ⟨p, rfl⟩ : ∃ p, q = p + 1 := ⟨q - 1, by omega⟩
            simp only [Nat.add_sub_cancel] at hj3 hj4 HN2
            obtain ⟨A', c', e', ⟨_, h0, _⟩ | ⟨g, hA, g1, g2, g3, f, g4, g5⟩⟩ := HO2.out
            · omega
            injection e' with e1 e2 e3
            subst e1 e3 hA
            have hc3 : (p + 1) * 3 ≤ co * 3 := Nat.mul_le_mul_right _ g2
            have u1 : w2.cell? ⟨g, p * 3 + 1, none⟩ = some (.int .i64 (G p 1)) := by rw [g4.cell _ (by omega), (g5 p (by omega) 1 (by omega)).1]
            have u2 : w2.cell? ⟨g, p * 3 + 2, none⟩ = some (.int .i64 (G p 2)) := by rw [g4.cell _ (by omega), (g5 p (by omega) 2 (by omega)).1]
            have v1 := g4.frozen (p * 3 + 1)
            have hGm : G p 1 = m := by simpa using hj3
            have HNEW : Hid (OwnV 3 68 (w2.setCell ⟨g, p * 3 + 1, none⟩ (.int .i64 (m + 1))) (w.heap.size + 1) (.slice (some ⟨g, 0, none⟩) (p + 1) co) (p + 1) (setTo G p (m + 1))) := by
              refine ⟨_, co, rfl, .inr ⟨g, rfl, g1, g2, g3, _, g4.set (p * 3 + 1) (.int .i64 (m + 1)), fun i hi j hj => ?_⟩⟩
              by_cases hij : i = p ∧ j = 1
              · obtain ⟨rfl, rfl⟩ := hij
                have e : setTo G i (m + 1) i 1 = m + 1 := if_pos ⟨rfl, rfl⟩
                rw [e]
                exact ⟨by simp, HII.out.2.2⟩
              · have e : setTo G p (m + 1) i j = G i j := if_neg hij
                have hne : ¬ (i * 3 + j = p * 3 + 1) := by omega
                rw [e]
                simp only [hne, if_false]
                exact g5 i hi j hj
            have HBN := Lib.hid (hb2.setCell (p := ⟨g, p * 3 + 1, none⟩) (show w.heap.size + 1 ≤ g from g1) (.int .i64 (m + 1)))
            have p1 : ((p : Int) + 1) - 1 = p := by omega
            have p2 : (0 : Int) ≤ (p : Int) := by omega
            have p3 : (p : Int) < (p : Int) + 1 := by omega
            have p4 : decide ((0 : Int) < (p : Int) + 1) = true := decide_eq_true (by omega)
            clear ho hj g4 g5 HO2 hj3
            generalize G p 1 = y1 at *
            generalize G p 2 = y2 at *
            subst hGm
            have j3 : (y1 == y1) = true := by simp
            go_wp2_with fail
            go_roundw
            case rel => exact ⟨t + 1, by omega, by rw [HM.out], by rw [HN2.out]; exact HNEW.out, HBN.out⟩
            case measure => simp [intOf]; omega
          case false =>
            have HN2 : Hid (tlS F n key kn fr (t + 1) = (q + 1, addRow G q (segRow m x))) := by show _ = _; rw [HN.out, ho]; unfold tlStep; simp only [if_true, hj]; rfl
            have HOA := Lib.hid (HO2.out.addRow (segRow m x))
            have HNW : Hid (NewsT 3 (w2.alloc (.cells #[.int .i64 m, .int .i64 (m + 1), .int .i64 x] 68)) (some ⟨w2.heap.size, 0, none⟩) 1 q (addRow G q (segRow m x))) :=
              news_one [.int .i64 m, .int .i64 (m + 1), .int .i64 x] (heap_alloc_new w2 _) rfl fun j hj => by
                rw [addRow_new]
                rcases (show j = 0 ∨ j = 1 ∨ j = 2 by omega) with rfl | rfl | rfl
                · exact ⟨rfl, HII.out.2.1⟩
                · exact ⟨rfl, HII.out.2.2⟩
                · exact ⟨rfl, HII.out.1⟩
            have hbW := Lib.hid (hb2.alloc (o := .cells #[.int .i64 m, .int .i64 (m + 1), .int .i64 x] 68) (by omega))
            unfold joinB at hj
            clear ho
            rcases q with _ | p
            · clear hj HO2
              go_wp2_with (at_builtin; refine wpList_append_ownV (F := addRow G 0 (segRow m x)) rfl _ _ 25 rfl i0 _ 24 Try.underlying25 hi hz0 hz1 hz2 rfl (by decide) rfl (HOA.out.alloc _) _ 1 1 rfl HNW.out (by unfold maxLen; omega) (by omega) (by simp; omega) ?_)
              intro A3 c3 w3 hown3 hg3
              have hbl3 := Lib.hid (hg3.below hbW.out (Nat.le_refl _) (by simp; omega))
              have HO3 := Lib.hid hown3
              clear hown3 hg3
              go_wp2
              go_roundw
              case rel => exact ⟨t + 1, by omega, by rw [HM.out], by rw [HN2.out]; exact HO3.out, hbl3.out⟩
              case measure => simp [intOf]; omega
            · simp only [Nat.add_sub_cancel] at hj
              have p0 : decide (0 < p + 1) = true := decide_eq_true (by omega)
              rw [p0, Bool.true_and] at hj
              obtain ⟨A', c', e', ⟨_, h0, _⟩ | ⟨g, hA, g1, g2, g3, f, g4, g5⟩⟩ := HO2.out
              · omega
              injection e' with e1 e2 e3
              subst e1 e3 hA
              have hc3 : (p + 1) * 3 ≤ co * 3 := Nat.mul_le_mul_right _ g2
              have u1 : w2.cell? ⟨g, p * 3 + 1, none⟩ = some (.int .i64 (G p 1)) := by rw [g4.cell _ (by omega), (g5 p (by omega) 1 (by omega)).1]
              have u2 : w2.cell? ⟨g, p * 3 + 2, none⟩ = some (.int .i64 (G p 2)) := by rw [g4.cell _ (by omega), (g5 p (by omega) 2 (by omega)).1]
              have p1 : ((p : Int) + 1) - 1 = p := by omega
              have p2 : (0 : Int) ≤ (p : Int) := by omega
              have p3 : (p : Int) < (p : Int) + 1 := by omega
              have p4 : decide ((0 : Int) < (p : Int) + 1) = true := decide_eq_true (by omega)
              clear g4 g5 HO2 p0
              cases j3 : (G p 1 == m) <;> cases j4 : (G p 2 == x)
              case true.true => rw [j3, j4] at hj; cases hj
              all_goals
                clear hj
                generalize G p 1 = y1 at u1 j3
                generalize G p 2 = y2 at u2 j4
                go_wp2_with (at_builtin; refine wpList_append_ownV (F := addRow G (p + 1) (segRow m x)) rfl _ _ 25 rfl i0 _ 24 Try.underlying25 hi hz0 hz1 hz2 rfl (by decide) rfl (HOA.out.alloc _) _ 1 1 rfl HNW.out (by unfold maxLen; omega) (by omega) (by simp; omega) ?_)
                intro A3 c3 w3 hown3 hg3
                have hbl3 := Lib.hid (hg3.below hbW.out (Nat.le_refl _) (by simp; omega))
                have HO3 := Lib.hid hown3
                clear hown3 hg3 u1 u2
                go_wp2
                go_roundw
                case rel => exact ⟨t + 1, by omega, by rw [HM.out], by rw [HN2.out]; exact HO3.out, hbl3.out⟩
                case measure => simp [intOf]; omega
      · have htT : t = T := by have := HTT.out; omega
        subst htT
        obtain ⟨Ao, co, rfl, _⟩ := hown.len_le
        have HO := Lib.hid hown
        clear hown
        go_wp2
        go_ret
        exact ⟨Ao, co, by rw [HS.out]; rfl, by rw [HS.out]; exact HO.out.more (by omega), L0.trans (hbl.mono (by omega))⟩
  all_goals
    have HS : Hid (timeline F n key kn fr tt = (0, fun _ _ => 0)) := by show _ = _; unfold timeline; rw [q1, q2, q3, q4]; rfl
    rw [q1] at HC
    clear q1
    go_enter Try.func43, Try.ntmps43
    go_wp2_with fail
    generalize (w.alloc (.cells #[.slice A n cap] 38)).alloc (.cells #[] 68) = W1 at L0 B0 S0 O0 H1 HC ⊢
    go_wp2_with (first
      | (go_at_call 23; refine HC.out.mono ?_; rintro e w1 ⟨rfl, b1⟩; have sl1 := cell_later b1 B0)
      | (go_at_call 61; refine (l04End_c _ _).mono ?_; rintro e w' ⟨rfl, rfl⟩)
      | (go_at_call 74; refine (specMonthOk_c _ _).mono ?_; rintro e w' ⟨rfl, rfl⟩))
    go_ret
    rw [HS.out]
    exact ⟨_, _, rfl, ((O0.out _).below b1).more (by omega), andThen L0 b1⟩

end Go.Proofs.Ytmehfclhmbhjaaa
