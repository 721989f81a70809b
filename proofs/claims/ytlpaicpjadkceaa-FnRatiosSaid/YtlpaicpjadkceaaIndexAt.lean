/-
  IndexAt of both packages computes one plain function. Conditions: the points can be read.
-/
import Derived.Test.YtlpaicpjadkceaaSeriesIn
import Derived.BigQuiet
namespace Go.Proofs.Ytlpaicpjadkceaa
open Go.RowKit
set_option linter.unusedVariables false
set_option maxRecDepth 4000

def takeB (F : Nat → Nat → Int) (m kn : Int) (r : Option Nat) (k : Nat) : Bool :=
  decide (F k 0 ≤ m) && decide (F k 1 ≤ kn) && (match r with | none => true | some b => decide (F b 0 ≤ F k 0))
def bestI (F : Nat → Nat → Int) (m kn : Int) : Nat → Option Nat
  | 0 => none
  | k + 1 => if takeB F m kn (bestI F m kn k) k then some k else bestI F m kn k
theorem bestI_lt (F : Nat → Nat → Int) (m kn : Int) : ∀ k b, bestI F m kn k = some b → b < k
  | 0, b, h => by cases h
  | k + 1, b, h => by
    unfold bestI at h
    split at h
    · injection h with h; omega
    · have := bestI_lt F m kn k b h; omega
theorem bestI_yes {F : Nat → Nat → Int} {m kn : Int} {k : Nat} (h : takeB F m kn (bestI F m kn k) k = true) : bestI F m kn (k + 1) = some k := by
  conv => lhs; unfold bestI
  rw [if_pos h]
theorem bestI_no {F : Nat → Nat → Int} {m kn : Int} {k : Nat} (h : takeB F m kn (bestI F m kn k) k = false) : bestI F m kn (k + 1) = bestI F m kn k := by
  conv => lhs; unfold bestI
  rw [if_neg (by simp [h])]
def indexAt (F : Nat → Nat → Int) (n : Nat) (m kn : Int) : Int × Bool := match bestI F m kn n with | none => (0, false) | some b => (F b 2, true)

def Box3 (w : World) (b : Nat) (x y z : Value) : Prop :=
  (w.cell? ⟨b, 0, none⟩ = some x ∧ w.cell? ⟨b, 1, none⟩ = some y ∧ w.cell? ⟨b, 2, none⟩ = some z) ∧ (w.frozen? ⟨b, 0, none⟩ = false ∧ w.frozen? ⟨b, 1, none⟩ = false ∧ w.frozen? ⟨b, 2, none⟩ = false)
theorem Box3.later {W w1 : World} {b : Nat} {x y z : Value} (hb : Below W.heap.size W w1) (h : Box3 W b x y z) : Box3 w1 b x y z := by
  obtain ⟨⟨h1, h2, h3⟩, h4, h5, h6⟩ := h
  have l1 := World.block_lt_of_cell? _ _ h1
  exact ⟨⟨cell_later hb h1, cell_later hb h2, cell_later hb h3⟩, (hb.frozen (p := ⟨b, 0, none⟩) l1).trans h4, (hb.frozen (p := ⟨b, 1, none⟩) l1).trans h5, (hb.frozen (p := ⟨b, 2, none⟩) l1).trans h6⟩
theorem box3_alloc {w : World} {b : Nat} {x y z : Value} (h : Box3 w b x y z) (o : Obj) : Box3 (w.alloc o) b x y z := Box3.later ((Below.refl _ _).alloc (Nat.le_refl _) o) h
theorem box3_set {w : World} {b : Nat} {x y z : Value} (h : Box3 w b x y z) (u v t : Value) : Box3 (((w.setCell ⟨b, 0, none⟩ u).setCell ⟨b, 1, none⟩ v).setCell ⟨b, 2, none⟩ t) b u v t := by
  obtain ⟨⟨h1, h2, h3⟩, h4, h5, h6⟩ := h
  exact ⟨⟨by go_simp, by go_simp, by go_simp⟩, by go_simp, by go_simp, by go_simp⟩

/-- What the box of the best point holds. -/
def BestAt (F : Nat → Nat → Int) (r : Option Nat) (w : World) (B : Nat) : Prop :=
  match r with
  | none => Box3 w B (.int .i64 0) (.int .i64 0) (.int .i64 0)
  | some b => Box3 w B (.int .i64 (F b 0)) (.int .i64 (F b 1)) (.int .i64 (F b 2))

set_option maxHeartbeats 4000000 in
theorem implIndexAt_c (L : Nat) (A : Option Addr) (n cap : Nat) (F : Nat → Nat → Int) (m kn : Int) (w : World) (h1 : Tab 3 w L A n F) (hL : L ≤ w.heap.size) (hn : n ≤ 1048577) :
    Calls Try.prog 17 #[.agg #[.slice A n cap], .int .i64 m, .int .i64 kn] w fun e w' => e = .returned (.tuple #[.int .i64 (indexAt F n m kn).1, .bool (indexAt F n m kn).2]) ∧ Below w.heap.size w w' := by
  have H1 := Lib.hid h1
  clear h1
  go_enter Try.func17, Try.ntmps17
  go_wp2_with fail
  go_loopw [9, 16] (fun f i wr => ∃ k : Nat, k ≤ n ∧ i = .int .i64 k ∧ f = .bool (bestI F m kn k).isSome ∧ BestAt F (bestI F m kn k) wr (w.heap.size + 1) ∧ Below w.heap.size w wr) (fun _ i _ => n - (intOf i).toNat)
  case atStart => exact ⟨0, Nat.zero_le _, rfl, rfl, ⟨⟨by go_simp, by go_simp, by go_simp⟩, by go_simp, by go_simp, by go_simp⟩, andAlloc (andAlloc (Below.refl _ _) _) _⟩
  case round =>
    obtain ⟨k, hk, rfl, rfl, hbest, hbl⟩ := hrel
    by_cases hlt : k < n
    · have hT := H1.out.keep (hbl.mono hL)
      have hbl1 := andAlloc hbl (.cells #[.int .i64 (F k 0), .int .i64 (F k 1), .int .i64 (F k 2)] 46)
      have k0 : (0 : Int) ≤ (k : Int) := by omega
      have k1 : (k : Int) < (n : Int) := by omega
      obtain ⟨b, off, rfl, hb, ⟨c0, c1, c2⟩, _⟩ := hT.at3 hlt
      obtain ⟨r, hr⟩ : ∃ r, bestI F m kn k = r := ⟨_, rfl⟩
      obtain ⟨u, v, t, hB, hu⟩ : ∃ u v t : Int, Box3 wr (w.heap.size + 1) (.int .i64 u) (.int .i64 v) (.int .i64 t) ∧ ∀ b, r = some b → u = F b 0 := by
        rw [hr] at hbest
        rcases r with _ | b
        · exact ⟨0, 0, 0, hbest, fun b hb => by cases hb⟩
        · exact ⟨_, _, _, hbest, fun b hb => by cases hb; rfl⟩
      have hB1 := box3_alloc hB (.cells #[.int .i64 (F k 0), .int .i64 (F k 1), .int .i64 (F k 2)] 46)
      have hlw : w.heap.size + 1 < wr.heap.size := World.block_lt_of_cell? _ _ hB.1.1
      have hne : ¬ w.heap.size + 1 = wr.heap.size := by omega
      have hne' : ¬ wr.heap.size = w.heap.size + 1 := by omega
      cases htk : takeB F m kn r k
      case true =>
        have HN := Lib.hid (bestI_yes (by rw [hr]; exact htk))
        have HS := box3_alloc (box3_set hB (.int .i64 (F k 0)) (.int .i64 (F k 1)) (.int .i64 (F k 2))) (.cells #[.int .i64 (F k 0), .int .i64 (F k 1), .int .i64 (F k 2)] 46)
        have hbl2 := andAlloc (andSet (p := ⟨w.heap.size + 1, 2, none⟩) (andSet (p := ⟨w.heap.size + 1, 1, none⟩) (andSet (p := ⟨w.heap.size + 1, 0, none⟩) hbl (by show w.heap.size ≤ w.heap.size + 1; omega) (.int .i64 (F k 0))) (by show w.heap.size ≤ w.heap.size + 1; omega) (.int .i64 (F k 1))) (by show w.heap.size ≤ w.heap.size + 1; omega) (.int .i64 (F k 2))) (.cells #[.int .i64 (F k 0), .int .i64 (F k 1), .int .i64 (F k 2)] 46)
        have HSB : Hid (BestAt F (some k) ((((wr.setCell ⟨w.heap.size + 1, 0, none⟩ (.int .i64 (F k 0))).setCell ⟨w.heap.size + 1, 1, none⟩ (.int .i64 (F k 1))).setCell ⟨w.heap.size + 1, 2, none⟩ (.int .i64 (F k 2))).alloc (.cells #[.int .i64 (F k 0), .int .i64 (F k 1), .int .i64 (F k 2)] 46)) (w.heap.size + 1)) := HS
        have f1 : decide (F k 0 ≤ m) = true := by unfold takeB at htk; simp only [Bool.and_eq_true] at htk; exact htk.1.1
        have f2 : decide (F k 1 ≤ kn) = true := by unfold takeB at htk; simp only [Bool.and_eq_true] at htk; exact htk.1.2
        rw [hr]
        clear hbest HS
        have f3 : r.isSome = true → decide (u ≤ F k 0) = true := by
          intro h
          rcases r with _ | b
          · cases h
          · rw [hu b rfl]; unfold takeB at htk; simp only [Bool.and_eq_true] at htk; exact htk.2
        clear htk hu
        obtain ⟨⟨a0, a1, a2⟩, a3, a4, a5⟩ := id hB1
        obtain ⟨⟨p0, p1, p2⟩, p3, p4, p5⟩ := id hB
        generalize F k 0 = x at *
        generalize F k 1 = y at *
        generalize F k 2 = z at *
        cases hs : r.isSome
        case false =>
          clear f3
          go_wp2_with fail
          go_roundw
          case rel => exact ⟨k + 1, by omega, by go_num, by rw [HN.out]; rfl, by rw [HN.out]; exact HSB.out, hbl2⟩
          case measure => simp [intOf]; omega
        case true =>
          have f4 := f3 hs
          clear f3
          go_wp2_with fail
          go_roundw
          case rel => exact ⟨k + 1, by omega, by go_num, by rw [HN.out]; rfl, by rw [HN.out]; exact HSB.out, hbl2⟩
          case measure => simp [intOf]; omega
      case false =>
        have HN := Lib.hid (bestI_no (by rw [hr]; exact htk))
        have HBB : Hid (BestAt F r (wr.alloc (.cells #[.int .i64 (F k 0), .int .i64 (F k 1), .int .i64 (F k 2)] 46)) (w.heap.size + 1)) := by
          show BestAt F r _ _
          rw [hr] at hbest
          rcases r with _ | b
          · exact box3_alloc hbest _
          · exact box3_alloc hbest _
        have f3 : decide (F k 0 ≤ m) = true → decide (F k 1 ≤ kn) = true → r.isSome = true ∧ decide (u ≤ F k 0) = false := by
          intro e1 e2
          unfold takeB at htk
          rw [e1, e2] at htk
          rcases r with _ | b
          · simp at htk
          · exact ⟨rfl, by rw [hu b rfl]; simpa using htk⟩
        rw [hr]
        clear htk hu hbest
        obtain ⟨⟨a0, a1, a2⟩, a3, a4, a5⟩ := id hB1
        obtain ⟨⟨p0, p1, p2⟩, p3, p4, p5⟩ := id hB
        generalize F k 0 = x at *
        generalize F k 1 = y at *
        generalize F k 2 = z at *
        cases f1 : decide (x ≤ m)
        case false =>
          clear f3
          go_wp2_with fail
          go_roundw
          case rel => exact ⟨k + 1, by omega, by go_num, by rw [HN.out, hr], by rw [HN.out, hr]; exact HBB.out, hbl1⟩
          case measure => simp [intOf]; omega
        case true =>
        cases f2 : decide (y ≤ kn)
        case false =>
          clear f3
          go_wp2_with fail
          go_roundw
          case rel => exact ⟨k + 1, by omega, by go_num, by rw [HN.out, hr], by rw [HN.out, hr]; exact HBB.out, hbl1⟩
          case measure => simp [intOf]; omega
        case true =>
          obtain ⟨hs, f4⟩ := f3 f1 f2
          clear f3
          go_wp2_with fail
          go_roundw
          case rel => exact ⟨k + 1, by omega, by go_num, by rw [HN.out, hr], by rw [HN.out, hr]; exact HBB.out, hbl1⟩
          case measure => simp [intOf]; omega
    · obtain rfl : k = n := by omega
      obtain ⟨u, v, t, hB, hi⟩ : ∃ u v t : Int, Box3 wr (w.heap.size + 1) (.int .i64 u) (.int .i64 v) (.int .i64 t) ∧ indexAt F k m kn = (t, (bestI F m kn k).isSome) := by
        unfold indexAt
        rcases h : bestI F m kn k with _ | b
        · rw [h] at hbest; exact ⟨0, 0, 0, hbest, rfl⟩
        · rw [h] at hbest; exact ⟨_, _, _, hbest, rfl⟩
      have HI := Lib.hid hi
      obtain ⟨⟨a0, a1, a2⟩, _⟩ := hB
      clear hi hbest
      go_wp2_with fail
      refine bodyPost_ret (v := .tuple #[.int .i64 t, .bool (bestI F m kn k).isSome]) (by simp [results, Try.results17, go_sem]) rfl ?_
      exact ⟨by rw [HI.out], hbl⟩

def bestInt (r : Option Nat) : Int := match r with | none => -1 | some b => (b : Int)

set_option maxHeartbeats 4000000 in
theorem specIndexAt_c (L : Nat) (A : Option Addr) (n cap : Nat) (F : Nat → Nat → Int) (m kn : Int) (w : World) (h1 : Tab 3 w L A n F) (hL : L ≤ w.heap.size) (hn : n ≤ 1048577) :
    Calls Try.prog 15 #[.agg #[.slice A n cap], .int .i64 m, .int .i64 kn] w fun e w' => e = .returned (.tuple #[.int .i64 (indexAt F n m kn).1, .bool (indexAt F n m kn).2]) ∧ Below w.heap.size w w' := by
  have L0 : Below w.heap.size w (w.alloc (.cells #[.slice A n cap] 30)) := andAlloc (Below.refl _ _) _
  have B0 : (w.alloc (.cells #[.slice A n cap] 30)).cell? ⟨w.heap.size, 0, none⟩ = some (.slice A n cap) := by go_simp
  have S0 : (w.alloc (.cells #[.slice A n cap] 30)).heap.size = w.heap.size + 1 := by simp
  have H1 := Lib.hid (h1.keep (L0.mono hL))
  clear h1
  go_enter Try.func15, Try.ntmps15
  go_wp2_with fail
  generalize w.alloc (.cells #[.slice A n cap] 30) = W1 at L0 B0 S0 H1 ⊢
  have hL1 : L ≤ W1.heap.size := by omega
  go_loopw [8, 9] (fun f i wr => ∃ k : Nat, k ≤ n ∧ i = .int .i64 k ∧ f = .int .i64 (bestInt (bestI F m kn k)) ∧ Below W1.heap.size W1 wr) (fun _ i _ => n - (intOf i).toNat)
  case atStart => exact ⟨0, Nat.zero_le _, rfl, rfl, Below.refl _ _⟩
  case round =>
    obtain ⟨k, hk, rfl, rfl, hbl⟩ := hrel
    have sl := cell_later hbl B0
    obtain ⟨r, hr⟩ : ∃ r, bestI F m kn k = r := ⟨_, rfl⟩
    by_cases hlt : k < n
    · have hT := H1.out.keep (hbl.mono hL1)
      have hbl1 := andAlloc hbl (.cells #[.int .i64 (F k 0), .int .i64 (F k 1), .int .i64 (F k 2)] 46)
      have hT1 := H1.out.keep (hbl1.mono hL1)
      have sl1 := cell_later hbl1 B0
      have k0 : (0 : Int) ≤ (k : Int) := by omega
      have k1 : (k : Int) < (n : Int) := by omega
      obtain ⟨b, off, rfl, hb, ⟨c0, c1, c2⟩, _⟩ := hT.at3 hlt
      rw [hr]
      cases f1 : decide (F k 0 ≤ m)
      case false =>
          have HN := Lib.hid ((bestI_no (by unfold takeB; rw [f1]; rfl)).trans hr)
          clear hT hT1 hr
          generalize F k 0 = x at *
          generalize F k 1 = y at *
          generalize F k 2 = z at *
          go_wp2_with fail
          go_quiet (fail)
          go_wp2_with fail
          go_roundw
          case rel => exact ⟨k + 1, by omega, by go_num, by first | (rw [HN.out]; done) | (rw [HN.out]; rfl), andDrewN hbl1 _⟩
          case measure => simp [intOf]; omega
      case true =>
      cases f2 : decide (F k 1 ≤ kn)
      case false =>
          have HN := Lib.hid ((bestI_no (by unfold takeB; rw [f1, f2]; rfl)).trans hr)
          clear hT hT1 hr
          generalize F k 0 = x at *
          generalize F k 1 = y at *
          generalize F k 2 = z at *
          go_wp2_with fail
          go_quiet (fail)
          go_wp2_with fail
          go_roundw
          case rel => exact ⟨k + 1, by omega, by go_num, by first | (rw [HN.out]; done) | (rw [HN.out]; rfl), andDrewN hbl1 _⟩
          case measure => simp [intOf]; omega
      case true =>
      rcases r with _ | p
      · skip
        have HN : Hid (bestI F m kn (k + 1) = some k) := bestI_yes (by unfold takeB; rw [f1, f2, hr]; rfl)
        have HP : Hid (bestInt none = -1) := rfl
        rw [HP.out]
        clear hT hT1 hr
        generalize F k 0 = x at *
        generalize F k 1 = y at *
        generalize F k 2 = z at *
        go_wp2_with fail
        go_quiet (fail)
        go_wp2_with fail
        go_roundw
        case rel => exact ⟨k + 1, by omega, by go_num, by rw [HN.out]; rfl, andDrewN hbl1 _⟩
        case measure => simp [intOf]; omega
      · skip
        have hp := bestI_lt F m kn k p hr
        obtain ⟨b', off', e', _, ⟨c0', c1', c2'⟩, _⟩ := hT.at3 (show p < n by omega)
        obtain ⟨b2, off2, e2, _, ⟨u0, u1, u2⟩, _⟩ := hT1.at3 (show p < n by omega)
        simp only [Option.some.injEq, Addr.mk.injEq, and_true] at e' e2
        obtain ⟨rfl, rfl⟩ := e'
        obtain ⟨rfl, rfl⟩ := e2
        have g0 : decide ((p : Int) < 0) = false := decide_eq_false (by omega)
        have g2 : (p : Int) < n := by omega
        have g3 : (0 : Int) ≤ p := by omega
        cases f3 : decide (F p 0 ≤ F k 0)
        case false =>
          have HN := Lib.hid ((bestI_no (by unfold takeB; rw [f1, f2, hr]; simp only [f3]; rfl)).trans hr)
          have HP : Hid (bestInt (some p) = (p : Int)) := rfl
          rw [HP.out]
          clear hT hT1 hr
          generalize F p 0 = y0 at *
          generalize F k 0 = x at *
          generalize F k 1 = y at *
          generalize F k 2 = z at *
          go_wp2_with fail
          go_quiet (fail)
          go_wp2_with fail
          go_roundw
          case rel => exact ⟨k + 1, by omega, by go_num, by first | (rw [HN.out]; done) | (rw [HN.out]; rfl), andDrewN hbl1 _⟩
          case measure => simp [intOf]; omega
        case true =>
          have HN : Hid (bestI F m kn (k + 1) = some k) := bestI_yes (by unfold takeB; rw [f1, f2, hr]; simp only [f3]; rfl)
          have HP : Hid (bestInt (some p) = (p : Int)) := rfl
          rw [HP.out]
          clear hT hT1 hr
          generalize F p 0 = y0 at *
          generalize F k 0 = x at *
          generalize F k 1 = y at *
          generalize F k 2 = z at *
          go_wp2_with fail
          go_quiet (fail)
          go_wp2_with fail
          go_roundw
          case rel => exact ⟨k + 1, by omega, by go_num, by rw [HN.out]; rfl, andDrewN hbl1 _⟩
          case measure => simp [intOf]; omega
    · obtain rfl : k = n := by omega
      rw [hr]
      rcases r with _ | p
      · have HI : Hid (indexAt F k m kn = (0, false)) := by show _ = _; unfold indexAt; rw [hr]
        have HP : Hid (bestInt none = -1) := rfl
        rw [HP.out]
        go_wp2_with fail
        refine bodyPost_ret (v := .tuple #[.int .i64 0, .bool false]) (by simp [results, Try.results15, go_sem]) rfl ?_
        exact ⟨by rw [HI.out], andThen L0 hbl⟩
      · have HI : Hid (indexAt F k m kn = (F p 2, true)) := by show _ = _; unfold indexAt; rw [hr]
        have hp := bestI_lt F m kn k p hr
        have HP : Hid (bestInt (some p) = (p : Int)) := rfl
        rw [HP.out]
        obtain ⟨b, off, rfl, _, ⟨c0', c1', c2'⟩, _⟩ := (H1.out.keep (hbl.mono hL1)).at3 (show p < k by omega)
        have g0 : decide ((p : Int) < 0) = false := decide_eq_false (by omega)
        have g2 : (p : Int) < k := by omega
        have g3 : (0 : Int) ≤ p := by omega
        generalize F p 2 = z at *
        go_wp2_with fail
        refine bodyPost_ret (v := .tuple #[.int .i64 z, .bool true]) (by simp [results, Try.results15, go_sem]) rfl ?_
        exact ⟨by rw [HI.out], andThen L0 hbl⟩

end Go.Proofs.Ytlpaicpjadkceaa
