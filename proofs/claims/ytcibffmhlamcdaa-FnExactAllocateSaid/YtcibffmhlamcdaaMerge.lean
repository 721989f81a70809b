/-
  slices.symMergeCmpFunc at int: two windows in order of the call's own row become one. Conditions: the comparison answers in every world that differs in the row alone.
-/
import Derived.Test.YtcibffmhlamcdaaRotate
namespace Go.Proofs.Ytcibffmhlamcdaa
open Go.RowKit
set_option linter.unusedVariables false
set_option maxRecDepth 4000

def MergesTo (key : Nat → Int) (g N n a b : Nat) (d : Nat → Nat) (w : World) (e : Ending) (w' : World) : Prop :=
  e = .returned (.tuple #[]) ∧ ∃ d', IntR w' g N n d' ∧ WP a b d d' ∧ SR key d' a b ∧ w.grownBy w' (some g)

set_option maxHeartbeats 8000000 in
theorem symMerge_one (key : Nat → Int) (g N n cap a m b : Nat) (d : Nat → Nat) (c0 c1 c2 : Value) (w : World) (hr : IntR w g N n d) (hd : ∀ p, p < n → d p < n) (hC : CmpOk w g n key c0 c1 c2) (hm' : m = a + 1) (hmb : m < b) (hb : b ≤ n) (hn : n ≤ 40)
    (s2 : SR key d m b) (sx : SX key d a m b) :
    Calls Try.prog 35 #[.slice (some ⟨g, 0, none⟩) n cap, .int .i64 a, .int .i64 m, .int .i64 b, .func (.func 22) #[] #[c0, c1, c2]] w (MergesTo key g N n a b d w) := by
  have HR := Lib.hid hr
  have HD := Lib.hid hd
  have HC := Lib.hid hC
  have HS2 := Lib.hid s2
  have HX := Lib.hid sx
  have hma : (m : Int) - (a : Int) = 1 := by omega
  have hm0 : a < m := by omega
  have HM := Lib.hid hm'
  clear hr hd hC s2 sx hm'
  go_enter Try.func35, Try.ntmps35
  go_wp2_with fail
  go_loopw [10, 11] (fun x y wr => ∃ i j : Nat, m ≤ i ∧ i ≤ j ∧ j ≤ b ∧ x = .int .i64 (i : Int) ∧ y = .int .i64 (j : Int) ∧ Hid (∀ q, m ≤ q → q < i → key (d a) < key (d q)) ∧ Hid (∀ q, j ≤ q → q < b → key (d q) ≤ key (d a)) ∧ Hid (IntR wr g N n d) ∧ Hid (w.grownBy wr (some g))) (fun x y _ => (intOf y - intOf x).toNat)
  case atStart => exact ⟨m, b, by omega, by omega, by omega, rfl, rfl, (show ∀ q, m ≤ q → q < m → key (d a) < key (d q) from fun q h1 h2 => by omega), (show ∀ q, b ≤ q → q < b → key (d q) ≤ key (d a) from fun q h1 h2 => by omega), HR, World.grownBy.refl _ _⟩
  case round =>
    obtain ⟨i, j, hi, hij, hj, rfl, rfl, H1, H2, HRk, HGk⟩ := hrel
    by_cases hlt : i < j
    · obtain ⟨h, hh⟩ : ∃ h : Nat, (i + j) / 2 = h := ⟨_, rfl⟩
      have h1 : i ≤ h := by omega
      have h2 : h < j := by omega
      have z1 : IntKind.u64.wrap ((i : Int) + (j : Int)) = (i : Int) + (j : Int) := by rw [IntKind.wrap_u64]; omega
      have z2 : ((i : Int) + (j : Int)) / 2 = (h : Int) := by omega
      have ij1 : (i : Int) < (j : Int) := by omega
      have p0 : (0 : Int) ≤ (h : Int) := by omega
      have p1 : (h : Int) < (n : Int) := by omega
      have p2 : (a : Int) < (n : Int) := by omega
      have e1 := HRk.out.cell (i := h) (by omega)
      have e2 := HRk.out.cell (i := a) (by omega)
      have HQ := Lib.hid (fun q => HC.out (wr.drewN q) (only_drewN HGk.out q) (d h) (d a) (HD.out h (by omega)) (HD.out a (by omega)))
      have HR2 := Lib.hid (fun q => HRk.out.drewN q)
      have HG2 := Lib.hid (fun q => only_drewN HGk.out q)
      clear HRk HGk
      have hiff := cmpOf_neg (key (d a)) (key (d h))
      by_cases hk : key (d a) < key (d h)
      · have HN1 : Hid (∀ q, m ≤ q → q < h + 1 → key (d a) < key (d q)) := fun q q1 q2 => by
          by_cases c : q = h
          · rw [c]; exact hk
          · have := (HS2.out q h q1 (by omega) (by omega)).le
            omega
        have hc := hiff.2 hk
        clear hk hiff H1
        generalize cmpOf (key (d a)) (key (d h)) = c at *
        have hcd : decide (c < 0) = true := decide_eq_true hc
        go_wp2_with fail
        go_quiet ((go_at_call 22; exact q_drw (HQ.out _)))
        go_wp2_with fail
        go_roundw
        case rel => exact ⟨h + 1, j, by omega, by omega, by omega, by go_num, rfl, HN1, H2, HR2.out _, HG2.out _⟩
        case measure => simp [intOf]; omega
      · have HN2 : Hid (∀ q, h ≤ q → q < b → key (d q) ≤ key (d a)) := fun q q1 q2 => by
          by_cases c : q = h
          · rw [c]; omega
          · have := (HS2.out h q (by omega) (by omega) q2).le
            omega
        have hc : ¬ cmpOf (key (d a)) (key (d h)) < 0 := fun e => hk (hiff.1 e)
        clear hk hiff H2
        generalize cmpOf (key (d a)) (key (d h)) = c at *
        have hcd : decide (c < 0) = false := decide_eq_false hc
        go_wp2_with fail
        go_quiet ((go_at_call 22; exact q_drw (HQ.out _)))
        go_wp2_with fail
        go_roundw
        case rel => exact ⟨i, h, by omega, by omega, by omega, rfl, rfl, H1, HN2, HR2.out _, HG2.out _⟩
        case measure => simp [intOf]; omega
    · obtain rfl : i = j := by omega
      have HJ := Lib.hid (merge_left (i := i) (by rw [← HM.out]; exact HS2.out) (by rw [← HM.out]; exact HX.out) (by omega) hj (by rw [← HM.out]; exact H1.out) (fun q h1 h2 => Int.not_lt.mpr (H2.out q h1 h2)))
      obtain ⟨i', hi'⟩ : ∃ q : Nat, (i : Int) - 1 = (q : Int) := ⟨i - 1, by omega⟩
      have ei' : i - 1 = i' := by omega
      rw [ei'] at HJ
      have HEI := Lib.hid ei'
      have i'b : i' < b := by omega
      have ai' : a ≤ i' := by omega
      clear H1 H2 ei'
      go_wp2_with fail
      go_loopw [13] (fun x wr => ∃ q : Nat, a ≤ q ∧ q ≤ i' ∧ x = .int .i64 (q : Int) ∧ Hid (IntR wr g N n (rotL d a q)) ∧ Hid (w.grownBy wr (some g))) (fun x _ => i' - (intOf x).toNat)
      case atStart => exact ⟨a, Nat.le_refl _, ai', rfl, by rw [rotL_zero]; exact HRk, HGk⟩
      case round =>
        clear HRk HGk
        obtain ⟨q, q1, q2, rfl, HRq, HGq⟩ := hrel
        by_cases hlt : q < i'
        · have j1 : (q : Int) < (i' : Int) := by omega
          have ea : ((q : Int) + 1).toNat = q + 1 := by omega
          have p0 : (0 : Int) ≤ (q : Int) := by omega
          have p1 : (q : Int) < (n : Int) := by omega
          have p2 : (q : Int) + 1 < (n : Int) := by omega
          have e0 := HRq.out.cell (i := q) (by omega)
          have e1 := HRq.out.cell (i := q + 1) (by omega)
          have f0 := HRq.out.frozen q
          have f1 := HRq.out.frozen (q + 1)
          have HSW : Hid (∀ s, IntR (((wr.drewN s).setCell ⟨g, q, none⟩ (.int .i64 (rotL d a q (q + 1) : Int))).setCell ⟨g, q + 1, none⟩ (.int .i64 (rotL d a q q : Int))) g N n (rotL d a (q + 1))) := fun s => by
            rw [← rotL_step d q1]
            exact (HRq.out.drewN s).swap q (q + 1)
          have HGW := Lib.hid (fun s u v => only_setCell (only_setCell (only_drewN HGq.out s) (p := ⟨g, q, none⟩) (Or.inl rfl) u) (p := ⟨g, q + 1, none⟩) (Or.inl rfl) v)
          generalize rotL d a q (q + 1) = x at *
          generalize rotL d a q q = y at *
          clear HRq HGq
          go_wp2_with fail
          go_region
          go_wp2_with fail
          go_roundw
          case rel => exact ⟨q + 1, by omega, by omega, by go_num, HSW.out 1, HGW.out 1 _ _⟩
          case measure => simp [intOf]; omega
        · obtain rfl : q = i' := by omega
          have j1 : ¬ (q : Int) < (q : Int) := by omega
          go_wp2_with fail
          go_end0
          exact ⟨rfl, _, HRq.out, HJ.out.2, HJ.out.1, HGq.out⟩

set_option maxHeartbeats 8000000 in
theorem symMerge_last (key : Nat → Int) (g N n cap a m b : Nat) (d : Nat → Nat) (c0 c1 c2 : Value) (w : World) (hr : IntR w g N n d) (hd : ∀ p, p < n → d p < n) (hC : CmpOk w g n key c0 c1 c2) (hma1 : a + 1 < m) (hb' : b = m + 1) (hb : b ≤ n) (hn : n ≤ 40)
    (s1 : SR key d a m) (sx : SX key d a m b) :
    Calls Try.prog 35 #[.slice (some ⟨g, 0, none⟩) n cap, .int .i64 a, .int .i64 m, .int .i64 b, .func (.func 22) #[] #[c0, c1, c2]] w (MergesTo key g N n a b d w) := by
  have HR := Lib.hid hr
  have HD := Lib.hid hd
  have HC := Lib.hid hC
  have HS1 := Lib.hid s1
  have HX := Lib.hid sx
  have hma : ((m : Int) - (a : Int) == 1) = false := by simp; omega
  have hbm : (b : Int) - (m : Int) = 1 := by omega
  have hmn : m < n := by omega
  have HB := Lib.hid hb'
  clear hr hd hC s1 sx hb'
  go_enter Try.func35, Try.ntmps35
  go_wp2_with fail
  go_loopw [14, 15] (fun x y wr => ∃ i j : Nat, a ≤ i ∧ i ≤ j ∧ j ≤ m ∧ x = .int .i64 (i : Int) ∧ y = .int .i64 (j : Int) ∧ Hid (∀ q, a ≤ q → q < i → key (d m) ≤ key (d q)) ∧ Hid (∀ q, j ≤ q → q < m → key (d q) < key (d m)) ∧ Hid (IntR wr g N n d) ∧ Hid (w.grownBy wr (some g))) (fun x y _ => (intOf y - intOf x).toNat)
  case atStart => exact ⟨a, m, by omega, by omega, by omega, rfl, rfl, (show ∀ q, a ≤ q → q < a → key (d m) ≤ key (d q) from fun q h1 h2 => by omega), (show ∀ q, m ≤ q → q < m → key (d q) < key (d m) from fun q h1 h2 => by omega), HR, World.grownBy.refl _ _⟩
  case round =>
    obtain ⟨i, j, hi, hij, hj, rfl, rfl, H1, H2, HRk, HGk⟩ := hrel
    by_cases hlt : i < j
    · obtain ⟨h, hh⟩ : ∃ h : Nat, (i + j) / 2 = h := ⟨_, rfl⟩
      have h1 : i ≤ h := by omega
      have h2 : h < j := by omega
      have z1 : IntKind.u64.wrap ((i : Int) + (j : Int)) = (i : Int) + (j : Int) := by rw [IntKind.wrap_u64]; omega
      have z2 : ((i : Int) + (j : Int)) / 2 = (h : Int) := by omega
      have ij1 : (i : Int) < (j : Int) := by omega
      have p0 : (0 : Int) ≤ (h : Int) := by omega
      have p1 : (h : Int) < (n : Int) := by omega
      have p2 : (m : Int) < (n : Int) := by omega
      have p3 : (0 : Int) ≤ (m : Int) := by omega
      have e1 := HRk.out.cell (i := h) (by omega)
      have e2 := HRk.out.cell (i := m) (by omega)
      have HQ := Lib.hid (fun q => HC.out (wr.drewN q) (only_drewN HGk.out q) (d m) (d h) (HD.out m (by omega)) (HD.out h (by omega)))
      have HR2 := Lib.hid (fun q => HRk.out.drewN q)
      have HG2 := Lib.hid (fun q => only_drewN HGk.out q)
      clear HRk HGk
      have hiff := cmpOf_neg (key (d h)) (key (d m))
      by_cases hk : key (d h) < key (d m)
      · have HN2 : Hid (∀ q, h ≤ q → q < m → key (d q) < key (d m)) := fun q q1 q2 => by
          by_cases c : q = h
          · rw [c]; exact hk
          · have := (HS1.out h q (by omega) (by omega) q2).le
            omega
        have hc := hiff.2 hk
        clear hk hiff H2
        generalize cmpOf (key (d h)) (key (d m)) = c at *
        have hcd : decide (c < 0) = true := decide_eq_true hc
        go_wp2_with fail
        go_quiet ((go_at_call 22; exact q_drw (HQ.out _)))
        go_wp2_with fail
        go_roundw
        case rel => exact ⟨i, h, by omega, by omega, by omega, rfl, rfl, H1, HN2, HR2.out _, HG2.out _⟩
        case measure => simp [intOf]; omega
      · have HN1 : Hid (∀ q, a ≤ q → q < h + 1 → key (d m) ≤ key (d q)) := fun q q1 q2 => by
          by_cases c : q = h
          · rw [c]; omega
          · have := (HS1.out q h q1 (by omega) (by omega)).le
            omega
        have hc : ¬ cmpOf (key (d h)) (key (d m)) < 0 := fun e => hk (hiff.1 e)
        clear hk hiff H1
        generalize cmpOf (key (d h)) (key (d m)) = c at *
        have hcd : decide (c < 0) = false := decide_eq_false hc
        go_wp2_with fail
        go_quiet ((go_at_call 22; exact q_drw (HQ.out _)))
        go_wp2_with fail
        go_roundw
        case rel => exact ⟨h + 1, j, by omega, by omega, by omega, by go_num, rfl, HN1, H2, HR2.out _, HG2.out _⟩
        case measure => simp [intOf]; omega
    · obtain rfl : i = j := by omega
      have HJ := Lib.hid (merge_right (i := i) HS1.out (by rw [← HB.out]; exact HX.out) hi hj (fun q h1 h2 => Int.not_lt.mpr (H1.out q h1 h2)) H2.out)
      rw [← HB.out] at HJ
      clear H1 H2
      go_wp2_with fail
      go_loopw [17] (fun x wr => ∃ q : Nat, i ≤ q ∧ q ≤ m ∧ x = .int .i64 (q : Int) ∧ Hid (IntR wr g N n (rotR d m q)) ∧ Hid (w.grownBy wr (some g))) (fun x _ => (intOf x).toNat)
      case atStart => exact ⟨m, hj, Nat.le_refl _, rfl, by rw [rotR_zero]; exact HRk, HGk⟩
      case round =>
        clear HRk HGk
        obtain ⟨q, q1, q2, rfl, HRq, HGq⟩ := hrel
        by_cases hlt : i < q
        · obtain ⟨s, rfl⟩ : ∃ s, q = s + 1 := ⟨q - 1, by omega⟩
          have j1 : (i : Int) < (s : Int) + 1 := by omega
          have j2 : decide ((s : Int) + 1 > (i : Int)) = true := decide_eq_true (by omega)
          have ea : ((s : Int) + 1).toNat = s + 1 := by omega
          have p0 : (0 : Int) ≤ (s : Int) := by omega
          have p1 : (s : Int) < (n : Int) := by omega
          have p2 : (s : Int) + 1 < (n : Int) := by omega
          have e0 := HRq.out.cell (i := s) (by omega)
          have e1 := HRq.out.cell (i := s + 1) (by omega)
          have f0 := HRq.out.frozen s
          have f1 := HRq.out.frozen (s + 1)
          have HSW : Hid (∀ t, IntR (((wr.drewN t).setCell ⟨g, s + 1, none⟩ (.int .i64 (rotR d m (s + 1) s : Int))).setCell ⟨g, s, none⟩ (.int .i64 (rotR d m (s + 1) (s + 1) : Int))) g N n (rotR d m s)) := fun t => by
            rw [← rotR_step d q2]
            exact (HRq.out.drewN t).swap (s + 1) s
          have HGW := Lib.hid (fun t u v => only_setCell (only_setCell (only_drewN HGq.out t) (p := ⟨g, s + 1, none⟩) (Or.inl rfl) u) (p := ⟨g, s, none⟩) (Or.inl rfl) v)
          generalize rotR d m (s + 1) (s + 1) = x at *
          generalize rotR d m (s + 1) s = y at *
          clear HRq HGq
          go_wp2_with fail
          go_region
          go_wp2_with fail
          go_roundw
          case rel => exact ⟨s, by omega, by omega, by go_num, HSW.out 1, HGW.out 1 _ _⟩
          case measure => simp [intOf] <;> omega
        · obtain rfl : q = i := by omega
          have j1 : ¬ (q : Int) < (q : Int) := by omega
          go_wp2_with fail
          go_end0
          exact ⟨rfl, _, HRq.out, HJ.out.2, HJ.out.1, HGq.out⟩

/-- What the two halves' merges come to. -/
theorem merge_end {key : Nat → Int} {d d2 d3 : Nat → Nat} {a s m mid e b : Nat} (hc : Cut key (rotD d s m e) a s mid e b) (g1 : a ≤ s) (g2 : s ≤ m) (g3 : m ≤ e) (g4 : e ≤ b) (g5 : s ≤ mid) (g6 : mid ≤ e)
    (h2 : (SR key d2 a mid ∧ WP a mid (rotD d s m e) d2)) (h3 : SR key d3 mid b ∧ WP mid b d2 d3) : WP a b d d3 ∧ SR key d3 a b :=
  ⟨((wp_rotD d g1 g2 g3 g4).trans (h2.2.mono (Nat.le_refl _) (by omega))).trans (h3.2.mono (by omega) (Nat.le_refl _)), sr_join hc.cr h2.1 h2.2 h3.1 h3.2⟩
theorem left_skip {key : Nat → Int} {d : Nat → Nat} {a s mid e b : Nat} (hc : Cut key d a s mid e b) (h : s = a ∨ s = mid) : SR key d a mid ∧ WP a mid d d := by
  refine ⟨?_, WP.refl _ _ _⟩
  rcases h with rfl | rfl
  · exact hc.l2
  · exact hc.l1
theorem right_skip {key : Nat → Int} {d d2 : Nat → Nat} {a s mid e b : Nat} (hc : Cut key d a s mid e b) (hw : WP a mid d d2) (h : e = mid ∨ e = b) : SR key d2 mid b ∧ WP mid b d2 d2 := by
  refine ⟨?_, WP.refl _ _ _⟩
  rcases h with rfl | rfl
  · exact hc.r2.keep fun p h1 h2 => hw.out (.inr h1)
  · exact hc.r1.keep fun p h1 h2 => hw.out (.inr h1)
theorem right_pre {key : Nat → Int} {d d2 : Nat → Nat} {a s mid e b : Nat} (hc : Cut key d a s mid e b) (hw : WP a mid d d2) (h1 : mid ≤ e) (h2 : e ≤ b) : SR key d2 mid e ∧ SR key d2 e b ∧ SX key d2 mid e b :=
  ⟨hc.r1.keep fun p h1 h2 => hw.out (.inr h1), hc.r2.keep fun p h3 h4 => hw.out (.inr (by omega)), hc.rx.keep (fun p h1 h2 => hw.out (.inr h1)) h1 h2⟩

def Merges (key : Nat → Int) (g N n cap : Nat) (c0 c1 c2 : Value) (K : Nat) : Prop := ∀ (a m b : Nat) (d : Nat → Nat) (w : World), b - a ≤ K → a < m → m < b → b ≤ n → IntR w g N n d → (∀ p, p < n → d p < n) → CmpOk w g n key c0 c1 c2 → SR key d a m → SR key d m b → SX key d a m b →
    Calls Try.prog 35 #[.slice (some ⟨g, 0, none⟩) n cap, .int .i64 a, .int .i64 m, .int .i64 b, .func (.func 22) #[] #[c0, c1, c2]] w (MergesTo key g N n a b d w)

end Go.Proofs.Ytcibffmhlamcdaa
