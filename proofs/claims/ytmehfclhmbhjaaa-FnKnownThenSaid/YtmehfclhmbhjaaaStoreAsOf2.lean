/-
  impl.StoreAsOf (slices.DeleteFunc of a clone) computes the same plain function into a new row. Conditions: the facts can be read.
-/
import Derived.Test.YtmehfclhmbhjaaaStoreAsOf
import Derived.Lib.SliceRun
namespace Go.Proofs.Ytmehfclhmbhjaaa
open Go.RowKit
set_option linter.unusedVariables false
set_option maxRecDepth 4000

set_option maxHeartbeats 400000 in
theorem asOfDel_c (x0 x1 x2 x3 x4 kn : Int) (bk : Nat) (w : World) (h1 : w.cell? ⟨bk, 0, none⟩ = some (.int .i64 kn)) :
    Calls Try.prog 69 #[.agg #[.int .i64 x0, .int .i64 x1, .int .i64 x2, .int .i64 x3, .int .i64 x4], .pointer (some ⟨bk, 0, none⟩)] w fun e w' => e = .returned (.bool (!decide (x3 ≤ kn))) ∧ Below w.heap.size w w' := by
  have h2 := cell_later ((Below.refl w.heap.size w).alloc (Nat.le_refl _) (.cells #[.int .i64 x0, .int .i64 x1, .int .i64 x2, .int .i64 x3, .int .i64 x4] 54)) h1
  go_enter Try.func69, Try.ntmps69
  go_wp2
  go_ret
  exact ⟨ret_bool (by by_cases h : x3 ≤ kn <;> simp [h] <;> omega), andAlloc (Below.refl _ _) _⟩

def IdxAs (k n : Nat) (w : World) (e : Ending) (w' : World) : Prop := e = .returned (.int .i64 (if k < n then (k : Int) else -1)) ∧ Below w.heap.size w w'

set_option maxHeartbeats 1000000 in
theorem asOfIdx_c (L : Nat) (A : Option Addr) (n cap : Nat) (F : Nat → Nat → Int) (kn : Int) (bk k : Nat) (w : World) (h1 : Tab 5 w L A n F) (hL : L ≤ w.heap.size) (hn : n ≤ 1048577) (hb : w.cell? ⟨bk, 0, none⟩ = some (.int .i64 kn))
    (hk : k ≤ n) (hpre : ∀ i, i < k → keepB F kn i = true) (hat : k < n → keepB F kn k = false) :
    Calls Try.prog 82 #[.slice A n cap, .func (.func 69) #[] #[.pointer (some ⟨bk, 0, none⟩)]] w (IdxAs k n w) := by
  have H1 := Lib.hid h1
  have HP := Lib.hid hpre
  have HA := Lib.hid hat
  have HB := Lib.hid hb
  clear h1 hpre hat hb
  go_enter Try.func82, Try.ntmps82
  go_wp2_with fail
  go_loopw [8] (fun i wr => ∃ m : Nat, m ≤ k ∧ i = .int .i64 m ∧ Below w.heap.size w wr) (fun i _ => n - (intOf i).toNat)
  case atStart => exact ⟨0, Nat.zero_le _, rfl, Below.refl _ _⟩
  case round =>
    obtain ⟨m, hm, rfl, hbl⟩ := hrel
    by_cases hlt : m < n
    · obtain ⟨b, off, rfl, hb', ⟨c0, c1, c2, c3, c4⟩, _⟩ := (H1.out.keep (hbl.mono hL)).at5 hlt
      have k0 : (0 : Int) ≤ (m : Int) := by omega
      have k1 : (m : Int) < (n : Int) := by omega
      have HC := Lib.hid (asOfDel_c (F m 0) (F m 1) (F m 2) (F m 3) (F m 4) kn bk wr (cell_later hbl HB.out))
      by_cases hmk : m < k
      · have hq : decide (F m 3 ≤ kn) = true := HP.out m hmk
        rw [hq] at HC
        clear hq
        generalize F m 0 = x0 at *
        generalize F m 1 = x1 at *
        generalize F m 2 = x2 at *
        generalize F m 3 = x3 at *
        generalize F m 4 = x4 at *
        go_wp2_with (go_at_call 69; refine HC.out.mono ?_; rintro e w1 ⟨rfl, b1⟩)
        go_roundw
        case rel => exact ⟨m + 1, by omega, by go_num, andThen hbl b1⟩
        case measure => simp [intOf]; omega
      · obtain rfl : m = k := by omega
        have hq : decide (F m 3 ≤ kn) = false := HA.out hlt
        have HI : Hid ((if m < n then (m : Int) else -1) = (m : Int)) := if_pos hlt
        rw [hq] at HC
        clear hq
        generalize F m 0 = x0 at *
        generalize F m 1 = x1 at *
        generalize F m 2 = x2 at *
        generalize F m 3 = x3 at *
        generalize F m 4 = x4 at *
        go_wp2_with (go_at_call 69; refine HC.out.mono ?_; rintro e w1 ⟨rfl, b1⟩)
        go_ret
        exact ⟨ret_int HI.out.symm, andThen hbl b1⟩
    · have HI : Hid ((if k < n then (k : Int) else -1) = -1) := if_neg (by omega)
      obtain rfl : m = n := by omega
      go_wp2_with fail
      go_ret
      exact ⟨ret_int HI.out.symm, hbl⟩

theorem run_clear_rows {P : Program} (w : World) (t e ty : TypeId) (z : Value) (ht : P.underlying t = some (.slice e)) (hv : ∀ w, (zeroValue e).run P w = .ok z w) (b o n c : Nat) (vs : List Value) (hn : 0 < n) (hz : (Builtin.zeroCells z.cells n).toList = vs)
    (hc : ∀ j, j < vs.length → (w.cell? ⟨b, o + j, none⟩).isSome = true) (hf : ∀ j, j < vs.length → w.frozen? ⟨b, o + j, none⟩ = false) (h1 : ∀ v ∈ vs, v.oneCell' = true) :
    (Builtin.clear_ #[t] ty #[.slice (some ⟨b, o, none⟩) n c]).run P w = .ok (.tuple #[]) (w.setCells b o vs) := by
  have hst := run_storeCells_cells (P := P) b o vs 0 w (by simpa using hc) (by simpa using hf) h1
  simp only [Nat.add_zero] at hst
  obtain ⟨m, rfl⟩ : ∃ m, n = m + 1 := ⟨n - 1, by omega⟩
  simp [Builtin.clear_, run_underlying ht, hv, hz, hst]

theorem OwnC.setCells {t : TypeId} {g N : Nat} : ∀ (vs : List Value) (o : Nat) (w : World) (f : Nat → Value), OwnC t w g N f → ∃ f', OwnC t (w.setCells g o vs) g N f' ∧ ∀ x, x < o → f' x = f x
  | [], o, w, f, h => ⟨f, h, fun _ _ => rfl⟩
  | v :: vs, o, w, f, h => by
    obtain ⟨f', h1, h2⟩ := OwnC.setCells vs (o + 1) (w.setCell ⟨g, o, none⟩ v) _ (h.set o v)
    exact ⟨f', h1, fun x hx => by rw [h2 x (by omega)]; simp only [show ¬ (x = o) by omega, if_false]⟩
theorem only_setCells {a : World} {g : Nat} : ∀ (vs : List Value) (o : Nat) (w : World), a.grownBy w (some g) → a.grownBy (w.setCells g o vs) (some g)
  | [], o, w, h => h
  | v :: vs, o, w, h => only_setCells vs (o + 1) (w.setCell ⟨g, o, none⟩ v) (only_setCell h (Or.inl rfl) v)

theorem OwnC.put5x {t : TypeId} {w : World} {g N m : Nat} {f : Nat → Value} {F : Nat → Nat → Int} {x0 x1 x2 x3 x4 : Int} (h : OwnC t w g N f) (hk : ∀ i, i < m → ∀ j, j < 5 → f (i * 5 + j) = .int .i64 (F i j) ∧ I64 (F i j)) (e0 : F m 0 = x0 ∧ I64 x0) (e1 : F m 1 = x1 ∧ I64 x1) (e2 : F m 2 = x2 ∧ I64 x2) (e3 : F m 3 = x3 ∧ I64 x3) (e4 : F m 4 = x4 ∧ I64 x4) :
    ∃ f', OwnC t (((((w.setCell ⟨g, m * 5, none⟩ (.int .i64 x0)).setCell ⟨g, m * 5 + 1, none⟩ (.int .i64 x1)).setCell ⟨g, m * 5 + 2, none⟩ (.int .i64 x2)).setCell ⟨g, m * 5 + 3, none⟩ (.int .i64 x3)).setCell ⟨g, m * 5 + 4, none⟩ (.int .i64 x4)) g N f' ∧ (∀ i, i < m + 1 → ∀ j, j < 5 → f' (i * 5 + j) = .int .i64 (F i j) ∧ I64 (F i j)) ∧ ∀ x, m * 5 + 5 ≤ x → f' x = f x := by
  refine ⟨_, (((((h.set (m * 5) (.int .i64 x0)).set (m * 5 + 1) (.int .i64 x1)).set (m * 5 + 2) (.int .i64 x2)).set (m * 5 + 3) (.int .i64 x3)).set (m * 5 + 4) (.int .i64 x4)), fun i hi j hj => ?_, fun x hx => ?_⟩
  · rcases Nat.lt_or_ge i m with hm | hm
    · have := hk i hm j hj
      simp only [show ¬ (i * 5 + j = m * 5 + 1) by omega, show ¬ (i * 5 + j = m * 5 + 2) by omega, show ¬ (i * 5 + j = m * 5 + 3) by omega, show ¬ (i * 5 + j = m * 5 + 4) by omega, show ¬ (i * 5 + j = m * 5) by omega, if_false]
      exact this
    · obtain rfl : i = m := by omega
      rcases (show j = 0 ∨ j = 1 ∨ j = 2 ∨ j = 3 ∨ j = 4 by omega) with rfl | rfl | rfl | rfl | rfl
      · rw [e0.1]; exact ⟨by simp, e0.2⟩
      · rw [e1.1]; exact ⟨by simp, e1.2⟩
      · rw [e2.1]; exact ⟨by simp, e2.2⟩
      · rw [e3.1]; exact ⟨by simp, e3.2⟩
      · rw [e4.1]; exact ⟨by simp, e4.2⟩
  · simp only [show ¬ (x = m * 5 + 1) by omega, show ¬ (x = m * 5 + 2) by omega, show ¬ (x = m * 5 + 3) by omega, show ¬ (x = m * 5 + 4) by omega, show ¬ (x = m * 5) by omega, if_false]

/-- Nothing is to be deleted. -/
theorem delNone_c (L : Nat) (A : Option Addr) (n cap : Nat) (F : Nat → Nat → Int) (kn : Int) (bk : Nat) (w : World) (h1 : Tab 5 w L A n F) (hL : L ≤ w.heap.size) (hn : n ≤ 1048577) (hb : w.cell? ⟨bk, 0, none⟩ = some (.int .i64 kn)) (hall : ∀ i, i < n → keepB F kn i = true) :
    Calls Try.prog 67 #[.slice A n cap, .func (.func 69) #[] #[.pointer (some ⟨bk, 0, none⟩)]] w fun e w' => e = .returned (.slice A n cap) ∧ Below w.heap.size w w' := by
  have HC := Lib.hid (asOfIdx_c L A n cap F kn bk n w h1 hL hn hb (Nat.le_refl _) hall (fun h => absurd h (Nat.lt_irrefl _)))
  have HI : Hid ((if n < n then (n : Int) else -1) = -1) := if_neg (Nat.lt_irrefl _)
  clear h1 hb hall
  go_enter Try.func67, Try.ntmps67
  go_wp2_with (go_at_call 82; refine HC.out.mono ?_; unfold IdxAs; rw [HI.out]; rintro e w1 ⟨rfl, b1⟩)
  go_ret
  exact ⟨rfl, b1⟩

def DelEnd (g n cap : Nat) (F : Nat → Nat → Int) (kn : Int) (w : World) (e : Ending) (w' : World) : Prop :=
  e = .returned (.slice (some ⟨g, 0, none⟩) (selL F kn n).length cap) ∧ (∃ f, OwnC 54 w' g (cap * 5) f ∧ ∀ i, i < (selL F kn n).length → ∀ j, j < 5 → f (i * 5 + j) = .int .i64 (pickF F (selL F kn n) i j) ∧ I64 (pickF F (selL F kn n) i j)) ∧ w.grownBy w' (some g)

theorem selL_lt {F : Nat → Nat → Int} {kn : Int} {k : Nat} (hk : keepB F kn k = false) : ∀ n, k < n → (selL F kn n).length < n
  | 0, h => by omega
  | n + 1, h => by
    by_cases e : k = n
    · subst e
      rw [selL_no hk]
      have := selL_len F kn k
      omega
    · have := selL_lt hk n (by omega)
      cases hq : keepB F kn n
      · rw [selL_no hq]; omega
      · rw [selL_yes hq, List.length_append]; simp; omega

set_option maxHeartbeats 4000000 in
theorem delSome_c (g n cap : Nat) (F : Nat → Nat → Int) (kn : Int) (bk k : Nat) (w : World) (hn : n ≤ 1048577) (hcap : n ≤ cap) (hmax : cap ≤ maxLen) (f : Nat → Value) (hf : OwnC 54 w g (cap * 5) f) (hk5 : ∀ i, i < n → ∀ j, j < 5 → f (i * 5 + j) = .int .i64 (F i j) ∧ I64 (F i j))
    (hb : w.cell? ⟨bk, 0, none⟩ = some (.int .i64 kn)) (hbg : bk ≠ g) (hk : k < n) (hpre : ∀ i, i < k → keepB F kn i = true) (hat : keepB F kn k = false) :
    Calls Try.prog 67 #[.slice (some ⟨g, 0, none⟩) n cap, .func (.func 69) #[] #[.pointer (some ⟨bk, 0, none⟩)]] w (DelEnd g n cap F kn w) := by
  have hc5 : n * 5 ≤ cap * 5 := Nat.mul_le_mul_right _ hcap
  have hT : Tab 5 w w.heap.size (some ⟨g, 0, none⟩) n F := fun i hi => ⟨g, 0, rfl, hf.lt, fun j hj => by
    obtain ⟨e1, e2⟩ := hk5 i hi j hj
    exact ⟨by rw [Nat.zero_add, hf.cell _ (Nat.lt_of_lt_of_le (at_lt hi hj) hc5), e1], e2⟩⟩
  have HC := Lib.hid (asOfIdx_c _ _ n cap F kn bk k w hT (Nat.le_refl _) hn hb (by omega) hpre (fun _ => hat))
  have HI : Hid ((if k < n then (k : Int) else -1) = (k : Int)) := if_pos hk
  have HS0 : Hid (selL F kn (k + 1) = List.range k) := by show _ = _; rw [selL_no hat, selL_all hpre]
  have HLT := Lib.hid (selL_lt hat)
  have HF := Lib.hid hf
  have HK5 := Lib.hid hk5
  have HB := Lib.hid hb
  have hkm1 : ¬ ((k : Int) = -1) := by omega
  have hke : ((k : Int) == -1) = false := by simp <;> omega
  have hmx : cap ≤ 9223372036854775807 := by unfold maxLen at hmax; exact hmax
  clear hT hf hk5 hb hpre hat
  go_enter Try.func67, Try.ntmps67
  go_wp2_with (go_at_call 82; refine HC.out.mono ?_; unfold IdxAs; rw [HI.out]; rintro e w1 ⟨rfl, b1⟩)
  go_loopw [5, 6] (fun i jv wr => ∃ m : Nat, k + 1 ≤ m ∧ m ≤ n ∧ i = .int .i64 ((selL F kn m).length : Int) ∧ jv = .int .i64 m ∧
      (∃ f, OwnC 54 wr g (cap * 5) f ∧ (∀ i, i < (selL F kn m).length → ∀ j, j < 5 → f (i * 5 + j) = .int .i64 (pickF F (selL F kn m) i j) ∧ I64 (pickF F (selL F kn m) i j)) ∧ ∀ i, m ≤ i → i < n → ∀ j, j < 5 → f (i * 5 + j) = .int .i64 (F i j) ∧ I64 (F i j)) ∧ w.grownBy wr (some g)) (fun _ jv _ => n - (intOf jv).toNat)
  case atStart =>
    refine ⟨k + 1, Nat.le_refl _, hk, by have := HS0.out; simp [this], by go_num, ⟨f, HF.out.later b1, ?_, fun i _ hi => HK5.out i hi⟩, ⟨b1.os, b1.tape, b1.output, b1.size, fun i hi _ => b1.block i hi⟩⟩
    rw [HS0.out]
    intro i hi j hj
    simp at hi
    rw [pickF_range hi]
    exact HK5.out i (by omega) j hj
  case round =>
    obtain ⟨m, hm1, hm2, rfl, rfl, ⟨f', hf', hlo, hhi⟩, hgr⟩ := hrel
    have hq0 := HLT.out m hm1
    have HLO := Lib.hid hlo
    have HHI := Lib.hid hhi
    have HF' := Lib.hid hf'
    have HG := Lib.hid hgr
    clear hlo hhi hf' hgr b1
    by_cases hlt : m < n
    · obtain ⟨q, hq⟩ : ∃ q, (selL F kn m).length = q := ⟨_, rfl⟩
      have hmc : m * 5 + 4 < cap * 5 := by omega
      have hqc : q * 5 + 4 < cap * 5 := by omega
      obtain ⟨y0, d0⟩ := HHI.out m (Nat.le_refl _) hlt 0 (by omega)
      obtain ⟨y1, d1⟩ := HHI.out m (Nat.le_refl _) hlt 1 (by omega)
      obtain ⟨y2, d2⟩ := HHI.out m (Nat.le_refl _) hlt 2 (by omega)
      obtain ⟨y3, d3⟩ := HHI.out m (Nat.le_refl _) hlt 3 (by omega)
      obtain ⟨y4, d4⟩ := HHI.out m (Nat.le_refl _) hlt 4 (by omega)
      have c0 : wr.cell? ⟨g, m * 5, none⟩ = some (.int .i64 (F m 0)) := by rw [HF'.out.cell (m * 5) (by omega)]; exact congrArg some y0
      have c1 : wr.cell? ⟨g, m * 5 + 1, none⟩ = some (.int .i64 (F m 1)) := by rw [HF'.out.cell (m * 5 + 1) (by omega), y1]
      have c2 : wr.cell? ⟨g, m * 5 + 2, none⟩ = some (.int .i64 (F m 2)) := by rw [HF'.out.cell (m * 5 + 2) (by omega), y2]
      have c3 : wr.cell? ⟨g, m * 5 + 3, none⟩ = some (.int .i64 (F m 3)) := by rw [HF'.out.cell (m * 5 + 3) (by omega), y3]
      have c4 : wr.cell? ⟨g, m * 5 + 4, none⟩ = some (.int .i64 (F m 4)) := by rw [HF'.out.cell (m * 5 + 4) (by omega), y4]
      have l1 : Below wr.heap.size wr (wr.alloc (.cells #[.int .i64 (F m 0), .int .i64 (F m 1), .int .i64 (F m 2), .int .i64 (F m 3), .int .i64 (F m 4)] 54)) := (Below.refl _ _).alloc (Nat.le_refl _) _
      have hbk := HG.out.cell HB.out (fun e => hbg (by injection e))
      have HD := Lib.hid (asOfDel_c (F m 0) (F m 1) (F m 2) (F m 3) (F m 4) kn bk _ (cell_later l1 hbk))
      have HL1 := Lib.hid l1
      have k0 : (0 : Int) ≤ (m : Int) := by omega
      have k1 : (m : Int) < (n : Int) := by omega
      have k2 : (0 : Int) ≤ (q : Int) := by omega
      have k3 : (q : Int) < (n : Int) := by omega
      have hqm : q < m := by omega
      clear y0 y1 y2 y3 y4 l1 hbk
      cases hkp : keepB F kn m
      case false =>
        have HN := Lib.hid (selL_no hkp)
        have hkq : decide (F m 3 ≤ kn) = false := hkp
        rw [hkq] at HD
        rw [hq]
        have HQ := Lib.hid hq
        clear hkp hkq d0 d1 d2 d3 d4 hq hq0
        generalize F m 0 = x0 at *
        generalize F m 1 = x1 at *
        generalize F m 2 = x2 at *
        generalize F m 3 = x3 at *
        generalize F m 4 = x4 at *
        go_wp2_with (go_at_call 69; refine HD.out.mono ?_; rintro e w2 ⟨rfl, b2⟩)
        have b3 := andThen HL1.out b2
        go_roundw
        case rel =>
          refine ⟨m + 1, by omega, by omega, by rw [HN.out, HQ.out], by go_num, ⟨f', HF'.out.later b3, by rw [HN.out]; exact HLO.out, fun i h1 h2 => HHI.out i (by omega) h2⟩, only_trans HG.out ⟨b3.os, b3.tape, b3.output, b3.size, fun i hi _ => b3.block i hi⟩⟩
        case measure => simp [intOf]; omega
      case true =>
        have HN := Lib.hid (selL_yes hkp)
        have hkq : decide (F m 3 ≤ kn) = true := hkp
        have HNEW : Hid (∀ j, pickF F (selL F kn (m + 1)) q j = F m j) := fun j => by rw [HN.out, ← hq, pickF_new]
        have HLO2 : Hid (∀ i, i < q → ∀ j, j < 5 → f' (i * 5 + j) = .int .i64 (pickF F (selL F kn (m + 1)) i j) ∧ I64 (pickF F (selL F kn (m + 1)) i j)) := fun i hi j hj => by
          rw [HN.out, pickF_old (by omega)]
          exact HLO.out i (by omega) j hj
        have HLEN : Hid ((selL F kn (m + 1)).length = q + 1) := by show _ = _; rw [HN.out, ← hq]; simp
        rw [hkq] at HD
        rw [hq]
        have HDD := Lib.hid (And.intro d0 (And.intro d1 (And.intro d2 (And.intro d3 d4))))
        have HNE := Lib.hid (And.intro (HNEW.out 0) (And.intro (HNEW.out 1) (And.intro (HNEW.out 2) (And.intro (HNEW.out 3) (HNEW.out 4)))))
        clear hkp hkq d0 d1 d2 d3 d4 hq hq0 HNEW
        generalize F m 0 = x0 at *
        generalize F m 1 = x1 at *
        generalize F m 2 = x2 at *
        generalize F m 3 = x3 at *
        generalize F m 4 = x4 at *
        go_wp2_with fail
        refine HD.out.mono ?_
        rintro e w2 ⟨rfl, b2⟩
        have b3 := andThen HL1.out b2
        have hz2 : wr.heap.size < w2.heap.size := by have := b2.size; simp at this; omega
        have v0 : w2.cell? ⟨wr.heap.size, 0, none⟩ = some (.int .i64 x0) := cell_later b2 (by go_simp)
        have v1 : w2.cell? ⟨wr.heap.size, 1, none⟩ = some (.int .i64 x1) := cell_later b2 (by go_simp)
        have v2 : w2.cell? ⟨wr.heap.size, 2, none⟩ = some (.int .i64 x2) := cell_later b2 (by go_simp)
        have v3 : w2.cell? ⟨wr.heap.size, 3, none⟩ = some (.int .i64 x3) := cell_later b2 (by go_simp)
        have v4 : w2.cell? ⟨wr.heap.size, 4, none⟩ = some (.int .i64 x4) := cell_later b2 (by go_simp)
        have hf2 := HF'.out.later b3
        have e0 := hf2.cell (q * 5) (by omega)
        have e1 := hf2.cell (q * 5 + 1) (by omega)
        have e2 := hf2.cell (q * 5 + 2) (by omega)
        have e3 := hf2.cell (q * 5 + 3) (by omega)
        have e4 := hf2.cell (q * 5 + 4) (by omega)
        have g0 := hf2.frozen (q * 5)
        have g1 := hf2.frozen (q * 5 + 1)
        have g2 := hf2.frozen (q * 5 + 2)
        have g3 := hf2.frozen (q * 5 + 3)
        have g4 := hf2.frozen (q * 5 + 4)
        have HH := Lib.hid (And.intro hf2 (only_trans HG.out (⟨b3.os, b3.tape, b3.output, b3.size, fun i hi _ => b3.block i hi⟩ : wr.grownBy w2 (some g))))
        clear b2 b3 hf2 c0 c1 c2 c3 c4
        go_wp2_with fail
        go_roundw
        case rel =>
          obtain ⟨f2, p1, p2, p3⟩ := HH.out.1.put5x HLO2.out ⟨HNE.out.1, HDD.out.1⟩ ⟨HNE.out.2.1, HDD.out.2.1⟩ ⟨HNE.out.2.2.1, HDD.out.2.2.1⟩ ⟨HNE.out.2.2.2.1, HDD.out.2.2.2.1⟩ ⟨HNE.out.2.2.2.2, HDD.out.2.2.2.2⟩
          refine ⟨m + 1, by omega, by omega, by rw [HLEN.out]; go_num, by go_num, ⟨f2, p1, by rw [HLEN.out]; exact p2, fun i h1 h2 j hj => by rw [p3 _ (by omega)]; exact HHI.out i (by omega) h2 j hj⟩, only_setCell (only_setCell (only_setCell (only_setCell (only_setCell HH.out.2 (Or.inl rfl) _) (Or.inl rfl) _) (Or.inl rfl) _) (Or.inl rfl) _) (Or.inl rfl) _⟩
        case measure => simp [intOf]; omega
    · obtain rfl : m = n := by omega
      obtain ⟨q, hq⟩ : ∃ q, (selL F kn m).length = q := ⟨_, rfl⟩
      have hvl : (Builtin.zeroCells (Value.cells (.agg #[.int .i64 0, .int .i64 0, .int .i64 0, .int .i64 0, .int .i64 0])) (m - q)).toList.length = (m - q) * 5 := by
        rw [Array.length_toList, size_zeroCells]; rfl
      obtain ⟨vs, hvs⟩ : ∃ vs, (Builtin.zeroCells (Value.cells (.agg #[.int .i64 0, .int .i64 0, .int .i64 0, .int .i64 0, .int .i64 0])) (m - q)).toList = vs := ⟨_, rfl⟩
      have hone : ∀ v ∈ vs, v.oneCell' = true := by
        intro v hv
        rw [← hvs] at hv
        unfold Builtin.zeroCells at hv
        simp only [Array.toList_map, List.mem_map] at hv
        obtain ⟨a, _, rfl⟩ := hv
        have h5 : (Value.cells (.agg #[.int .i64 0, .int .i64 0, .int .i64 0, .int .i64 0, .int .i64 0])).size = 5 := rfl
        rw [h5]
        have : a % 5 < 5 := Nat.mod_lt _ (by omega)
        generalize a % 5 = r at *
        rcases (show r = 0 ∨ r = 1 ∨ r = 2 ∨ r = 3 ∨ r = 4 by omega) with rfl | rfl | rfl | rfl | rfl <;> rfl
      rw [hvs] at hvl
      have hmul : (m - q) * 5 + q * 5 = m * 5 := by rw [← Nat.add_mul]; congr 1; omega
      have hcl := fun ty => run_clear_rows (P := Try.prog) wr 36 54 ty _ Try.underlying36 Try.zeroValue54 g (q * 5) (m - q) (cap - q) vs (by omega) hvs
        (fun j hj => by rw [HF'.out.cell (q * 5 + j) (by omega)]; rfl) (fun j hj => HF'.out.frozen _) hone
      obtain ⟨f2, p1, p2⟩ := OwnC.setCells vs (q * 5) wr f' HF'.out
      have HR := Lib.hid (And.intro p1 p2)
      have HQ := Lib.hid hq
      rw [hq]
      have hqn : q < m := by omega
      have hqm : ¬ (cap = q) := by omega
      have hqm' : ¬ (q = cap) := by omega
      clear hvl hvs hone p1 p2 hq hq0 hmul
      go_wp2_with fail
      go_ret
      refine ⟨by rw [HQ.out]; rfl, ⟨f2, HR.out.1, ?_⟩, only_setCells _ _ _ HG.out⟩
      rw [HQ.out]
      intro i hi j hj
      rw [HR.out.2 _ (at_lt hi hj)]
      exact HLO.out i (by rw [HQ.out]; exact hi) j hj

theorem first_no {p : Nat → Bool} : ∀ n, (∀ i, i < n → p i = true) ∨ ∃ k, k < n ∧ (∀ i, i < k → p i = true) ∧ p k = false
  | 0 => .inl fun i hi => by omega
  | n + 1 => by
    rcases first_no (p := p) n with h | ⟨k, h1, h2, h3⟩
    · cases hp : p n
      · exact .inr ⟨n, by omega, h, hp⟩
      · refine .inl fun i hi => ?_
        rcases Nat.lt_or_ge i n with h' | h'
        · exact h i h'
        · obtain rfl : i = n := by omega
          exact hp
    · exact .inr ⟨k, by omega, h2, h3⟩

/-- What the deletion leaves of a clone. -/
def DelV (n : Nat) (F : Nat → Nat → Int) (kn : Int) (base : Nat) (w : World) (e : Ending) (w' : World) : Prop :=
  ∃ A cap, e = .returned (.slice A (selL F kn n).length cap) ∧ OwnV 5 54 w' base (.slice A (selL F kn n).length cap) (selL F kn n).length (pickF F (selL F kn n)) ∧ Below base w w'

theorem del_c (A : Option Addr) (n cap : Nat) (F : Nat → Nat → Int) (kn : Int) (bk base : Nat) (w : World) (hn : n ≤ 1048577) (ho : OwnV 5 54 w base (.slice A n cap) n F) (hb : w.cell? ⟨bk, 0, none⟩ = some (.int .i64 kn)) (hbb : bk < base) (hbase : base ≤ w.heap.size) :
    Calls Try.prog 67 #[.slice A n cap, .func (.func 69) #[] #[.pointer (some ⟨bk, 0, none⟩)]] w (DelV n F kn base w) := by
  rcases first_no (p := keepB F kn) n with hall | ⟨k, hk, hpre, hat⟩
  · obtain ⟨A', cap', e, hT⟩ := ho.tab
    injection e with e1 e2 e3
    subst e1 e3
    refine (delNone_c _ A n cap F kn bk w hT (Nat.le_refl _) hn hb hall).mono ?_
    rintro e w' ⟨rfl, b⟩
    have hs := selL_all hall
    have hl : (selL F kn n).length = n := by rw [hs]; simp
    refine ⟨A, cap, by rw [hl], ?_, b.mono hbase⟩
    rw [hl, hs]
    exact (ho.below b).congr fun i hi j _ => (pickF_range hi).symm
  · obtain ⟨A', cap', e, ⟨_, h0, _⟩ | ⟨g, hA, h1, h2, h3, f, h4, h5⟩⟩ := ho
    · omega
    · injection e with e1 e2 e3
      subst e1 e3 hA
      refine (delSome_c g n cap F kn bk k w hn h2 h3 f h4 h5 hb (by omega) hk hpre hat).mono ?_
      rintro e w' ⟨rfl, ⟨f', p1, p2⟩, hg⟩
      have hl := selL_len F kn n
      exact ⟨_, cap, rfl, ⟨_, cap, rfl, .inr ⟨g, rfl, h1, by omega, h3, f', p1, p2⟩⟩, (Below.refl _ _).grown hg hbase (fun j hj => by cases hj; exact h1)⟩

set_option maxHeartbeats 2000000 in
theorem implStoreAsOf_c (L : Nat) (A : Option Addr) (n cap : Nat) (F : Nat → Nat → Int) (kn : Int) (w : World) (h1 : Tab 5 w L A n F) (hL : L ≤ w.heap.size) (hn : n ≤ 1048577) :
    Calls Try.prog 32 #[.agg #[.slice A n cap], .int .i64 kn] w (BoxAs F kn n w) := by
  have l0 : Below w.heap.size w (((w.alloc (.cells #[.slice A n cap] 38)).alloc (.cells #[.int .i64 kn] 3)).alloc (.cells #[.slice none 0 0] 38)) := andAlloc (andAlloc (andAlloc (Below.refl _ _) _) _) _
  have HC := Lib.hid (cloneFact_c L A n cap F _ (h1.keep (l0.mono hL)) (by simp; omega) hn)
  clear h1
  go_enter Try.func32, Try.ntmps32
  go_wp2_with fail
  refine HC.out.mono ?_
  rintro e w1 ⟨A', cap', rfl, o1, b1⟩
  have e1 : w1.cell? ⟨w.heap.size + 1, 0, none⟩ = some (.int .i64 kn) := cell_later b1 (by go_simp)
  have e2 : w1.cell? ⟨w.heap.size + 1 + 1, 0, none⟩ = some (.slice none 0 0) := cell_later b1 (by go_simp)
  have f2 : w1.frozen? ⟨w.heap.size + 1 + 1, 0, none⟩ = false := (b1.frozen (by simp)).trans (by go_simp)
  have l1 := andThen l0 b1
  have hz : w.heap.size + 1 + 1 < w1.heap.size := by have := b1.size; simp at this; omega
  have o1 : OwnV 5 54 w1 (w.heap.size + 1 + 1 + 1) (.slice A' n cap') n F := by simpa using o1
  clear b1 l0
  go_wp2_with fail
  refine (del_c A' n cap' F kn (w.heap.size + 1) (w.heap.size + 1 + 1 + 1) _ hn o1 e1 (by omega) (by omega)).mono ?_
  rintro e w2 ⟨A2, c2, rfl, o2, b2⟩
  have e3 := (b2.cell (p := ⟨w.heap.size + 1 + 1, 0, none⟩) (by show w.heap.size + 1 + 1 < _; omega)).trans e2
  have f3 := (b2.frozen (p := ⟨w.heap.size + 1 + 1, 0, none⟩) (by show w.heap.size + 1 + 1 < _; omega)).trans f2
  have l2 := Below.trans l1 (b2.mono (by omega))
  have HO := Lib.hid ((o2.set (p := ⟨w.heap.size + 1 + 1, 0, none⟩) (by show w.heap.size + 1 + 1 < _; omega) (.slice A2 (selL F kn n).length c2)).more (b := w.heap.size) (by omega))
  have r0 : (w2.setCell ⟨w.heap.size + 1 + 1, 0, none⟩ (.slice A2 (selL F kn n).length c2)).cell? ⟨w.heap.size + 1 + 1, 0, none⟩ = some (.slice A2 (selL F kn n).length c2) := World.cell?_setCell_same' _ _ _ (by rw [e3]; rfl)
  clear b2 o2 o1 e1 e2 f2 l1
  go_wp2_with fail
  refine bodyPost_ret (v := .agg #[.slice A2 (selL F kn n).length c2]) (by simp [results, Try.results32, go_sem, r0]) rfl ?_
  exact ⟨A2, c2, rfl, HO.out, below_put l2 (by omega) _ _⟩

end Go.Proofs.Ytmehfclhmbhjaaa
