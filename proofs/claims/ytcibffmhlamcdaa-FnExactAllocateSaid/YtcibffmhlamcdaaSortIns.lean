/-
  slices.insertionSortCmpFunc at int with impl.Allocate's comparison: a window of the call's own row is put in order. Conditions: the comparison answers in every world that differs in the row alone.
-/
import Derived.Test.YtcibffmhlamcdaaSortPlain
import Derived.BigRegion
import Derived.BigQuiet
namespace Go.Proofs.Ytcibffmhlamcdaa
open Go.RowKit
set_option linter.unusedVariables false
set_option maxRecDepth 4000

/-- The first n of block g's N cells are the numbers h. -/
def NumR (w : World) (g N n : Nat) (h : Nat → Int) : Prop := ∃ f, OwnC 3 w g N f ∧ n ≤ N ∧ ∀ i, i < n → f i = .int .i64 (h i)
theorem NumR.cell {w : World} {g N n : Nat} {d : Nat → Int} (h : NumR w g N n d) {i : Nat} (hi : i < n) : w.cell? ⟨g, i, none⟩ = some (.int .i64 (d i)) := by
  obtain ⟨f, h1, h2, h3⟩ := h
  rw [h1.cell i (by omega), h3 i hi]
theorem NumR.frozen {w : World} {g N n : Nat} {d : Nat → Int} (h : NumR w g N n d) (i : Nat) : w.frozen? ⟨g, i, none⟩ = false := by
  obtain ⟨f, h1, _⟩ := h
  exact h1.frozen i
theorem NumR.drewN {w : World} {g N n : Nat} {d : Nat → Int} (h : NumR w g N n d) (k : Nat) : NumR (w.drewN k) g N n d := h
theorem NumR.put {w : World} {g N n : Nat} {d : Nat → Int} (h : NumR w g N n d) (i : Nat) (x : Int) : NumR (w.setCell ⟨g, i, none⟩ (.int .i64 x)) g N n (fun p => if p = i then x else d p) := by
  obtain ⟨f, h1, h2, h3⟩ := h
  refine ⟨_, h1.set i (.int .i64 x), h2, fun p hp => ?_⟩
  by_cases e : p = i
  · simp [e]
  · simp [e, h3 p hp]
theorem NumR.congr {w : World} {g N n : Nat} {d d' : Nat → Int} (h : NumR w g N n d) (he : ∀ i, i < n → d i = d' i) : NumR w g N n d' := by
  obtain ⟨f, h1, h2, h3⟩ := h
  exact ⟨f, h1, h2, fun p hp => by rw [h3 p hp, he p hp]⟩
theorem NumR.grown {w w' : World} {g g' N n : Nat} {d : Nat → Int} (h : NumR w g N n d) (hg : w.grownBy w' (some g')) (hne : g ≠ g') : NumR w' g N n d := by
  obtain ⟨f, h1, h2⟩ := h
  exact ⟨f, h1.grown hg (fun e => hne (Option.some.inj e)), h2⟩
theorem NumR.far {w : World} {g N n : Nat} {d : Nat → Int} (h : NumR w g N n d) {p : Addr} (hp : g ≠ p.block) (u : Value) : NumR (w.setCell p u) g N n d := by
  obtain ⟨f, h1, h2⟩ := h
  exact ⟨f, h1.far hp u, h2⟩
/-- The first n of block g's N cells are whole numbers. -/
def IntR (w : World) (g N n : Nat) (d : Nat → Nat) : Prop := NumR w g N n fun i => (d i : Int)
theorem IntR.cell {w : World} {g N n : Nat} {d : Nat → Nat} (h : IntR w g N n d) {i : Nat} (hi : i < n) : w.cell? ⟨g, i, none⟩ = some (.int .i64 (d i : Int)) := NumR.cell h hi
theorem IntR.frozen {w : World} {g N n : Nat} {d : Nat → Nat} (h : IntR w g N n d) (i : Nat) : w.frozen? ⟨g, i, none⟩ = false := NumR.frozen h i
theorem IntR.drewN {w : World} {g N n : Nat} {d : Nat → Nat} (h : IntR w g N n d) (k : Nat) : IntR (w.drewN k) g N n d := NumR.drewN h k
theorem IntR.swap {w : World} {g N n : Nat} {d : Nat → Nat} (h : IntR w g N n d) (i j : Nat) : IntR ((w.setCell ⟨g, i, none⟩ (.int .i64 (d j : Int))).setCell ⟨g, j, none⟩ (.int .i64 (d i : Int))) g N n (swp d i j) :=
  NumR.congr (NumR.put (NumR.put h i (d j : Int)) j (d i : Int)) fun x _ => by
    unfold swp
    by_cases e1 : x = j
    · simp [e1]
    · by_cases e2 : x = i
      · have e3 : ¬ i = j := fun e => e1 (e2.trans e)
        simp [e2, e3]
      · simp [e1, e2]
/-- The comparison answers by the key, in every world that differs from w in block g alone. -/
def CmpOk (w : World) (g n : Nat) (key : Nat → Int) (c0 c1 c2 : Value) : Prop := ∀ w', w.grownBy w' (some g) → ∀ x y : Nat, x < n → y < n →
  Calls Try.prog 22 #[.int .i64 x, .int .i64 y, c0, c1, c2] w' fun e w'' => e = .returned (.int .i64 (cmpOf (key y) (key x))) ∧ Drw w' w''
theorem CmpOk.keep {w w1 : World} {g n : Nat} {key : Nat → Int} {c0 c1 c2 : Value} (h : CmpOk w g n key c0 c1 c2) (hg : w.grownBy w1 (some g)) : CmpOk w1 g n key c0 c1 c2 :=
  fun w' h' => h w' (only_trans hg h')

set_option maxHeartbeats 4000000 in
theorem insertion_c (key : Nat → Int) (g N n cap a b : Nat) (d : Nat → Nat) (c0 c1 c2 : Value) (w : World) (hr : IntR w g N n d) (hd : ∀ p, p < n → d p < n) (hC : CmpOk w g n key c0 c1 c2) (hss : SS key d a b) (hab : a ≤ b) (hb : b ≤ n) (hn : n ≤ 40) :
    Calls Try.prog 34 #[.slice (some ⟨g, 0, none⟩) n cap, .int .i64 a, .int .i64 b, .func (.func 22) #[] #[c0, c1, c2]] w fun e w' =>
      e = .returned (.tuple #[]) ∧ ∃ d', IntR w' g N n d' ∧ WP a b d d' ∧ SR key d' a b ∧ w.grownBy w' (some g) := by
  have HR := Lib.hid hr
  have HD := Lib.hid hd
  have HC := Lib.hid hC
  have HS := Lib.hid hss
  clear hr hd hC hss
  go_enter Try.func34, Try.ntmps34
  go_wp2_with fail
  go_loopw [8] (fun z wr => ∃ (i : Nat) (d1 : Nat → Nat), z = .int .i64 (i : Int) ∧ a < i ∧ i ≤ b + 1 ∧ Hid (IntR wr g N n d1) ∧ Hid (WP a b d d1) ∧ Hid (SR key d1 a i) ∧ Hid (SS key d1 a b) ∧ Hid (w.grownBy wr (some g))) (fun z _ => b + 1 - (intOf z).toNat)
  case atStart => exact ⟨a + 1, d, by go_num, by omega, by omega, HR, WP.refl _ _ _, (show SR key d a (a + 1) from fun p q h1 h2 h3 => by omega), HS, World.grownBy.refl _ _⟩
  case round =>
    obtain ⟨i, d1, rfl, hai, hib, HR1, HW1, HO1, HS1, HG1⟩ := hrel
    by_cases hlt : i < b
    · have i1 : (i : Int) < (b : Int) := by omega
      go_wp2_with fail
      go_loopw [9] (fun z wi => ∃ (j : Nat) (dj : Nat → Nat), z = .int .i64 (j : Int) ∧ a ≤ j ∧ j ≤ i ∧ Hid (IntR wi g N n dj) ∧ Hid (WP a b d dj) ∧ Hid (InsB key dj a j i) ∧ Hid (SS key dj a b) ∧ Hid (w.grownBy wi (some g))) (fun z _ => (intOf z).toNat)
      case atStart => exact ⟨i, d1, rfl, by omega, by omega, HR1, HW1, insB_start HO1.out, HS1, HG1⟩
      case round =>
        clear HR1 HW1 HO1 HS1 HG1 HR HS
        obtain ⟨j, dj, rfl, haj, hji, HRj, HWj, HIj, HSj, HGj⟩ := hrel
        by_cases hja : a < j
        · obtain ⟨jp, rfl⟩ : ∃ q, j = q + 1 := ⟨j - 1, by omega⟩
          have ea : ((jp : Int) + 1).toNat = jp + 1 := by omega
          have ga : decide ((jp : Int) + 1 > (a : Int)) = true := decide_eq_true (by omega)
          have ga' : (a : Int) < (jp : Int) + 1 := by omega
          have p0 : (0 : Int) ≤ (jp : Int) := by omega
          have p1 : (jp : Int) < (n : Int) := by omega
          have p2 : (jp : Int) + 1 < (n : Int) := by omega
          have e1 := HRj.out.cell (i := jp + 1) (by omega)
          have e0 := HRj.out.cell (i := jp) (by omega)
          have f1 := HRj.out.frozen (jp + 1)
          have f0 := HRj.out.frozen jp
          have HLT := Lib.hid (HWj.out.lt hb HD.out)
          have HQ := Lib.hid (fun k => HC.out (wr.drewN k) (only_drewN HGj.out k) (dj (jp + 1)) (dj jp) (HLT.out _ (by omega)) (HLT.out _ (by omega)))
          have HSW := Lib.hid (fun k => (HRj.out.drewN k).swap (jp + 1) jp)
          have HGW := Lib.hid (fun k u v => only_setCell (only_setCell (only_drewN HGj.out k) (p := ⟨g, jp + 1, none⟩) (Or.inl rfl) u) (p := ⟨g, jp, none⟩) (Or.inl rfl) v)
          have hiff := cmpOf_neg (key (dj jp)) (key (dj (jp + 1)))
          by_cases hk : key (dj jp) < key (dj (jp + 1))
          · have HI2 := Lib.hid (insB_step HIj.out (by omega) hk)
            have HS2 := Lib.hid (ss_swp HSj.out (by omega) (by omega) hk)
            have HW2 := Lib.hid (HWj.out.trans (WP.swp dj (i := jp + 1) (j := jp) ⟨by omega, by omega⟩ ⟨by omega, by omega⟩))
            have hc := hiff.2 hk
            clear HRj HWj HIj HSj HLT hiff hk
            generalize cmpOf (key (dj jp)) (key (dj (jp + 1))) = c at *
            have hcd : decide (c < 0) = true := decide_eq_true hc
            go_wp2_with fail
            go_quiet ((go_at_call 22; exact q_drw (HQ.out _)))
            go_wp2_with fail
            go_region
            go_wp2_with fail
            go_roundw
            case rel => exact ⟨jp, _, by go_num, by omega, by omega, HSW.out _, HW2, HI2, HS2, HGW.out _ _ _⟩
            case measure => simp [intOf] <;> omega
          · have HO2 := Lib.hid (insB_end HIj.out HSj.out hlt hji (.inr ⟨by omega, hk⟩))
            have HR2 := Lib.hid (fun k => HRj.out.drewN k)
            have HG2 := Lib.hid (fun k => only_drewN HGj.out k)
            have hc : ¬ cmpOf (key (dj jp)) (key (dj (jp + 1))) < 0 := fun h => hk (hiff.1 h)
            clear HRj HIj HLT hiff hk HSW HGW HGj
            generalize cmpOf (key (dj jp)) (key (dj (jp + 1))) = c at *
            have hcd : decide (c < 0) = false := decide_eq_false hc
            go_wp2_with fail
            go_quiet ((go_at_call 22; exact q_drw (HQ.out _)))
            go_wp2_with fail
            go_roundw
            case rel => exact ⟨i + 1, dj, by go_num, by omega, by omega, HR2.out _, HWj, HO2, HSj, HG2.out _⟩
            case measure => simp [intOf] <;> omega
        · have HO2 := Lib.hid (insB_end HIj.out HSj.out hlt hji (.inl (by omega)))
          have HR2 := Lib.hid (fun k => HRj.out.drewN k)
          have HG2 := Lib.hid (fun k => only_drewN HGj.out k)
          have ga : decide ((j : Int) > (a : Int)) = false := decide_eq_false (by omega)
          have ga' : ¬ (a : Int) < (j : Int) := by omega
          clear HRj HIj HGj
          go_wp2_with fail
          go_quiet (fail)
          go_wp2_with fail
          go_roundw
          case rel => exact ⟨i + 1, dj, by go_num, by omega, by omega, HR2.out _, HWj, HO2, HSj, HG2.out _⟩
          case measure => simp [intOf] <;> omega
    · have i1 : ¬ (i : Int) < (b : Int) := by omega
      go_wp2_with fail
      go_end0
      exact ⟨rfl, d1, HR1.out, HW1.out, fun p q h1 h2 h3 => HO1.out p q h1 h2 (by omega), HG1.out⟩

end Go.Proofs.Ytcibffmhlamcdaa
