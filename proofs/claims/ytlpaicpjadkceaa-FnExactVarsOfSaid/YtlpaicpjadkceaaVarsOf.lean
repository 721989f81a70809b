/-
  VarsOf of both packages computes one plain run over two rows of bools; rows of bools: eqBoolS, markBoolS, heldBoolS; markNodeS. Conditions: the nodes can be read.
-/
import Derived.Test.YtlpaicpjadkceaaFormulaOk
import Derived.Test.YtlpaicpjadkceaaInts
import Derived.Test.YtlpaicpjadkceaaLater
import Derived.Deep.DeepCutAuto
namespace Go.Proofs.Ytlpaicpjadkceaa
open Go.RowKit
set_option linter.unusedVariables false
set_option maxRecDepth 4000

theorem info_bool : (Try.prog.info? 4).map (fun i => (i.zero, i.size, i.bytes)) = some (some (.bool false), 1, 1) := by kernel_rfl
/-- Block g is N bools. -/
def BRow (w : World) (g N : Nat) (S : Nat → Bool) : Prop := OwnC 4 w g N fun i => .bool (S i)
theorem BRow.cell {w : World} {g N : Nat} {S : Nat → Bool} (h : BRow w g N S) {i : Nat} (hi : i < N) : w.cell? ⟨g, i, none⟩ = some (.bool (S i)) := OwnC.cell h i hi
theorem BRow.frozen {w : World} {g N : Nat} {S : Nat → Bool} (h : BRow w g N S) (i : Nat) : w.frozen? ⟨g, i, none⟩ = false := OwnC.frozen h i
theorem BRow.later {w w' : World} {g N : Nat} {S : Nat → Bool} (h : BRow w g N S) (hb : Below w.heap.size w w') : BRow w' g N S := OwnC.later h hb
theorem BRow.lt {w : World} {g N : Nat} {S : Nat → Bool} (h : BRow w g N S) : g < w.heap.size := OwnC.lt h
def setB (S : Nat → Bool) (k : Nat) : Nat → Bool := fun x => if x = k then true else S x
def putB (S : Nat → Bool) (k : Nat) (b : Bool) : Nat → Bool := fun x => if x = k then b else S x
theorem BRow.put {w : World} {g N : Nat} {S : Nat → Bool} (h : BRow w g N S) (i : Nat) (b : Bool) : BRow (w.setCell ⟨g, i, none⟩ (.bool b)) g N (putB S i b) :=
  OwnC.congr (OwnC.set h i (.bool b)) fun x _ => by
    unfold putB
    by_cases e : x = i <;> simp [e]
theorem BRow.set {w : World} {g N : Nat} {S : Nat → Bool} (h : BRow w g N S) (i : Nat) : BRow (w.setCell ⟨g, i, none⟩ (.bool true)) g N (setB S i) := h.put i true
theorem BRow.far {w : World} {g N : Nat} {S : Nat → Bool} (h : BRow w g N S) {p : Addr} (hp : g ≠ p.block) (u : Value) : BRow (w.setCell p u) g N S := OwnC.far h hp u
theorem BRow.alloc {w : World} {g N : Nat} {S : Nat → Bool} (h : BRow w g N S) (o : Obj) : BRow (w.alloc o) g N S := OwnC.alloc h o
theorem made_bools (n : Nat) : (madeCells #[Value.bool false] n).toList = List.replicate n (Value.bool false) := by
  simp [madeCells, Nat.mod_one, List.map_const']
theorem bRow_made {w : World} {base g n : Nat} (h : w.ownsRow base 4 1 (.slice (some ⟨g, 0, none⟩) n n) n (madeCells #[Value.bool false] n).toList) : BRow w g n (fun _ => false) := by
  rw [made_bools] at h
  obtain ⟨f, h1, h2⟩ := ownC_of_owns h
  rw [Nat.mul_one] at h1 h2
  exact h1.congr fun i hi => by
    have := h2 i hi
    rw [List.getElem?_eq_getElem (by simpa using hi), List.getElem_replicate] at this
    exact (Option.some.inj this).symm

/-- The operands of a node. -/
def opsB (k a b c : Int) : List Int := if (k == 9) = true then [a, b, c] else if inB k 3 8 = true then [a, b] else []
def setAll (S : Nat → Bool) (l : List Int) : Nat → Bool := l.foldl (fun S x => setB S x.toNat) S
def vStep (F : Nat → Nat → Int) (i : Nat) (st : (Nat → Bool) × (Nat → Bool)) : (Nat → Bool) × (Nat → Bool) :=
  if st.1 i = true then (setAll st.1 (opsB (F i 0) (F i 1) (F i 2) (F i 3)), if (F i 0 == 2) = true then setB st.2 (F i 1).toNat else st.2) else st
def vRun (F : Nat → Nat → Int) : Nat → (Nat → Bool) × (Nat → Bool) → (Nat → Bool) × (Nat → Bool)
  | 0, st => st
  | k + 1, st => vRun F k (vStep F k st)
def varsO (n : Nat) (F : Nat → Nat → Int) : Nat → Bool := (vRun F n (setB (fun _ => false) (n - 1), fun _ => false)).2

theorem nodeB_yes {k a b c n d t : Int} (h : nodeB k a b c n d t = true) :
    k = 1 ∨ (k = 2 ∧ 0 ≤ a ∧ a ≤ 7) ∨ ((3 ≤ k ∧ k ≤ 8) ∧ (0 ≤ a ∧ a < t) ∧ (0 ≤ b ∧ b < t)) ∨ (k = 9 ∧ (0 ≤ a ∧ a < t) ∧ (0 ≤ b ∧ b < t) ∧ (0 ≤ c ∧ c < t)) := by
  unfold nodeB at h
  split at h
  case isTrue e => exact .inl (by simpa using e)
  split at h
  case isTrue e => cases h
  split at h
  case isTrue e =>
    rw [Bool.and_eq_true] at h
    have := inB_iff.1 h.1
    exact .inr (.inl ⟨by simpa using e, this.1, this.2⟩)
  split at h
  case isTrue e =>
    have := inB_iff.1 e
    simp [ltB] at h
    exact .inr (.inr (.inl ⟨this, h.1.1, h.1.2⟩))
  simp [ltB] at h
  exact .inr (.inr (.inr ⟨h.1, h.2.1, h.2.2.1, h.2.2.2⟩))

/-- A row of the numbers zs in a block from base on. -/
def IRow (w : World) (base : Nat) (A : Option Addr) (zs : List Int) : Prop := 0 < zs.length → ∃ g, A = some ⟨g, 0, none⟩ ∧ base ≤ g ∧ OwnC 3 w g zs.length fun i => .int .i64 (zs.getD i 0)
theorem IRow.far {w : World} {base : Nat} {A : Option Addr} {zs : List Int} (h : IRow w base A zs) {p : Addr} (hp : p.block < base) (u : Value) : IRow (w.setCell p u) base A zs := fun h0 => by
  obtain ⟨g, e1, e2, e3⟩ := h h0
  exact ⟨g, e1, e2, e3.far (by omega) u⟩
theorem iRow_nil {w : World} {base : Nat} {A : Option Addr} : IRow w base A [] := fun h => absurd h (Nat.lt_irrefl 0)
/-- What operands leaves: a row of the numbers zs. -/
def GotInts (zs : List Int) (w : World) (e : Ending) (w' : World) : Prop := ∃ (A : Option Addr) (cap : Nat), e = .returned (.slice A zs.length cap) ∧ IRow w' w.heap.size A zs ∧ Below w.heap.size w w'
theorem got_lit {w0 w : World} {zs : List Int} {g : Nat} (hg : g = w.heap.size) (hb : Below w0.heap.size w0 w) :
    GotInts zs w0 (.returned (.slice (some ⟨g, 0, none⟩) zs.length zs.length)) (w.alloc (.cells (zs.map (Value.int .i64)).toArray 3)) := by
  subst hg
  refine ⟨_, _, rfl, fun _ => ⟨_, rfl, hb.size, _, Blk.new _ _ _, by simp, fun i hi => ?_⟩, hb.alloc hb.size _⟩
  simp [List.getElem?_eq_getElem hi]
set_option maxHeartbeats 1000000 in
theorem operands_c (k a b c n d : Int) (w : World) :
    Calls Try.prog 79 #[.agg #[.int .i64 k, .int .i64 a, .int .i64 b, .int .i64 c, .int .i64 n, .int .i64 d]] w (GotInts (opsB k a b c) w) := by
  by_cases h9 : k = 9
  · subst h9
    go_enter Try.func79, Try.ntmps79
    go_wp2
    go_ret
    exact got_lit (zs := [a, b, c]) (by simp) ((Below.refl _ _).alloc (Nat.le_refl _) _)
  · have e9 : (k == 9) = false := by simpa using h9
    cases h3 : inB k 3 8
    · have HO : Hid (opsB k a b c = []) := by show _ = _; unfold opsB; rw [e9, h3]; rfl
      go_enter Try.func79, Try.ntmps79
      go_wp2_with (go_at_call 60; refine (within_c _ _ _ _).mono ?_; rintro e w' ⟨rfl, rfl⟩; rw [h3])
      go_ret
      rw [HO.out]
      exact ⟨none, 0, rfl, iRow_nil, (Below.refl _ _).alloc (Nat.le_refl _) _⟩
    · have HO : Hid (opsB k a b c = [a, b]) := by show _ = _; unfold opsB; rw [e9, h3]; rfl
      go_enter Try.func79, Try.ntmps79
      go_wp2_with (go_at_call 60; refine (within_c _ _ _ _).mono ?_; rintro e w' ⟨rfl, rfl⟩; rw [h3])
      go_ret
      rw [HO.out]
      exact got_lit (zs := [a, b]) (by simp) ((Below.refl _ _).alloc (Nat.le_refl _) _)

theorem ops_in {n j : Nat} {F : Nat → Nat → Int} (h : formulaB n F = true) (hj : j < n) : ∀ x ∈ opsB (F j 0) (F j 1) (F j 2) (F j 3), 0 ≤ x ∧ x < (j : Int) := by
  have h1 := formulaB_at h hj
  unfold ndB at h1
  intro x hx
  rcases nodeB_yes h1 with e | ⟨e, _⟩ | ⟨e, f1, f2⟩ | ⟨e, f1, f2, f3⟩
  · unfold opsB at hx; rw [e] at hx; cases hx
  · unfold opsB at hx; rw [e] at hx; cases hx
  · unfold opsB at hx
    rw [if_neg (by simp; omega), if_pos (inB_true e.1 e.2)] at hx
    simp at hx
    rcases hx with rfl | rfl <;> assumption
  · unfold opsB at hx
    rw [e] at hx
    simp at hx
    rcases hx with rfl | rfl | rfl <;> assumption
theorem var_in {n j : Nat} {F : Nat → Nat → Int} (h : formulaB n F = true) (hj : j < n) (h2 : F j 0 = 2) : 0 ≤ F j 1 ∧ F j 1 ≤ 7 := by
  have h1 := formulaB_at h hj
  unfold ndB at h1
  rcases nodeB_yes h1 with e | ⟨e, f⟩ | ⟨e, f1, f2⟩ | ⟨e, f1, f2, f3⟩ <;> first | exact f | omega
theorem ops_len (k a b c : Int) : (opsB k a b c).length ≤ 3 := by
  unfold opsB
  split
  · simp
  · split <;> simp
theorem setAll_step {S T : Nat → Bool} {zs : List Int} {q : Nat} {x : Nat} (hq : q < zs.length) (hx : zs.getD q 0 = (x : Int)) (h : setAll S (zs.drop q) = T) : setAll (setB S x) (zs.drop (q + 1)) = T := by
  rw [List.drop_eq_getElem_cons hq] at h
  rw [← h]
  rw [List.getD_eq_getElem?_getD, List.getElem?_eq_getElem hq] at hx
  simp only [Option.getD_some] at hx
  unfold setAll
  rw [List.foldl_cons, hx]
  rfl
theorem getD_mem {zs : List Int} {q : Nat} (hq : q < zs.length) : zs.getD q 0 ∈ zs := by
  rw [List.getD_eq_getElem?_getD, List.getElem?_eq_getElem hq]
  exact List.getElem_mem hq

theorem vRun_no {F : Nat → Nat → Int} {k : Nat} {S O : Nat → Bool} (h : S k = false) : vRun F (k + 1) (S, O) = vRun F k (S, O) := by
  show vRun F k (vStep F k (S, O)) = _
  unfold vStep
  rw [if_neg (by simp [h])]
theorem vRun_yes {F : Nat → Nat → Int} {k : Nat} {S O : Nat → Bool} (h : S k = true) :
    vRun F (k + 1) (S, O) = vRun F k (setAll S (opsB (F k 0) (F k 1) (F k 2) (F k 3)), if (F k 0 == 2) = true then setB O (F k 1).toNat else O) := by
  show vRun F k (vStep F k (S, O)) = _
  unfold vStep
  rw [if_pos h]

/-- What VarsOf leaves: nothing if the nodes are no formula, else a new row of 8 bools. -/
def VarsEnd (n : Nat) (F : Nat → Nat → Int) (w : World) (e : Ending) (w' : World) : Prop :=
  Below w.heap.size w w' ∧ ((formulaB n F = false ∧ ∃ A, e = .returned (.slice A 0 0)) ∨
    (formulaB n F = true ∧ ∃ g, w.heap.size ≤ g ∧ e = .returned (.slice (some ⟨g, 0, none⟩) 8 8) ∧ BRow w' g 8 (varsO n F)))

set_option maxHeartbeats 2000000 in
theorem implVarsOf_c (L : Nat) (A : Option Addr) (n cap : Nat) (F : Nat → Nat → Int) (w : World) (h1 : Tab 6 w L A n F) (hL : L ≤ w.heap.size) (hn : n ≤ 1048577) :
    Calls Try.prog 48 #[.slice A n cap] w (VarsEnd n F w) := by
  have H1 := Lib.hid h1
  clear h1
  cases hok : formulaB n F
  · have HC := Lib.hid (implFormulaOk_c L A n cap F w H1.out hL hn)
    rw [hok] at HC
    have HOK := Lib.hid hok
    clear hok
    go_enter Try.func48, Try.ntmps48
    go_wp2_with (go_at_call 45; refine HC.out.mono ?_; rintro e w1 ⟨rfl, b1⟩)
    go_ret
    exact ⟨b1, .inl ⟨HOK.out, _, rfl⟩⟩
  · have HC := Lib.hid (implFormulaOk_c L A n cap F w H1.out hL hn)
    rw [hok] at HC
    obtain ⟨n0, n1⟩ := formulaB_len hok
    have HOK := Lib.hid hok
    clear hok
    obtain ⟨i0, hi, hz0, hz1, hz2⟩ := info_parts info_bool
    go_enter Try.func48, Try.ntmps48
    go_upto_region 3 with (go_at_call 45; refine HC.out.mono ?_; rintro e w1 ⟨rfl, b1⟩)
    go_wp2_with (at_make; refine wpList_make_full _ rfl _ _ 80 rfl w1.heap.size 4 i0 (.bool false) 1 Try.underlying80 hi hz0 hz1 .i64 .i64 _ _ 8 rfl rfl rfl rfl (by rw [hz2]; omega) (by unfold maxLen; omega) (Nat.le_refl _) ?_)
    intro w2 hown hg
    have hO := bRow_made hown
    have b2 : Below w.heap.size w w2 := b1.grown hg b1.size (fun j hj => by cases hj)
    have hz12 := Lib.hid b1.size
    obtain ⟨gO, hgO⟩ : ∃ gO, w1.heap.size = gO := ⟨_, rfl⟩
    rw [hgO] at hO hz12 ⊢
    clear hown hg b1
    go_wp2_with (at_make; refine wpList_make_full _ rfl _ _ 80 rfl w2.heap.size 4 i0 (.bool false) 1 Try.underlying80 hi hz0 hz1 .i64 .i64 _ _ n rfl rfl rfl rfl (by rw [hz2]; omega) (by unfold maxLen; omega) (Nat.le_refl _) ?_)
    intro w3 hown hg
    have hN := bRow_made hown
    have b3' : Below w2.heap.size w2 w3 := (Below.refl _ _).grown hg (Nat.le_refl _) (fun j hj => by cases hj)
    have b3 := b2.trans (b3'.mono b2.size)
    have hO3 := hO.later b3'
    have hne : gO ≠ w2.heap.size := fun e => by have := hO.lt; omega
    have hz23 : Hid (w.heap.size ≤ w2.heap.size) := b2.size
    obtain ⟨gN, hgN⟩ : ∃ gN, w2.heap.size = gN := ⟨_, rfl⟩
    rw [hgN] at hN hne hz23 ⊢
    obtain ⟨m, hm⟩ : ∃ m : Nat, (n : Int) - 1 = (m : Int) := ⟨n - 1, by omega⟩
    have HM : Hid (m + 1 = n) := by show _ = _; omega
    have hcN := hN.cell (i := m) (by omega)
    have hfN := hN.frozen m
    have m0 : (0 : Int) ≤ (m : Int) := by omega
    have m1 : (m : Int) < (n : Int) := by omega
    have HV : Hid (varsO n F = (vRun F (m + 1) (setB (fun _ => false) m, fun _ => false)).2) := by
      show _ = _
      unfold varsO
      rw [← HM.out]
      rfl
    generalize hFIN : vRun F (m + 1) (setB (fun _ => false) m, fun _ => false) = FIN at HV
    have HFIN := Lib.hid hFIN
    have HO3 := Lib.hid (hO3.far (p := ⟨gN, m, none⟩) hne (.bool true))
    have HN3 := Lib.hid (hN.set m)
    have B3 := Lib.hid (andSet b3 (p := ⟨gN, m, none⟩) hz23.out (.bool true))
    clear hown hg hz0 hz1 hz2 hi hFIN hO hO3 hN b2 b3 b3' hgO hgN
    go_wp2_with fail
    clear hcN hfN
    go_loopw [5] (fun i wr => ∃ (z : Int) (k : Nat) (S O : Nat → Bool), Hid ((k : Int) = z + 1) ∧ k ≤ n ∧ i = .int .i64 z ∧ Hid (vRun F k (S, O) = FIN) ∧ Hid (BRow wr gO 8 O) ∧ Hid (BRow wr gN n S) ∧ Hid (Below w.heap.size w wr)) (fun i _ => (intOf i + 1).toNat)
    case atStart => exact ⟨(m : Int), m + 1, _, _, (show ((m + 1 : Nat) : Int) = (m : Int) + 1 by omega), by have := HM.out; omega, rfl, HFIN, HO3, HN3, B3⟩
    case round =>
      clear HO3 HN3 B3 HFIN HM m0 m1 hm
      obtain ⟨z, k, S, O, hk, hkn, rfl, HR, HO, HN, HB⟩ := hrel
      by_cases hz : 0 ≤ z
      · obtain ⟨j, rfl⟩ := Int.eq_ofNat_of_zero_le hz
        obtain rfl : k = j + 1 := by have := hk.out; omega
        clear hk hz
        have hj : j < n := by omega
        have j0 : (0 : Int) ≤ (j : Int) := by omega
        have j1 : (j : Int) < (n : Int) := by omega
        have cS := HN.out.cell hj
        cases hv : S j
        · have HR0 := Lib.hid ((vRun_no hv).symm.trans HR.out)
          rw [hv] at cS
          clear HR hv
          go_wp2_with fail
          go_roundw
          case rel => exact ⟨(j : Int) - 1, j, S, O, (show (j : Int) = (j : Int) - 1 + 1 by omega), by omega, rfl, HR0, HO, HN, HB⟩
          case measure => simp [intOf] <;> omega
        · have HR1 := Lib.hid ((vRun_yes hv).symm.trans HR.out)
          rw [hv] at cS
          clear HR hv
          have HIN := Lib.hid (ops_in HOK.out hj)
          have HVA := Lib.hid (var_in HOK.out hj)
          obtain ⟨b, off, rfl, hb, ⟨c0, c1, c2, c3, c4, c5⟩, _⟩ := (H1.out.keep (HB.out.mono hL)).at6 hj
          have HOP := Lib.hid (fun w' => operands_c (F j 0) (F j 1) (F j 2) (F j 3) (F j 4) (F j 5) w')
          have hzl := ops_len (F j 0) (F j 1) (F j 2) (F j 3)
          generalize F j 0 = x0 at *
          generalize F j 1 = x1 at *
          generalize F j 2 = x2 at *
          generalize F j 3 = x3 at *
          generalize F j 4 = x4 at *
          generalize F j 5 = x5 at *
          generalize opsB x0 x1 x2 x3 = zs at *
          generalize hST : setAll S zs = ST at HR1
          have HST := Lib.hid hST
          clear hST
          by_cases e2 : x0 = 2
          · obtain ⟨v0, v1⟩ := HVA.out e2
            obtain ⟨a, rfl⟩ := Int.eq_ofNat_of_zero_le v0
            subst e2
            have cO := HO.out.cell (i := a) (by omega)
            have fO := HO.out.frozen a
            have HRA : Hid (vRun F j (ST, setB O a) = FIN) := HR1.out
            have HOA := Lib.hid (HO.out.set a)
            have HNA := Lib.hid (HN.out.far (p := ⟨gO, a, none⟩) (Ne.symm hne) (.bool true))
            have HBA := Lib.hid (andSet HB.out (p := ⟨gO, a, none⟩) hz12.out (.bool true))
            clear HO HN HB HR1 HVA
            have hbo : b ≠ gO := fun e => by have := hz12.out; omega
            go_wp2_with (first | (go_at_call 79; refine (HOP.out _).mono ?_; rintro e w4 ⟨A4, cap4, rfl, hrow, b4⟩) | fail)
            have hN4 := Lib.hid (HNA.out.later b4)
            have hO4 := Lib.hid (HOA.out.later b4)
            have B4 := Lib.hid (HBA.out.trans (b4.mono HBA.out.size))
            have HROW := Lib.hid hrow
            have HLT := Lib.hid HNA.out.lt
            generalize (wr.setCell ⟨gO, a, none⟩ (.bool true)).heap.size = s4 at HROW HLT
            clear hrow b4 HNA HOA HBA
            go_loopw [51] (fun i wi => ∃ (q : Nat) (S' : Nat → Bool), q ≤ zs.length ∧ i = .int .i64 (q : Int) ∧ Hid (setAll S' (zs.drop q) = ST) ∧ Hid (BRow wi gN n S') ∧ Hid (BRow wi gO 8 (setB O a)) ∧ Hid (IRow wi s4 A4 zs) ∧ Hid (Below w.heap.size w wi)) (fun i _ => zs.length - (intOf i).toNat)
            case atStart => exact ⟨0, S, Nat.zero_le _, rfl, HST, hN4, hO4, HROW, B4⟩
            case round =>
              obtain ⟨q, S', hq, rfl, HS', HN', HO', HR', HB'⟩ := hrel
              by_cases hql : q < zs.length
              · obtain ⟨gr, rfl, hgr, hrow⟩ := HR'.out (Nat.lt_of_le_of_lt (Nat.zero_le _) hql)
                have cR := hrow.cell q hql
                have hin := HIN.out _ (getD_mem hql)
                obtain ⟨x, hx⟩ := Int.eq_ofNat_of_zero_le hin.1
                have HS2 := Lib.hid (setAll_step hql hx HS'.out)
                rw [hx] at cR
                have x0 : (0 : Int) ≤ (x : Int) := by omega
                have x1 : (x : Int) < (n : Int) := by rw [hx] at hin; omega
                have q1 : (q : Int) < (zs.length : Int) := by omega
                have cN := HN'.out.cell (i := x) (by omega)
                have fN := HN'.out.frozen x
                have HN2 := Lib.hid (HN'.out.set x)
                have HO2 := Lib.hid (HO'.out.far (p := ⟨gN, x, none⟩) hne (.bool true))
                have HR2 := Lib.hid (HR'.out.far (p := ⟨gN, x, none⟩) HLT.out (.bool true))
                have HB2 := Lib.hid (andSet HB'.out (p := ⟨gN, x, none⟩) hz23.out (.bool true))
                clear HS' HN' HO' HR' HB' hrow hin hx
                go_wp2_with fail
                go_roundw
                case rel => exact ⟨q + 1, _, by omega, by go_num, HS2, HN2, HO2, HR2, HB2⟩
                case measure => simp [intOf] <;> omega
              · obtain rfl : q = zs.length := by omega
                have HE : Hid (S' = ST) := by
                  have := HS'.out
                  rw [List.drop_length] at this
                  exact this
                go_wp2_with fail
                go_roundw
                case rel => exact ⟨(j : Int) - 1, j, _, _, (show (j : Int) = (j : Int) - 1 + 1 by omega), by omega, rfl, HRA, HO', HE.out ▸ HN', HB'⟩
                case measure => simp [intOf] <;> omega
          · have e2' : (x0 == 2) = false := by simpa using e2
            have HRA : Hid (vRun F j (ST, O) = FIN) := by
              have := HR1.out
              rw [e2'] at this
              exact this
            have HOA := HO
            have HNA := HN
            have HBA := HB
            clear HO HN HB HR1 HVA e2'
            go_wp2_with (first | (go_at_call 79; refine (HOP.out _).mono ?_; rintro e w4 ⟨A4, cap4, rfl, hrow, b4⟩) | fail)
            have hN4 := Lib.hid (HNA.out.later b4)
            have hO4 := Lib.hid (HOA.out.later b4)
            have B4 := Lib.hid (HBA.out.trans (b4.mono HBA.out.size))
            have HROW := Lib.hid hrow
            have HLT := Lib.hid HNA.out.lt
            generalize (wr).heap.size = s4 at HROW HLT
            clear hrow b4 HNA HOA HBA
            go_loopw [51] (fun i wi => ∃ (q : Nat) (S' : Nat → Bool), q ≤ zs.length ∧ i = .int .i64 (q : Int) ∧ Hid (setAll S' (zs.drop q) = ST) ∧ Hid (BRow wi gN n S') ∧ Hid (BRow wi gO 8 O) ∧ Hid (IRow wi s4 A4 zs) ∧ Hid (Below w.heap.size w wi)) (fun i _ => zs.length - (intOf i).toNat)
            case atStart => exact ⟨0, S, Nat.zero_le _, rfl, HST, hN4, hO4, HROW, B4⟩
            case round =>
              obtain ⟨q, S', hq, rfl, HS', HN', HO', HR', HB'⟩ := hrel
              by_cases hql : q < zs.length
              · obtain ⟨gr, rfl, hgr, hrow⟩ := HR'.out (Nat.lt_of_le_of_lt (Nat.zero_le _) hql)
                have cR := hrow.cell q hql
                have hin := HIN.out _ (getD_mem hql)
                obtain ⟨x, hx⟩ := Int.eq_ofNat_of_zero_le hin.1
                have HS2 := Lib.hid (setAll_step hql hx HS'.out)
                rw [hx] at cR
                have x0 : (0 : Int) ≤ (x : Int) := by omega
                have x1 : (x : Int) < (n : Int) := by rw [hx] at hin; omega
                have q1 : (q : Int) < (zs.length : Int) := by omega
                have cN := HN'.out.cell (i := x) (by omega)
                have fN := HN'.out.frozen x
                have HN2 := Lib.hid (HN'.out.set x)
                have HO2 := Lib.hid (HO'.out.far (p := ⟨gN, x, none⟩) hne (.bool true))
                have HR2 := Lib.hid (HR'.out.far (p := ⟨gN, x, none⟩) HLT.out (.bool true))
                have HB2 := Lib.hid (andSet HB'.out (p := ⟨gN, x, none⟩) hz23.out (.bool true))
                clear HS' HN' HO' HR' HB' hrow hin hx
                go_wp2_with fail
                go_roundw
                case rel => exact ⟨q + 1, _, by omega, by go_num, HS2, HN2, HO2, HR2, HB2⟩
                case measure => simp [intOf] <;> omega
              · obtain rfl : q = zs.length := by omega
                have HE : Hid (S' = ST) := by
                  have := HS'.out
                  rw [List.drop_length] at this
                  exact this
                go_wp2_with fail
                go_roundw
                case rel => exact ⟨(j : Int) - 1, j, _, _, (show (j : Int) = (j : Int) - 1 + 1 by omega), by omega, rfl, HRA, HO', HE.out ▸ HN', HB'⟩
                case measure => simp [intOf] <;> omega
      · have hk0 := hk.out
        obtain rfl : z = -1 := by omega
        obtain rfl : k = 0 := by omega
        have HE : Hid ((S, O) = FIN) := HR.out
        go_wp2_with fail
        go_ret
        refine ⟨HB.out, .inr ⟨HOK.out, gO, hz12.out, rfl, ?_⟩⟩
        rw [HV.out, ← HE.out]
        exact HO.out

set_option maxHeartbeats 4000000 in
theorem specVarsOf_c (L : Nat) (A : Option Addr) (n cap : Nat) (F : Nat → Nat → Int) (w : World) (h1 : Tab 6 w L A n F) (hL : L ≤ w.heap.size) (hn : n ≤ 1048577) :
    Calls Try.prog 47 #[.slice A n cap] w (VarsEnd n F w) := by
  have H1 := Lib.hid h1
  clear h1
  cases hok : formulaB n F
  · have HC := Lib.hid (specFormulaOk_c L A n cap F w H1.out hL hn)
    rw [hok] at HC
    have HOK := Lib.hid hok
    clear hok
    go_enter Try.func47, Try.ntmps47
    go_wp2_with (go_at_call 43; refine HC.out.mono ?_; rintro e w1 ⟨rfl, b1⟩)
    go_ret
    exact ⟨andAlloc b1 _, .inl ⟨HOK.out, _, rfl⟩⟩
  · have HC := Lib.hid (specFormulaOk_c L A n cap F w H1.out hL hn)
    rw [hok] at HC
    obtain ⟨n0, n1⟩ := formulaB_len hok
    have HOK := Lib.hid hok
    clear hok
    obtain ⟨i0, hi, hz0, hz1, hz2⟩ := info_parts info_bool
    go_enter Try.func47, Try.ntmps47
    go_upto_region 3 with (go_at_call 43; refine HC.out.mono ?_; rintro e w1 ⟨rfl, b1⟩)
    go_wp2_with (at_make; refine wpList_make_full _ rfl _ _ 80 rfl w1.heap.size 4 i0 (.bool false) 1 Try.underlying80 hi hz0 hz1 .i64 .i64 _ _ 8 rfl rfl rfl rfl (by rw [hz2]; omega) (by unfold maxLen; omega) (Nat.le_refl _) ?_)
    intro w2 hown hg
    have hO := bRow_made hown
    have b2 : Below w.heap.size w w2 := b1.grown hg b1.size (fun j hj => by cases hj)
    have hz12 := Lib.hid b1.size
    obtain ⟨gO, hgO⟩ : ∃ gO, w1.heap.size = gO := ⟨_, rfl⟩
    rw [hgO] at hO hz12 ⊢
    clear hown hg b1
    go_wp2_with (at_make; refine wpList_make_full _ rfl _ _ 80 rfl w2.heap.size 4 i0 (.bool false) 1 Try.underlying80 hi hz0 hz1 .i64 .i64 _ _ n rfl rfl rfl rfl (by rw [hz2]; omega) (by unfold maxLen; omega) (Nat.le_refl _) ?_)
    intro w3 hown hg
    have hN := bRow_made hown
    have b3' : Below w2.heap.size w2 w3 := (Below.refl _ _).grown hg (Nat.le_refl _) (fun j hj => by cases hj)
    have b3 := b2.trans (b3'.mono b2.size)
    have hO3 := hO.later b3'
    have hne : gO ≠ w2.heap.size := fun e => by have := hO.lt; omega
    have hz23 : Hid (w.heap.size ≤ w2.heap.size) := b2.size
    obtain ⟨gN, hgN⟩ : ∃ gN, w2.heap.size = gN := ⟨_, rfl⟩
    rw [hgN] at hN hne hz23 ⊢
    obtain ⟨m, hm⟩ : ∃ m : Nat, (n : Int) - 1 = (m : Int) := ⟨n - 1, by omega⟩
    have HM : Hid (m + 1 = n) := by show _ = _; omega
    have hcN := hN.cell (i := m) (by omega)
    have hfN := hN.frozen m
    have m0 : (0 : Int) ≤ (m : Int) := by omega
    have m1 : (m : Int) < (n : Int) := by omega
    have HV : Hid (varsO n F = (vRun F (m + 1) (setB (fun _ => false) m, fun _ => false)).2) := by
      show _ = _
      unfold varsO
      rw [← HM.out]
      rfl
    generalize hFIN : vRun F (m + 1) (setB (fun _ => false) m, fun _ => false) = FIN at HV
    have HFIN := Lib.hid hFIN
    have HO3 := Lib.hid (hO3.far (p := ⟨gN, m, none⟩) hne (.bool true))
    have HN3 := Lib.hid (hN.set m)
    have B3 := Lib.hid (andSet b3 (p := ⟨gN, m, none⟩) hz23.out (.bool true))
    clear hown hg hz0 hz1 hz2 hi hFIN hO hO3 hN b2 b3 b3' hgO hgN
    go_wp2_with fail
    clear hcN hfN
    go_loopw [5] (fun i wr => ∃ (z : Int) (k : Nat) (S O : Nat → Bool), Hid ((k : Int) = z + 1) ∧ k ≤ n ∧ i = .int .i64 z ∧ Hid (vRun F k (S, O) = FIN) ∧ Hid (BRow wr gO 8 O) ∧ Hid (BRow wr gN n S) ∧ Hid (Below w.heap.size w wr)) (fun i _ => (intOf i + 1).toNat)
    case atStart => exact ⟨(m : Int), m + 1, _, _, (show ((m + 1 : Nat) : Int) = (m : Int) + 1 by omega), by have := HM.out; omega, rfl, HFIN, HO3, HN3, B3⟩
    case round =>
      clear HO3 HN3 B3 HFIN HM m0 m1 hm
      obtain ⟨z, k, S, O, hk, hkn, rfl, HR, HO, HN, HB⟩ := hrel
      by_cases hz : 0 ≤ z
      · obtain ⟨j, rfl⟩ := Int.eq_ofNat_of_zero_le hz
        obtain rfl : k = j + 1 := by have := hk.out; omega
        clear hk hz
        have hj : j < n := by omega
        have j0 : (0 : Int) ≤ (j : Int) := by omega
        have j1 : (j : Int) < (n : Int) := by omega
        have cS := HN.out.cell hj
        obtain ⟨b, off, rfl, hb, ⟨c0, c1, c2, c3, c4, c5⟩, _⟩ := (H1.out.keep (HB.out.mono hL)).at6 hj
        have hgN := HN.out.lt
        have hgO := HO.out.lt
        have hNr : ¬ wr.heap.size = gN := by omega
        have hOr : ¬ wr.heap.size = gO := by omega
        have hbr : ¬ wr.heap.size = b := fun e => by have := HB.out.size; omega
        have HK := Lib.hid (nodeB_yes (formulaB_at HOK.out hj))
        have HRY : Hid (S j = true → vRun F j (setAll S (opsB (F j 0) (F j 1) (F j 2) (F j 3)), if (F j 0 == 2) = true then setB O (F j 1).toNat else O) = FIN) := fun hv => (vRun_yes hv).symm.trans HR.out
        clear HC
        generalize F j 0 = x0 at *
        generalize F j 1 = x1 at *
        generalize F j 2 = x2 at *
        generalize F j 3 = x3 at *
        generalize F j 4 = x4 at *
        generalize F j 5 = x5 at *
        cases hv : S j
        · have HR0 := Lib.hid ((vRun_no hv).symm.trans HR.out)
          rw [hv] at cS
          clear HR hv HK HRY
          have HO' := Lib.hid (HO.out.alloc (.cells #[.int .i64 x0, .int .i64 x1, .int .i64 x2, .int .i64 x3, .int .i64 x4, .int .i64 x5] 70))
          have HN' := Lib.hid (HN.out.alloc (.cells #[.int .i64 x0, .int .i64 x1, .int .i64 x2, .int .i64 x3, .int .i64 x4, .int .i64 x5] 70))
          have HB' := Lib.hid (andAlloc HB.out (.cells #[.int .i64 x0, .int .i64 x1, .int .i64 x2, .int .i64 x3, .int .i64 x4, .int .i64 x5] 70))
          clear HO HN HB
          go_wp2_with fail
          exact ⟨⟨(j : Int) - 1, j, _, _, (show (j : Int) = (j : Int) - 1 + 1 by omega), by omega, rfl, HR0, HO', HN', HB'⟩, by simp [intOf] <;> omega⟩
        · replace HRY := Lib.hid (HRY.out hv)
          rw [hv] at cS
          clear HR hv
          rcases HK.out with e | ⟨e, v0, v1⟩ | ⟨e, f1, f2⟩ | ⟨e, f1, f2, f3⟩
          all_goals clear HK
          · subst e
            have HR0 : Hid (vRun F j (S, O) = FIN) := HRY
            have HO' := Lib.hid (HO.out.alloc (.cells #[.int .i64 1, .int .i64 x1, .int .i64 x2, .int .i64 x3, .int .i64 x4, .int .i64 x5] 70))
            have HN' := Lib.hid (HN.out.alloc (.cells #[.int .i64 1, .int .i64 x1, .int .i64 x2, .int .i64 x3, .int .i64 x4, .int .i64 x5] 70))
            have HB' := Lib.hid (andAlloc HB.out (.cells #[.int .i64 1, .int .i64 x1, .int .i64 x2, .int .i64 x3, .int .i64 x4, .int .i64 x5] 70))
            clear HO HN HB HRY
            go_wp2_with fail
            exact ⟨⟨(j : Int) - 1, j, _, _, (show (j : Int) = (j : Int) - 1 + 1 by omega), by omega, rfl, HR0, HO', HN', HB'⟩, by simp [intOf] <;> omega⟩
          · obtain ⟨a, rfl⟩ := Int.eq_ofNat_of_zero_le v0
            subst e
            have HR0 : Hid (vRun F j (S, setB O a) = FIN) := HRY
            have cO := HO.out.cell (i := a) (by omega)
            have fO := HO.out.frozen a
            have HO' := Lib.hid ((HO.out.set a).alloc (.cells #[.int .i64 2, .int .i64 (a : Int), .int .i64 x2, .int .i64 x3, .int .i64 x4, .int .i64 x5] 70))
            have HN' := Lib.hid ((HN.out.far (p := ⟨gO, a, none⟩) (Ne.symm hne) (.bool true)).alloc (.cells #[.int .i64 2, .int .i64 (a : Int), .int .i64 x2, .int .i64 x3, .int .i64 x4, .int .i64 x5] 70))
            have HB' := Lib.hid (andAlloc (andSet HB.out (p := ⟨gO, a, none⟩) hz12.out (.bool true)) (.cells #[.int .i64 2, .int .i64 (a : Int), .int .i64 x2, .int .i64 x3, .int .i64 x4, .int .i64 x5] 70))
            clear HO HN HB HRY
            go_wp2_with fail
            exact ⟨⟨(j : Int) - 1, j, _, _, (show (j : Int) = (j : Int) - 1 + 1 by omega), by omega, rfl, HR0, HO', HN', HB'⟩, by simp [intOf] <;> omega⟩
          · obtain ⟨a, rfl⟩ := Int.eq_ofNat_of_zero_le f1.1
            obtain ⟨b1, rfl⟩ := Int.eq_ofNat_of_zero_le f2.1
            obtain ⟨q0, q1⟩ := e
            have e1 : (x0 == 1) = false := by simp; omega
            have e2 : (x0 == 2) = false := by simp; omega
            have e9 : (x0 == 9) = false := by simp; omega
            have HR0 : Hid (vRun F j (setB (setB S a) b1, O) = FIN) := by
              have := HRY.out
              unfold opsB at this
              rw [e9, inB_true q0 q1, e2] at this
              exact this
            have cNa := HN.out.cell (i := a) (by omega)
            have fNa := HN.out.frozen a
            have cNb1 := (HN.out.set a).cell (i := b1) (by omega)
            have fNb1 := (HN.out.set a).frozen b1
            have ka : (a : Int) < (n : Int) := by omega
            have kb1 : (b1 : Int) < (n : Int) := by omega
            have HO' := Lib.hid (((HO.out.far (p := ⟨gN, a, none⟩) hne (.bool true)).far (p := ⟨gN, b1, none⟩) hne (.bool true)).alloc (.cells #[.int .i64 x0, .int .i64 (a : Int), .int .i64 (b1 : Int), .int .i64 x3, .int .i64 x4, .int .i64 x5] 70))
            have HN' := Lib.hid (((HN.out.set a).set b1).alloc (.cells #[.int .i64 x0, .int .i64 (a : Int), .int .i64 (b1 : Int), .int .i64 x3, .int .i64 x4, .int .i64 x5] 70))
            have HB' := Lib.hid (andAlloc (andSet (andSet HB.out (p := ⟨gN, a, none⟩) hz23.out (.bool true)) (p := ⟨gN, b1, none⟩) hz23.out (.bool true)) (.cells #[.int .i64 x0, .int .i64 (a : Int), .int .i64 (b1 : Int), .int .i64 x3, .int .i64 x4, .int .i64 x5] 70))
            clear HO HN HB HRY
            go_wp2_with fail
            go_roundw
            case rel => exact ⟨(j : Int) - 1, j, _, _, (show (j : Int) = (j : Int) - 1 + 1 by omega), by omega, rfl, HR0, HO', HN', HB'⟩
            case measure => simp [intOf] <;> omega
          · obtain ⟨a, rfl⟩ := Int.eq_ofNat_of_zero_le f1.1
            obtain ⟨b1, rfl⟩ := Int.eq_ofNat_of_zero_le f2.1
            obtain ⟨c1, rfl⟩ := Int.eq_ofNat_of_zero_le f3.1
            subst e
            have HR0 : Hid (vRun F j (setB (setB (setB S a) b1) c1, O) = FIN) := HRY
            have cNa := HN.out.cell (i := a) (by omega)
            have fNa := HN.out.frozen a
            have cNb1 := (HN.out.set a).cell (i := b1) (by omega)
            have fNb1 := (HN.out.set a).frozen b1
            have cNc1 := ((HN.out.set a).set b1).cell (i := c1) (by omega)
            have fNc1 := ((HN.out.set a).set b1).frozen c1
            have ka : (a : Int) < (n : Int) := by omega
            have kb1 : (b1 : Int) < (n : Int) := by omega
            have kc1 : (c1 : Int) < (n : Int) := by omega
            have HO' := Lib.hid ((((HO.out.far (p := ⟨gN, a, none⟩) hne (.bool true)).far (p := ⟨gN, b1, none⟩) hne (.bool true)).far (p := ⟨gN, c1, none⟩) hne (.bool true)).alloc (.cells #[.int .i64 9, .int .i64 (a : Int), .int .i64 (b1 : Int), .int .i64 (c1 : Int), .int .i64 x4, .int .i64 x5] 70))
            have HN' := Lib.hid ((((HN.out.set a).set b1).set c1).alloc (.cells #[.int .i64 9, .int .i64 (a : Int), .int .i64 (b1 : Int), .int .i64 (c1 : Int), .int .i64 x4, .int .i64 x5] 70))
            have HB' := Lib.hid (andAlloc (andSet (andSet (andSet HB.out (p := ⟨gN, a, none⟩) hz23.out (.bool true)) (p := ⟨gN, b1, none⟩) hz23.out (.bool true)) (p := ⟨gN, c1, none⟩) hz23.out (.bool true)) (.cells #[.int .i64 9, .int .i64 (a : Int), .int .i64 (b1 : Int), .int .i64 (c1 : Int), .int .i64 x4, .int .i64 x5] 70))
            clear HO HN HB HRY
            go_wp2_with fail
            go_roundw
            case rel => exact ⟨(j : Int) - 1, j, _, _, (show (j : Int) = (j : Int) - 1 + 1 by omega), by omega, rfl, HR0, HO', HN', HB'⟩
            case measure => simp [intOf] <;> omega
      · have hk0 := hk.out
        obtain rfl : z = -1 := by omega
        obtain rfl : k = 0 := by omega
        have HE : Hid ((S, O) = FIN) := HR.out
        go_wp2_with fail
        go_ret
        refine ⟨HB.out, .inr ⟨HOK.out, gO, hz12.out, rfl, ?_⟩⟩
        rw [HV.out, ← HE.out]
        exact HO.out

end Go.Proofs.Ytlpaicpjadkceaa
