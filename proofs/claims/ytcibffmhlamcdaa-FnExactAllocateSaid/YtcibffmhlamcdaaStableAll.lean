/-
  slices.SortStableFunc at up to 40 numbers: blocks of 20, then one merge. Conditions: as in XSortIns.
-/
import Derived.Test.YtcibffmhlamcdaaMergeC
namespace Go.Proofs.Ytcibffmhlamcdaa
open Go.RowKit
set_option linter.unusedVariables false
set_option maxRecDepth 4000

set_option maxHeartbeats 8000000 in
theorem stable_more {n : Nat} (h20 : 20 ≤ n) (hn : n ≤ 40) : StablesAt n := by
  intro key g N cap d c0 c1 c2 w hr hd hC hss
  have HI1 := Lib.hid (insertion_c key g N n cap 0 20 d c0 c1 c2 w hr hd hC (fun p q h1 h2 h3 => hss p q h1 h2 (by omega)) (by omega) h20 hn)
  have HD := Lib.hid hd
  have HC := Lib.hid hC
  have HSS := Lib.hid hss
  clear hr hd hC hss
  have k0 : (20 : Int) ≤ (n : Int) := by omega
  go_enter Try.func30, Try.ntmps30
  go_wp2_with fail
  refine wp_loop_rounds 3 ?_
  rw [rounds_succ]
  go_wp2_with fail
  refine HI1.out.mono ?_
  rintro e w1 ⟨rfl, d1, r1, wp1, s1, g1⟩
  have ss1 := HSS.out.of wp1 s1 (Nat.zero_le _) h20
  have hd1 := wp1.lt h20 HD.out
  have W1 := Lib.hid (wp1.mono (Nat.le_refl _) h20)
  have SS1 := Lib.hid ss1
  have S1 := Lib.hid s1
  have HD1 := Lib.hid hd1
  have HC1 := Lib.hid (HC.out.keep g1)
  have G1 := Lib.hid g1
  by_cases h40 : n = 40
  · subst h40
    have HI2 := Lib.hid (insertion_c key g N 40 cap 20 40 d1 c0 c1 c2 w1 r1 hd1 HC1.out (fun p q h1 h2 h3 => ss1 p q (by omega) h2 h3) (by omega) (by omega) hn)
    clear r1 wp1 s1 g1 ss1 hd1
    go_wp2_with fail
    rw [rounds_succ]
    go_wp2_with fail
    refine HI2.out.mono ?_
    rintro e w2 ⟨rfl, d2, r2, wp2, s2, g2⟩
    have S2a : Hid (SR key d2 0 20) := S1.out.keep fun p h1 h2 => wp2.out (.inl h2)
    have SS2 := Lib.hid (SS1.out.of wp2 s2 (Nat.zero_le _) (Nat.le_refl _))
    have HD2 := Lib.hid (wp2.lt (Nat.le_refl _) HD1.out)
    have W2 := Lib.hid (W1.out.trans (wp2.mono (Nat.zero_le _) (Nat.le_refl _)))
    have G2 := Lib.hid (only_trans G1.out g2)
    have HC2 := Lib.hid (HC1.out.keep g2)
    have S2b := Lib.hid s2
    have HI3 := Lib.hid (insertion_c key g N 40 cap 40 40 d2 c0 c1 c2 w2 r2 HD2.out HC2.out (fun p q h1 h2 h3 => by omega) (by omega) (by omega) hn)
    clear wp2 s2 g2 r2
    go_wp2_with fail
    rw [rounds_succ]
    go_wp2_with fail
    refine HI3.out.mono ?_
    rintro e w3 ⟨rfl, d3, r3, wp3, s3, g3⟩
    have e3 : d3 = d2 := funext fun p => wp3.out (by omega)
    rw [e3] at r3
    have HM := Lib.hid (symMerge_c key g N 40 cap c0 c1 c2 hn 40 0 20 40 d2 w3 (by omega) (by omega) (by omega) (by omega) r3 HD2.out (HC2.out.keep g3) S2a.out S2b.out (sx_of SS2.out))
    have G3 := Lib.hid (only_trans G2.out g3)
    clear wp3 s3 g3 r3 e3
    go_wp2_with fail
    refine wp_loop_rounds 2 ?_
    rw [rounds_succ]
    go_wp2_with fail
    refine wp_loop_rounds 2 ?_
    rw [rounds_succ]
    go_wp2_with fail
    refine HM.out.mono ?_
    rintro e w4 ⟨rfl, d4, r4, wp4, s4, g4⟩
    have H4 := Lib.hid (And.intro r4 (And.intro (W2.out.trans wp4) (And.intro s4 (only_trans G3.out g4))))
    clear r4 wp4 s4 g4
    go_wp2_with fail
    rw [rounds_succ]
    go_wp2_with fail
    rw [rounds_succ]
    go_wp2_with fail
    go_end0
    exact ⟨rfl, d4, H4.out⟩
  · have k1 : ¬ (40 : Int) ≤ (n : Int) := by omega
    have HI2 := Lib.hid (insertion_c key g N n cap 20 n d1 c0 c1 c2 w1 r1 hd1 HC1.out (fun p q h1 h2 h3 => ss1 p q (by omega) h2 h3) (by omega) (by omega) hn)
    clear r1 wp1 s1 g1 ss1 hd1
    go_wp2_with fail
    rw [rounds_succ]
    go_wp2_with fail
    refine HI2.out.mono ?_
    rintro e w2 ⟨rfl, d2, r2, wp2, s2, g2⟩
    have S2a : Hid (SR key d2 0 20) := S1.out.keep fun p h1 h2 => wp2.out (.inl h2)
    have SS2 := Lib.hid (SS1.out.of wp2 s2 (Nat.zero_le _) (Nat.le_refl _))
    have HD2 := Lib.hid (wp2.lt (Nat.le_refl _) HD1.out)
    have W2 := Lib.hid (W1.out.trans (wp2.mono (Nat.zero_le _) (Nat.le_refl _)))
    have G2 := Lib.hid (only_trans G1.out g2)
    have HC2 := Lib.hid (HC1.out.keep g2)
    have S2b := Lib.hid s2
    have R2 := Lib.hid r2
    clear wp2 s2 g2 r2
    by_cases h21 : n = 20
    · subst h21
      go_wp2_with fail
      refine wp_loop_rounds 2 ?_
      rw [rounds_succ]
      go_wp2_with fail
      go_end0
      exact ⟨rfl, d2, R2.out, W2.out, S2a.out, G2.out⟩
    · have k2 : (20 : Int) < (n : Int) := by omega
      have k3 : ¬ (40 : Int) < (n : Int) := by omega
      have HM := Lib.hid (symMerge_c key g N n cap c0 c1 c2 hn 40 0 20 n d2 w2 (by omega) (by omega) (by omega) (by omega) R2.out HD2.out HC2.out S2a.out S2b.out (sx_of SS2.out))
      go_wp2_with fail
      refine wp_loop_rounds 2 ?_
      rw [rounds_succ]
      go_wp2_with fail
      refine wp_loop_rounds 2 ?_
      rw [rounds_succ]
      go_wp2_with fail
      refine HM.out.mono ?_
      rintro e w4 ⟨rfl, d4, r4, wp4, s4, g4⟩
      have H4 := Lib.hid (And.intro r4 (And.intro (W2.out.trans wp4) (And.intro s4 (only_trans G2.out g4))))
      clear r4 wp4 s4 g4
      go_wp2_with fail
      rw [rounds_succ]
      go_wp2_with fail
      go_end0
      exact ⟨rfl, d4, H4.out⟩
theorem stables_all {n : Nat} (hn : n ≤ 40) : StablesAt n := by
  rcases Nat.lt_or_ge n 20 with h | h
  · exact stable_small h
  · exact stable_more h hn

end Go.Proofs.Ytcibffmhlamcdaa
