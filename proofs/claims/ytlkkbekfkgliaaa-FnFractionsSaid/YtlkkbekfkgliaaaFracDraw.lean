/-
  DrawFrac returns a valid fraction of small numbers. Conditions: the bytes can be read.
-/
import Derived.Test.YtlkkbekfkgliaaaNew
import Derived.Test.YtlkkbekfkgliaaaFracOps
import Derived.Test.YtlkkbekfkgliaaaBoxB
namespace Go.Proofs.Ytlkkbekfkgliaaa
open Go.RowKit
set_option linter.unusedVariables false

/-- A drawn fraction. -/
structure SmallFrac (x y : Int) : Prop where
  ok : okB x y = true
  x0 : -1000 ≤ x
  x1 : x ≤ 1000
  y0 : 1 ≤ y
  y1 : y ≤ 60

theorem gcd_red {n d : Int} (hd : d ≠ 0) : Int.gcd (n / (Int.gcd n d : Int)) (d / (Int.gcd n d : Int)) = 1 :=
  Int.gcd_ediv_gcd_ediv_gcd (Int.gcd_pos_of_ne_zero_right n hd)

theorem div_gcd_pos {n d : Int} (hd : 0 < d) : 1 ≤ d / (Int.gcd n d : Int) := by
  have e : (Int.gcd n d : Int) * (d / (Int.gcd n d : Int)) = d := Int.mul_ediv_cancel' (Int.gcd_dvd_right ..)
  have g := gcd_pos (n := n) (d := d) (by omega)
  generalize d / (Int.gcd n d : Int) = q at *
  rcases Int.lt_or_le q 1 with h | h
  · have : (Int.gcd n d : Int) * q ≤ 0 := Int.mul_nonpos_of_nonneg_of_nonpos (by omega) (by omega)
    omega
  · exact h
theorem abs_div_le {n g A : Int} (h1 : -A ≤ n) (h2 : n ≤ A) : -A ≤ n / g ∧ n / g ≤ A := by
  have h3 := Int.natAbs_ediv_le_natAbs n g
  generalize n / g = t at *
  omega

theorem newF_small {n d : Int} (h0 : -1000 ≤ n) (h1 : n ≤ 1000) (h2 : 1 ≤ d) (h3 : d ≤ 60) : ∃ x y, newF n d = (x, y, true) ∧ SmallFrac x y := by
  obtain ⟨a0, a1⟩ := abs_div_le (g := (Int.gcd n d : Int)) h0 h1
  have b0 := div_gcd_pos (n := n) (d := d) (by omega)
  obtain ⟨_, b1⟩ := abs_div_le (n := d) (A := 60) (g := (Int.gcd n d : Int)) (by omega) h3
  have hok : okB (n / (Int.gcd n d : Int)) (d / (Int.gcd n d : Int)) = true := by
    unfold okB
    rw [inB_true (by omega) (by omega), inB_true (by omega) (by omega), gcd_red (by omega)]
    rfl
  refine ⟨_, _, ?_, ⟨hok, a0, a1, b0, b1⟩⟩
  unfold newF
  rw [inB_true (by omega) (by omega), inB_true (by omega) (by omega), beq_eq_false_iff_ne.2 (show d ≠ 0 by omega)]
  simp only [Bool.not_false, Bool.and_self, if_true]
  unfold red
  rw [if_neg (by omega), red1_ok hok]

def DrawnF (base B : Nat) (w : World) (e : Ending) (w' : World) : Prop :=
  ∃ x y : Int, SmallFrac x y ∧ e = .returned (.agg #[.int .i64 x, .int .i64 y]) ∧ Cur w' base B ∧ w.grownBy w' (some B)

set_option maxHeartbeats 1000000 in
theorem l02Frac_c (base B : Nat) (w : World) (hc : Cur w base B) : Calls Try.prog 45 #[.pointer (some ⟨B, 0, none⟩)] w (DrawnF base B w) := by
  have hl := hc.lt
  go_enter Try.func45, Try.ntmps45
  go_wp2_with fail
  have R0 : Box2 (w.alloc (.cells #[.int .i64 0, .int .i64 0] 23)) w.heap.size (.int .i64 0) (.int .i64 0) := ⟨by go_simp, by go_simp, by go_simp, by go_simp⟩
  have HR0 := Lib.hid R0
  clear R0
  refine (l01Below_c base B 2001 _ (hc.below ((Below.refl _ _).alloc (Nat.le_refl _) _)) (by omega)).mono ?_
  rintro e w1 ⟨n, ⟨hn0, hn1⟩, rfl, hc1, hg1⟩
  go_wp2_with fail
  refine (l01Below_c base B 60 _ hc1 (by omega)).mono ?_
  rintro e w2 ⟨d, ⟨hd0, hd1⟩, rfl, hc2, hg2⟩
  obtain ⟨x, y, hx, hs⟩ := newF_small (n := n - 1000) (d := 1 + d) (by omega) (by omega) (by omega) (by omega)
  have HX := Lib.hid hx
  have HS := Lib.hid hs
  clear hx hs
  go_wp2_with fail
  refine (specFracNew_c _ _ _).mono ?_
  rintro e w3 ⟨rfl, b3⟩
  rw [HX.out]
  have hg := only_trans hg1 hg2
  have R3 : Box2 w3 w.heap.size (.int .i64 0) (.int .i64 0) := Box2.later b3 (by
    obtain ⟨r0, r1, r2, r3⟩ := HR0.out
    have hne : some w.heap.size ≠ some B := by intro e; injection e with e; omega
    have hb := hg.block w.heap.size (by simp) hne
    exact ⟨(World.cell?_of_block (a := ⟨w.heap.size, 0, none⟩) hb).trans r0, (World.cell?_of_block (a := ⟨w.heap.size, 1, none⟩) hb).trans r1, (World.frozen?_of_block (a := ⟨w.heap.size, 0, none⟩) hb).trans r2, (World.frozen?_of_block (a := ⟨w.heap.size, 1, none⟩) hb).trans r3⟩)
  have R4 := box2_set R3 (.int .i64 x) (.int .i64 y)
  have R5 := box2_alloc R4 (.cells #[.int .i64 x, .int .i64 y] 23)
  obtain ⟨r0, r1, r2, r3⟩ := R3
  obtain ⟨s0, s1, s2, s3⟩ := R5
  have z3 : w.heap.size < w3.heap.size := World.block_lt_of_cell? _ _ r0
  have hc3 := hc2.below b3
  have hg3 := only_below (only_trans (only_alloc (only_refl w (some B)) _) hg) b3
  clear hg hg1 hg2 b3 hc1 hc2 hc R4
  go_wp2_with fail
  refine bodyPost_ret (v := .agg #[.int .i64 x, .int .i64 y]) (by simp [results, Try.results45, go_sem, s0, s1]) rfl ?_
  have k1 := only_setCell hg3 (p := ⟨w.heap.size, 0, none⟩) (Or.inr (Nat.le_refl _)) (.int .i64 x)
  have k2 := only_setCell k1 (p := ⟨w.heap.size, 1, none⟩) (Or.inr (Nat.le_refl _)) (.int .i64 y)
  have k3 := only_alloc k2 (.cells #[.int .i64 x, .int .i64 y] 23)
  have c5 := hc3.grown (row := some w.heap.size) (only_setCell (only_setCell (only_refl _ (some w.heap.size)) (p := ⟨w.heap.size, 0, none⟩) (Or.inl rfl) (.int .i64 x)) (p := ⟨w.heap.size, 1, none⟩) (Or.inl rfl) (.int .i64 y)) (by intro e; injection e with e; omega) (fun k hk => by cases hk; exact Nat.le_of_lt (Nat.lt_of_le_of_lt hc3.le hl))
  have c6 := c5.below ((Below.refl _ _).alloc (Nat.le_refl _) (.cells #[.int .i64 x, .int .i64 y] 23))
  exact ⟨x, y, HS.out, rfl, c6, k3⟩

def FracEnd (w : World) (e : Ending) (w' : World) : Prop :=
  ∃ x y : Int, SmallFrac x y ∧ e = .returned (.agg #[.int .i64 x, .int .i64 y]) ∧ Below w.heap.size w w'

set_option maxHeartbeats 1000000 in
theorem drawFrac_c (A : Option Addr) (n cap : Nat) (w : World) (hb : Bytes w w.heap.size A n) (hn : n ≤ 2000000) :
    Calls Try.prog 33 #[.slice A n cap] w (FracEnd w) := by
  have HB := Lib.hid hb
  clear hb
  go_enter Try.func33, Try.ntmps33
  go_wp2_with fail
  refine (l01New_c w.heap.size A n cap _ (HB.out.below ((Below.refl _ _).alloc (Nat.le_refl _) _)) hn (by simp)).mono ?_
  rintro e w1 ⟨B, rfl, hB, hcur, hbel⟩
  have R1 : Box2 w1 w.heap.size (.int .i64 0) (.int .i64 0) := Box2.later hbel ⟨by go_simp, by go_simp, by go_simp, by go_simp⟩
  go_wp2_with fail
  refine (l02Frac_c _ B _ hcur).mono ?_
  rintro e w2 ⟨x, y, hs, rfl, hc2, hg2⟩
  simp at hB
  obtain ⟨r0, r1, r2, r3⟩ : Box2 w2 w.heap.size (.int .i64 0) (.int .i64 0) := by
    obtain ⟨r0, r1, r2, r3⟩ := R1
    have hlt : w.heap.size < w1.heap.size := World.block_lt_of_cell? _ _ r0
    have hne : some w.heap.size ≠ some B := by intro e; injection e with e; omega
    have hb := hg2.block w.heap.size hlt hne
    exact ⟨(World.cell?_of_block (a := ⟨w.heap.size, 0, none⟩) hb).trans r0, (World.cell?_of_block (a := ⟨w.heap.size, 1, none⟩) hb).trans r1, (World.frozen?_of_block (a := ⟨w.heap.size, 0, none⟩) hb).trans r2, (World.frozen?_of_block (a := ⟨w.heap.size, 1, none⟩) hb).trans r3⟩
  have HS := Lib.hid hs
  have hbl := below_only (andThen (andAlloc (Below.refl w.heap.size w) _) hbel) hg2 (by omega)
  clear R1 hs hcur hc2 hg2 hbel
  go_wp2_with fail
  refine bodyPost_ret (v := .agg #[.int .i64 x, .int .i64 y]) (by simp [results, Try.results33, go_sem, r0, r1]) rfl ?_
  exact ⟨x, y, HS.out, rfl, andSet (andSet hbl (Nat.le_refl _) _) (Nat.le_refl _) _⟩

end Go.Proofs.Ytlkkbekfkgliaaa
