/-
  l01Once, l01PickInt, l01Number: some bool, some number of the given ones, some int64; only the cursor's block has turned. Conditions: the cursor is well formed.
-/
import Derived.Test.YtcibffmhlamcdaaDoorPlaces
namespace Go.Proofs.YtcibffmhlamcdaaDoor
open Go.RowKit
set_option linter.unusedVariables false
set_option maxRecDepth 4000

def DrawnB (base B : Nat) (w : World) (e : Ending) (w' : World) : Prop := ∃ b : Bool, e = .returned (.bool b) ∧ Cur w' base B ∧ w.grownBy w' (some B)

set_option maxHeartbeats 400000 in
theorem l01Once_c (base B : Nat) (n : Int) (w : World) (hc : Cur w base B) (h0 : 0 < n) : Calls Tryd.prog 29 #[.pointer (some ⟨B, 0, none⟩), .int .i64 n] w (DrawnB base B w) := by
  go_enter Tryd.func29, Tryd.ntmps29
  go_wp2_with fail
  refine (l01Below_c base B n _ hc h0).mono ?_
  rintro e w1 ⟨x, _, rfl, hc1, hg⟩
  go_wp2_with fail
  go_ret
  exact ⟨_, rfl, hc1, hg⟩

set_option maxHeartbeats 400000 in
theorem l01PickInt_c (base base' B : Nat) (v : Value) (zs : List Int) (w : World) (hc : Cur w base B) (ho : OwnInts w base' v zs) (hn : 0 < zs.length) (hm : zs.length ≤ 1000000) :
    Calls Tryd.prog 49 #[.pointer (some ⟨B, 0, none⟩), v] w (Drawn (fun x => x ∈ zs) base B w) := by
  have hap := hc.apart ho (by decide)
  have hown := fun (w' : World) (hg : w.grownBy w' (some B)) => OwnInts.grown ho hg (Or.inl hap)
  obtain ⟨g, cap, rfl, h1, h2, h3, h4⟩ := ho.form hn
  have HO := Lib.hid hown
  clear hown h4 hap
  go_enter Tryd.func49, Tryd.ntmps49
  go_wp2_with fail
  refine (l01Below_c base B _ _ hc (by omega)).mono ?_
  rintro e w1 ⟨x, ⟨hx0, hx1⟩, rfl, hc1, hg⟩
  obtain ⟨m, rfl⟩ := Int.eq_ofNat_of_zero_le hx0
  have ho1 := HO.out w1 hg
  obtain ⟨g', cap', e', h1', h2', h3', h4'⟩ := ho1.form hn
  have eg : g' = g := by injection e' with e1 e2 e3; injection e1 with e1; injection e1 with e1; exact e1.symm
  subst eg
  have hcell := h4' m (by omega)
  have hmem : zs[m]'(by omega) ∈ zs := List.getElem_mem _
  generalize zs[m]'(by omega) = y at hcell hmem
  have HM := Lib.hid hmem
  clear ho1 h4' hmem e' ho
  go_wp2_with fail
  go_ret
  exact ⟨y, HM.out, rfl, hc1, hg⟩

def isI64 (x : Int) : Prop := -9223372036854775808 ≤ x ∧ x ≤ 9223372036854775807

def tenNumbers : List Int := [-1, 0, 127, 128, 16383, 16384, 1000000000, 1000000001, 9223372036854775807, -9223372036854775808]
theorem ten_ok : ∀ x ∈ tenNumbers, isI64 x := by
  intro x hx
  simp only [tenNumbers, List.mem_cons, List.not_mem_nil, or_false] at hx
  unfold isI64
  omega

set_option maxHeartbeats 1000000 in
theorem l01Number_c (base B : Nat) (w : World) (hc : Cur w base B) : Calls Tryd.prog 36 #[.pointer (some ⟨B, 0, none⟩)] w (Drawn isI64 base B w) := by
  go_enter Tryd.func36, Tryd.ntmps36
  go_wp2_with fail
  refine (l01Below_c base B 4 _ hc (by omega)).mono ?_
  rintro e w1 ⟨x, ⟨hx0, hx1⟩, rfl, hc1, hg1⟩
  cases h0 : (x == 0)
  · cases h1 : (x == 1)
    · go_wp2_with fail
      refine (l01Below_c base B _ _ hc1 (by omega)).mono ?_
      rintro e w2 ⟨y, ⟨hy0, hy1⟩, rfl, hc2, hg2⟩
      go_wp2_with fail
      go_ret
      exact ⟨y, ⟨by omega, by omega⟩, rfl, hc2, only_trans hg1 hg2⟩
    · go_wp2_with fail
      refine (l01Below_c base B _ _ hc1 (by omega)).mono ?_
      rintro e w2 ⟨y, ⟨hy0, hy1⟩, rfl, hc2, hg2⟩
      go_wp2_with fail
      go_ret
      exact ⟨y, ⟨by omega, by omega⟩, rfl, hc2, only_trans hg1 hg2⟩
  · go_wp2_with fail
    have hown : OwnInts (w1.alloc (.cells (tenNumbers.map (Value.int .i64)).toArray 3)) w1.heap.size (.slice (some ⟨w1.heap.size, 0, none⟩) 10 10) tenNumbers := World.ownsRow_lit w1 (tenNumbers.map (Value.int .i64)).toArray 10 (Nat.le_refl _) (by decide) rfl
    refine (l01PickInt_c base w1.heap.size B _ tenNumbers _ (hc1.below ((Below.refl _ _).alloc (Nat.le_refl _) _)) hown (by decide) (by decide)).mono ?_
    rintro e w2 ⟨y, hy, rfl, hc2, hg2⟩
    have hy2 := ten_ok y hy
    have HY := Lib.hid hy2
    clear hy hy2 hown
    go_wp2_with fail
    go_ret
    exact ⟨y, HY.out, rfl, hc2, only_trans (only_alloc hg1 _) hg2⟩

end Go.Proofs.YtcibffmhlamcdaaDoor
