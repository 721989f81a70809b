/-
  The walk of the law FnExactSpreadYear. Conditions: none.
-/
import Derived.Test.YtkidjldlkmdocaaSpread2
import Derived.Test.YtkidjldlkmdocaaInts
namespace Go.Proofs.Ytkidjldlkmdocaa
open Go.RowKit
set_option linter.unusedVariables false

theorem spread_len (t m : Int) : (spread t m).length ≤ 12 := by
  unfold spread
  split
  · rename_i h
    rw [spr_len]
    simp only [Bool.and_eq_true] at h
    have := inB_iff.1 h.2
    omega
  · simp

set_option maxHeartbeats 1000000 in
theorem walk_FnExactSpreadYear (t : Int) {q0 : Prop} (_ : q0) (m : Int) {q1 : Prop} (_ : q1) (w : World) :
    Calls Try.prog 11 #[.int .i64 t, .int .i64 m] w fun e w' => e = .returned (.bool true) ∧ Below w.heap.size w w' := by
  have hl := spread_len t m
  go_enter Try.func11, Try.ntmps11
  go_wp2_with fail
  refine (specSpread_c _ _ _).mono ?_
  rintro e w1 ⟨v0, rfl, o0, b1⟩
  have r0 := o0.reads
  go_wp2_with fail
  refine (implSpread_c _ _ _).mono ?_
  rintro e w2 ⟨vg, rfl, og, b2⟩
  have r0 := r0.keep b2
  go_wp2_with fail
  refine (eqIntS_c _ _ _ _ _ _ og.reads r0 (by omega)).mono ?_
  rintro e w3 ⟨rfl, d3⟩
  have b3 := d3.below w2.heap.size
  have b3' := d3.below w1.heap.size
  clear d3
  have og := og.below b3
  have r0 := r0.keep b3'
  go_wp2_with fail
  refine (markIntS_c 1 _ _ _ _ og (by omega) (by omega) (by omega)).mono ?_
  rintro e w4 ⟨rfl, om, g4⟩
  have hlt := World.ownsRow.lt og
  have b4 : Below w1.heap.size w3 w4 := (Below.refl _ _).grown g4 (Nat.le_trans b2.size b3.size) (fun j hj => (hlt j hj).1)
  have r0 := r0.keep b4
  have rm := om.reads
  clear hlt g4 og
  go_wp2_with fail
  refine (heldIntS_c 1 _ _ _ _ rm (by omega) (by omega) (by omega)).mono ?_
  rintro e w5 ⟨rfl, rfl⟩
  go_wp2_with fail
  refine (implSpread_c _ _ _).mono ?_
  rintro e w5 ⟨vh, rfl, oh, b5⟩
  have L4 : w1.heap.size ≤ w4.heap.size := Nat.le_trans b2.size (Nat.le_trans b3.size b4.size)
  have r0 := r0.keep (b5.mono L4)
  have rm := rm.keep b5
  go_wp2_with fail
  refine (eqIntS_c _ _ _ _ _ _ oh.reads r0 (by omega)).mono ?_
  rintro e w6 ⟨rfl, d6⟩
  have rm := rm.keep (d6.below _)
  have b6 := d6.below w5.heap.size
  clear d6
  go_wp2_with fail
  refine (heldIntS_c 1 _ _ _ _ rm (by omega) (by omega) (by omega)).mono ?_
  rintro e w7 ⟨rfl, rfl⟩
  go_wp2_with fail
  go_ret
  exact ⟨rfl, andThen (andThen (((andThen (andThen b1 b2) b3).trans (b4.mono b1.size))) b5) b6⟩

end Go.Proofs.Ytkidjldlkmdocaa
