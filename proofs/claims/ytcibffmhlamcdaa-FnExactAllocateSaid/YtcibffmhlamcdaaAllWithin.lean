/-
  allWithin tells whether all numbers of a row lie in a range. Conditions: the row can be read.
-/
import Derived.Test.YtcibffmhlamcdaaInts
namespace Go.Proofs.Ytcibffmhlamcdaa
open Go.RowKit
set_option linter.unusedVariables false
set_option maxRecDepth 4000

set_option maxHeartbeats 400000 in
theorem closure_c (n lo hi : Int) (bl bh : Nat) (w : World) (h1 : w.cell? ⟨bl, 0, none⟩ = some (.int .i64 lo)) (h2 : w.cell? ⟨bh, 0, none⟩ = some (.int .i64 hi)) :
    Calls Try.prog 29 #[.int .i64 n, .pointer (some ⟨bl, 0, none⟩), .pointer (some ⟨bh, 0, none⟩)] w fun e w' => e = .returned (.bool (!inB n lo hi)) ∧ w = w' := by
  go_enter Try.func29, Try.ntmps29
  go_wp2_with (go_at_call 19; refine (within_c _ _ _ _).mono ?_; rintro e w' ⟨rfl, rfl⟩)
  go_ret
  exact ⟨rfl, rfl⟩

def IdxEnd (zs : List Int) (lo hi : Int) (w : World) (e : Ending) (w' : World) : Prop :=
  ∃ r : Int, e = .returned (.int .i64 r) ∧ decide (0 ≤ r) = (!zs.all fun z => inB z lo hi) ∧ w = w'

theorem all_take_succ (zs : List Int) (p : Int → Bool) (k : Nat) (h : k < zs.length) : (zs.take (k + 1)).all p = ((zs.take k).all p && p zs[k]) := by
  rw [List.take_succ_eq_append_getElem h, List.all_append]; simp
theorem all_of_not (zs : List Int) (p : Int → Bool) (k : Nat) (h : k < zs.length) (hp : p zs[k] = false) : zs.all p = false := by
  rw [List.all_eq_false]
  exact ⟨zs[k], List.getElem_mem _, by simp [hp]⟩

set_option maxHeartbeats 400000 in
theorem indexFunc_c (lo hi : Int) (bl bh : Nat) (L : Nat) (v : Value) (zs : List Int) (w : World) (h : ReadsInts w L v zs) (h1 : w.cell? ⟨bl, 0, none⟩ = some (.int .i64 lo)) (h2 : w.cell? ⟨bh, 0, none⟩ = some (.int .i64 hi)) (hn : zs.length ≤ 1099511627776) :
    Calls Try.prog 33 #[v, .func (.func 29) #[] #[.pointer (some ⟨bl, 0, none⟩), .pointer (some ⟨bh, 0, none⟩)]] w (IdxEnd zs lo hi w) := by
  obtain ⟨A, cap, rfl, ha⟩ := h
  have HA := Lib.hid ha
  clear ha
  go_enter Try.func33, Try.ntmps33
  go_wp2_with fail
  go_loop [8] (fun i => ∃ k : Nat, k ≤ zs.length ∧ i = .int .i64 k ∧ Hid ((zs.take k).all (fun z => inB z lo hi) = true)) (fun i => zs.length - (intOf i).toNat)
  case atStart => exact ⟨0, Nat.zero_le _, rfl, by show _ = _; simp⟩
  case round =>
    obtain ⟨k, hk, rfl, hall⟩ := hrel
    by_cases hlt : k < zs.length
    · obtain ⟨b, off, rfl, _, e1⟩ := HA.out k hlt
      have HT := Lib.hid (all_take_succ zs (fun z => inB z lo hi) k hlt)
      have HN := Lib.hid (all_of_not zs (fun z => inB z lo hi) k hlt)
      generalize zs[k] = z at e1 HT HN
      have k0 : (0 : Int) ≤ (k : Int) := by omega
      have k1 : (k : Int) < (zs.length : Int) := by omega
      cases hz : inB z lo hi
      · go_wp2_with (go_at_call 29; refine (closure_c _ lo hi bl bh _ h1 h2).mono ?_; rintro e w' ⟨rfl, rfl⟩)
        go_ret
        exact ⟨k, rfl, by rw [HN.out hz]; simp, rfl⟩
      · go_wp2_with (go_at_call 29; refine (closure_c _ lo hi bl bh _ h1 h2).mono ?_; rintro e w' ⟨rfl, rfl⟩)
        go_round
        case rel => exact ⟨k + 1, by omega, by go_num, by show _ = _; rw [HT.out, hall.out]; simp [hz]⟩
        case measure => simp [intOf]; omega
    · obtain rfl : k = zs.length := by omega
      go_wp2
      go_ret
      exact ⟨-1, rfl, by have := hall.out; rw [List.take_length] at this; rw [this]; rfl, rfl⟩

set_option maxHeartbeats 400000 in
theorem containsFunc_c (lo hi : Int) (bl bh : Nat) (L : Nat) (v : Value) (zs : List Int) (w : World) (h : ReadsInts w L v zs) (h1 : w.cell? ⟨bl, 0, none⟩ = some (.int .i64 lo)) (h2 : w.cell? ⟨bh, 0, none⟩ = some (.int .i64 hi)) (hn : zs.length ≤ 1099511627776) :
    Calls Try.prog 28 #[v, .func (.func 29) #[] #[.pointer (some ⟨bl, 0, none⟩), .pointer (some ⟨bh, 0, none⟩)]] w fun e w' => e = .returned (.bool (!zs.all fun z => inB z lo hi)) ∧ w = w' := by
  have hidx := indexFunc_c lo hi bl bh L v zs w h h1 h2 hn
  obtain ⟨A, cap, rfl, ha⟩ := h
  have HI := Lib.hid hidx
  clear ha hidx
  go_enter Try.func28, Try.ntmps28
  go_wp2_with fail
  refine HI.out.mono ?_
  rintro e w' ⟨r, rfl, hr, rfl⟩
  have HR := Lib.hid hr
  clear hr
  go_wp2_with fail
  go_ret
  exact ⟨ret_bool HR.out, rfl⟩

set_option maxHeartbeats 400000 in
theorem allWithin_c (lo hi : Int) (L : Nat) (v : Value) (zs : List Int) (w : World) (h : ReadsInts w L v zs) (hL : L ≤ w.heap.size) (hn : zs.length ≤ 1099511627776) :
    Calls Try.prog 20 #[v, .int .i64 lo, .int .i64 hi] w fun e w' => e = .returned (.bool (zs.all fun z => inB z lo hi)) ∧ Below w.heap.size w w' := by
  have h' := fun w' (hb : Below L w w') => h.keep hb
  obtain ⟨A, cap, rfl, ha⟩ := h
  have HA := Lib.hid h'
  clear ha h'
  go_enter Try.func20, Try.ntmps20
  go_wp2_with fail
  refine (containsFunc_c lo hi _ _ L _ zs _ (HA.out _ (((Below.refl _ _).alloc hL _).alloc (by simp; omega) _)) (by go_simp) (by go_simp) hn).mono ?_
  rintro e w' ⟨rfl, rfl⟩
  go_wp2_with fail
  go_ret
  exact ⟨ret_bool (by simp), andAlloc (andAlloc (Below.refl _ _) _) _⟩

end Go.Proofs.Ytcibffmhlamcdaa
