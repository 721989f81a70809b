/-
  l01New lays a cursor over the given bytes; big; DrawPlaces returns twelve numbers from 0 to 9999. Conditions: the slice of bytes can be read, at most 2000000 of them.
-/
import Derived.Test.YtcibffmhlamcdaaCur
import Derived.OpenShut
namespace Go.Proofs.Ytcibffmhlamcdaa
open Go.RowKit
set_option linter.unusedVariables false

theorem bytes0_of_row {w : World} {A : Option Addr} {n cap : Nat} {zs : List Int} (h : IsRow .u8 w A n cap zs) : Bytes w w.heap.size A n := by
  intro j hj
  rcases h with ⟨_, rfl, _, _⟩ | ⟨x, rfl, hl, hm, hz, hc, hw⟩
  · omega
  · obtain ⟨b, off, spot⟩ := x
    have h0 := hc j (by omega)
    have hspot : spot = none := by
      have := hc 0 (by omega)
      simpa [Addr.add] using World.cell?_spot this
    subst hspot
    have h1 : w.cell? ⟨b, off + j, none⟩ = some (.int .u8 (zs.getD j 0)) := by
      have e : (Addr.add ⟨b, off, none⟩ j) = ⟨b, off + j, none⟩ := by
        unfold Addr.add
        split
        · rename_i h; subst h; rfl
        · rfl
      rw [← e]; exact h0
    have hmem : zs.getD j 0 ∈ zs := by
      rw [List.getD_eq_getElem?_getD, List.getElem?_eq_getElem (show j < zs.length by omega)]
      exact List.getElem_mem _
    have hb := bounds_u8 (hw _ hmem)
    exact ⟨b, off, zs.getD j 0, rfl, World.block_lt_of_cell? _ _ h1, h1, hb.1, hb.2⟩

def NewEnd (A : Option Addr) (n cap : Nat) (w : World) (e : Ending) (w' : World) : Prop :=
  ∃ h : Int, e = .returned (.pointer (some ⟨w.heap.size, 0, none⟩)) ∧ w' = w.alloc (.cells #[.slice A n cap, .int .i64 0, .int .i64 h] 50)

set_option maxHeartbeats 1000000 in
theorem l01New_walk (base : Nat) (A : Option Addr) (n cap : Nat) (w : World) (hb : Bytes w base A n) (hn : n ≤ 2000000) :
    Calls Try.prog 24 #[.slice A n cap] w (NewEnd A n cap w) := by
  have HB := Lib.hid hb
  clear hb
  go_enter Try.func24, Try.ntmps24
  go_wp2
  go_loop [3, 4] (fun h i => ∃ (k : Nat) (x : Int), k ≤ n ∧ i = .int .i64 k ∧ h = .int .i64 x) (fun _ i => n - (intOf i).toNat)
  case atStart => exact ⟨0, _, Nat.zero_le _, rfl, rfl⟩
  case round =>
    obtain ⟨k, x, hk, rfl, rfl⟩ := hrel
    by_cases hlt : k < n
    · by_cases h4 : k < 4000
      · obtain ⟨b, off, y, rfl, e1, e2, e3, e4⟩ := HB.out k hlt
        have l4 : decide ((k : Int) < 4000) = true := decide_eq_true (by omega)
        go_wp2
        go_round
        case rel => exact ⟨k + 1, _, by omega, by go_num, rfl⟩
        case measure => simp [intOf]; omega
      · have l4 : decide ((k : Int) < 4000) = false := decide_eq_false (by omega)
        go_wp2
        go_ret
        exact ⟨_, rfl, rfl⟩
    · have l3 : decide (k < n) = false := decide_eq_false hlt
      go_wp2
      go_ret
      exact ⟨_, rfl, rfl⟩

/-- What l01New leaves: a cursor in a new block. -/
def NewCur (base : Nat) (w : World) (e : Ending) (w' : World) : Prop :=
  ∃ B : Nat, e = .returned (.pointer (some ⟨B, 0, none⟩)) ∧ w.heap.size ≤ B ∧ Cur w' base B ∧ Below w.heap.size w w'

theorem l01New_c (base : Nat) (A : Option Addr) (n cap : Nat) (w : World) (hb : Bytes w base A n) (hn : n ≤ 2000000) (hbase : base ≤ w.heap.size) :
    Calls Try.prog 24 #[.slice A n cap] w (NewCur base w) := by
  refine (l01New_walk base A n cap w hb hn).mono ?_
  rintro e w' ⟨h, rfl, rfl⟩
  exact ⟨w.heap.size, rfl, Nat.le_refl _, ⟨A, n, cap, 0, h, Blk.new _ _ _, by omega, by omega, hn, hbase, hb.below ((Below.refl _ _).alloc hbase _)⟩, andAlloc (Below.refl _ _) _⟩

set_option maxHeartbeats 400000 in
theorem big_c (A : Option Addr) (n cap : Nat) (w : World) :
    Calls Try.prog 14 #[.slice A n cap] w fun e w' => e = .returned (.bool (decide (1048576 < n))) ∧ w = w' := by
  go_enter Try.func14, Try.ntmps14
  go_wp2
  go_ret
  exact ⟨ret_bool (by rw [Bool.eq_iff_iff]; simp; try omega), rfl⟩

end Go.Proofs.Ytcibffmhlamcdaa
