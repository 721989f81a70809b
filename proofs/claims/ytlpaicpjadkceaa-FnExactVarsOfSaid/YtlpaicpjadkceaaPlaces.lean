/-
  DrawPlaces returns twelve numbers from 0 to 9999, in a new row. Conditions: the slice of bytes can be read, at most 2000000 of them.
-/
import Derived.Test.YtlpaicpjadkceaaNew
import Derived.Maps.AppendAt
namespace Go.Proofs.Ytlpaicpjadkceaa
open Go.RowKit
set_option linter.unusedVariables false
set_option maxRecDepth 4000

theorem info_int : (Try.prog.info? 3).map (fun i => (i.zero, i.size, i.bytes)) = some (some (.int .i64 0), 1, 8) := by kernel_rfl

/-- A row of integers of the call's own. -/
def OwnInts (w : World) (base : Nat) (v : Value) (zs : List Int) : Prop := w.ownsRow base 3 1 v zs.length (zs.map (Value.int .i64))

theorem OwnInts.below {w w' : World} {base : Nat} {v : Value} {zs : List Int} (h : OwnInts w base v zs) (hb : Below w.heap.size w w') : OwnInts w' base v zs :=
  World.ownsRow.kept h (row := none) ⟨hb.os, hb.tape, hb.output, hb.size, fun i hi _ => hb.block i hi⟩ (by
    rcases v.ownBlock with _ | k
    · exact .inl rfl
    · exact .inr (by simp))
theorem OwnInts.grown {w w' : World} {base : Nat} {v : Value} {zs : List Int} {row : Option Nat} (h : OwnInts w base v zs) (hg : w.grownBy w' row) (hne : v.ownBlock ≠ row ∨ v.ownBlock = none) : OwnInts w' base v zs :=
  World.ownsRow.kept h hg (hne.symm.imp id id)
/-- What the walk wants of an own row that is not empty. -/
theorem OwnInts.form {w : World} {base : Nat} {v : Value} {zs : List Int} (h : OwnInts w base v zs) (hn : 0 < zs.length) :
    ∃ g cap, v = .slice (some ⟨g, 0, none⟩) zs.length cap ∧ base ≤ g ∧ g < w.heap.size ∧ zs.length ≤ cap ∧ ∀ j (hj : j < zs.length), w.cell? ⟨g, j, none⟩ = some (.int .i64 zs[j]) := by
  rcases h.2 with ⟨rfl, h0⟩ | ⟨g, cap, cur, rfl, hb, hh, hc, hm, hs, ht⟩
  · omega
  · refine ⟨g, cap, rfl, hb, ?_, hc, fun j hj => ?_⟩
    · rcases Nat.lt_or_ge g w.heap.size with hlt | hge
      · exact hlt
      · rw [Array.getElem?_eq_none hge] at hh; cases hh
    · have := World.ownsRow.cellAt (g := g) (cap := cap) h j (by omega)
      rw [this]
      simp [List.getElem?_eq_getElem hj]

theorem own_push {w : World} {base : Nat} {v : Value} {zs : List Int} {x : Int} (h : w.ownsRow base 3 1 v (zs.length + 1) (List.map (Value.int IntKind.i64) zs ++ [Value.int IntKind.i64 x])) : OwnInts w base v (zs ++ [x]) := by
  unfold OwnInts
  rw [List.length_append, List.map_append]
  exact h
theorem one_news (w : World) (x : Value) (t : TypeId) : ∀ j u, [x][j]? = some u → (w.alloc (.cells #[x] t)).cell? ((⟨w.heap.size, 0, none⟩ : Addr).add j) = some u := cell_one_new w x t
theorem one_cell (x : Int) : ∀ u ∈ [Value.int .i64 x], u.oneCell' = true := by
  intro u hu; simp at hu; subst hu; rfl

def places (zs : List Int) : Prop := ∀ z ∈ zs, 0 ≤ z ∧ z < 10000
/-- What DrawPlaces leaves. -/
def PlacesEnd (w : World) (e : Ending) (w' : World) : Prop :=
  ∃ (v : Value) (zs : List Int), e = .returned v ∧ zs.length = 12 ∧ places zs ∧ OwnInts w' w.heap.size v zs ∧ Below w.heap.size w w'

set_option maxHeartbeats 1000000 in
theorem drawPlaces_c (A : Option Addr) (n cap : Nat) (w : World) (hb : Bytes w w.heap.size A n) (hn : n ≤ 2000000) :
    Calls Try.prog 33 #[.slice A n cap] w (PlacesEnd w) := by
  obtain ⟨i0, hi, hz0, hz1, hz2⟩ := info_parts info_int
  have HB := Lib.hid hb
  clear hb
  go_enter Try.func33, Try.ntmps33
  go_wp2_with fail
  refine (l01New_c w.heap.size A n cap _ HB.out hn (Nat.le_refl _)).mono ?_
  rintro e w1 ⟨B, rfl, hB, hcur, hbel⟩
  go_wp2_with fail
  go_loopw [4, 5] (fun v i wr => ∃ (k : Nat) (zs : List Int), k ≤ 12 ∧ i = .int .i64 k ∧ zs.length = k ∧ places zs ∧ OwnInts wr w.heap.size v zs ∧ Cur wr w.heap.size B ∧ Below w.heap.size w wr) (fun _ i _ => 12 - (intOf i).toNat)
  case atStart =>
    exact ⟨0, [], by omega, rfl, rfl, (fun z hz => by cases hz), World.ownsRow_lit w1 #[] 0 hbel.size (by decide) rfl, hcur.below ((Below.refl _ _).alloc (Nat.le_refl _) _), andAlloc hbel _⟩
  case round =>
    obtain ⟨k, zs, hk, rfl, hzk, hp, hown, hcu, hbl⟩ := hrel
    have HP := Lib.hid hp
    have HZK := Lib.hid hzk
    clear hp hzk
    by_cases hlt : k < 12
    · go_wp2_with fail
      refine (l01Below_c w.heap.size B 10000 _ hcu (by omega)).mono ?_
      rintro e w2 ⟨x, ⟨hx0, hx1⟩, rfl, hcu2, hg2⟩
      have hap := hcu.apart hown (by decide)
      have hown2 := OwnInts.grown hown hg2 (Or.inl hap)
      have hbl2 := below_only hbl hg2 hcu.le
      clear hown hcu hbl hap
      go_wp2_with (at_builtin; refine wpList_append_own _ rfl _ _ 36 rfl w.heap.size 3 i0 (.int .i64 0) 1 8 Try.underlying36 hi hz0 hz1 hz2 rfl (by decide) _ _ _ rfl (hown2.alloc _) ⟨w2.heap.size, 0, none⟩ 1 1 [.int .i64 x] rfl rfl (one_news _ _ _) (one_cell x) ?c3 ?c4 ?c5 ?_)
      case c3 => have := HZK.out; unfold maxLen; omega
      case c4 => have := HZK.out; omega
      case c5 => have := hbl2.size; simp; omega
      intro v' w3 hown3 hg3 _
      have hown4 := own_push hown3
      have hcu3 := hcu2.below ((Below.refl _ _).alloc (Nat.le_refl _) (.cells #[.int .i64 x] 3))
      have hap := hcu3.apart (hown2.alloc (.cells #[.int .i64 x] 3)) (by decide)
      have hlt3 := World.ownsRow.lt hown2
      have hcu4 := hcu3.grown hg3 hap (fun j hj => (hlt3 j hj).1)
      have hbl4 := (andAlloc hbl2 (.cells #[.int .i64 x] 3)).grown hg3 (Nat.le_trans hbl2.size (by simp)) (fun j hj => (hlt3 j hj).1)
      clear hown3 hg3 hap hlt3 hcu3 hcu2 hbl2 hown2 hg2
      go_wp2
      go_roundw
      case rel =>
        refine ⟨k + 1, zs ++ [x], by omega, by go_num, by rw [List.length_append, HZK.out]; rfl, ?_, hown4, hcu4, hbl4⟩
        intro z hz
        rcases List.mem_append.1 hz with h | h
        · exact HP.out z h
        · simp at h; subst h; exact ⟨hx0, hx1⟩
      case measure => simp [intOf]; omega
    · go_wp2
      go_ret
      exact ⟨_, zs, rfl, by have := HZK.out; omega, HP.out, hown, hbl⟩

end Go.Proofs.Ytlpaicpjadkceaa
