/-
  DrawParts: a total and one to seven weights. Conditions: the bytes can be read.
-/
import Derived.Test.YtcibffmhlamcdaaInts
namespace Go.Proofs.Ytcibffmhlamcdaa
open Go.RowKit
set_option linter.unusedVariables false
set_option maxRecDepth 4000

/-- Weights from 0 to 50, not all 0. -/
def Parts (zs : List Int) : Prop := (∀ z ∈ zs, 0 ≤ z ∧ z ≤ 50) ∧ 1 ≤ zs.sum
theorem parts_push {zs : List Int} {x : Int} (h : Parts zs) (h0 : 0 ≤ x) (h1 : x < 50) : Parts (zs ++ [x]) := by
  refine ⟨fun z hz => ?_, ?_⟩
  · rcases List.mem_append.1 hz with e | e
    · exact h.1 z e
    · simp at e; subst e; omega
  · have := h.2
    rw [List.sum_append]
    simp
    omega
/-- What DrawParts leaves. -/
def PartsEnd (w : World) (e : Ending) (w' : World) : Prop :=
  ∃ (T : Int) (v : Value) (zs : List Int), e = .returned (.tuple #[.int .i64 T, v]) ∧ (0 ≤ T ∧ T < 100000) ∧ (1 ≤ zs.length ∧ zs.length ≤ 7) ∧ Parts zs ∧ OwnInts w' w.heap.size v zs ∧ Below w.heap.size w w'
theorem own_one {w : World} {base : Nat} {x : Int} (hb : base ≤ w.heap.size) : OwnInts (w.alloc (.cells #[.int .i64 x] 3)) base (.slice (some ⟨w.heap.size, 0, none⟩) 1 1) [x] :=
  World.ownsRow_lit (base := base) (e := 3) (size := 1) w #[.int .i64 x] 1 hb (by decide) rfl

set_option maxHeartbeats 1000000 in
theorem drawParts_c (A : Option Addr) (n cap : Nat) (w : World) (hb : Bytes w w.heap.size A n) (hn : n ≤ 2000000) :
    Calls Try.prog 15 #[.slice A n cap] w (PartsEnd w) := by
  obtain ⟨i0, hi, hz0, hz1, hz2⟩ := info_parts info_int
  have HB := Lib.hid hb
  clear hb
  go_enter Try.func15, Try.ntmps15
  go_wp2_with fail
  refine (l01New_c w.heap.size A n cap _ HB.out hn (Nat.le_refl _)).mono ?_
  rintro e w1 ⟨B, rfl, hB, hcur, hbel⟩
  go_wp2_with fail
  refine (l01Below_c w.heap.size B 50 _ hcur (by omega)).mono ?_
  rintro e w2 ⟨x, ⟨hx0, hx1⟩, rfl, hcu2, hg2⟩
  have hbl2 := below_only hbel hg2 hcur.le
  have hown2 := Lib.hid (own_one (x := 1 + x) hbl2.size)
  have hcu3 := Lib.hid (hcu2.below ((Below.refl _ _).alloc (Nat.le_refl _) (.cells #[.int .i64 (1 + x)] 3)))
  have hbl3 := Lib.hid (andAlloc hbl2 (.cells #[.int .i64 (1 + x)] 3))
  have hp3 : Hid (Parts [1 + x]) := ⟨fun z hz => by simp at hz; subst hz; omega, by simp; omega⟩
  clear hcur hbel hg2 hcu2 hbl2
  go_wp2_with fail
  go_loopw [5, 6] (fun v i wr => ∃ (k : Nat) (zs : List Int), k ≤ 6 ∧ i = .int .i64 k ∧ Hid (zs.length = k + 1) ∧ Hid (Parts zs) ∧ Hid (OwnInts wr w.heap.size v zs) ∧ Hid (Cur wr w.heap.size B) ∧ Hid (Below w.heap.size w wr)) (fun _ i _ => 6 - (intOf i).toNat)
  case atStart => exact ⟨0, _, by omega, rfl, (show [1 + x].length = 0 + 1 from rfl), hp3, hown2, hcu3, hbl3⟩
  case round =>
    clear hp3 hown2 hcu3 hbl3
    obtain ⟨k, zs, hk, rfl, hzk, hp, hown, hcu, hbl⟩ := hrel
    go_wp2_with fail
    refine (l01Below_c w.heap.size B 7 _ hcu.out (by omega)).mono ?_
    rintro e w2 ⟨x, ⟨hx0, hx1⟩, rfl, hcu2, hg2⟩
    have hap := hcu.out.apart hown.out (by decide)
    have hown2 := Lib.hid (OwnInts.grown hown.out hg2 (Or.inl hap))
    have hbl2 := Lib.hid (below_only hbl.out hg2 hcu.out.le)
    have hcu2' := Lib.hid hcu2
    clear hown hcu hbl hap hg2 hcu2
    by_cases hlt : (k : Int) < x
    · go_wp2_with fail
      refine (l01Below_c w.heap.size B 50 _ hcu2'.out (by omega)).mono ?_
      rintro e w4 ⟨y, ⟨hy0, hy1⟩, rfl, hcu4, hg4⟩
      have hap := hcu2'.out.apart hown2.out (by decide)
      have hown4 := OwnInts.grown hown2.out hg4 (Or.inl hap)
      have hbl4 := below_only hbl2.out hg4 hcu2'.out.le
      clear hown2 hcu2' hbl2 hap hg4
      go_wp2_with (at_builtin; refine wpList_append_own _ rfl _ _ 25 rfl w.heap.size 3 i0 (.int .i64 0) 1 8 Try.underlying25 hi hz0 hz1 hz2 rfl (by decide) _ _ _ rfl (hown4.alloc _) ⟨w4.heap.size, 0, none⟩ 1 1 [.int .i64 y] rfl rfl (one_news _ _ _) (one_cell y) ?c3 ?c4 ?c5 ?_)
      case c3 => have := hzk.out; unfold maxLen; omega
      case c4 => have := hzk.out; omega
      case c5 => have := hbl4.size; simp; omega
      intro v' w3 hown3 hg3 _
      have hown5 := Lib.hid (own_push hown3)
      have hcu3 := hcu4.below ((Below.refl _ _).alloc (Nat.le_refl _) (.cells #[.int .i64 y] 3))
      have hap := hcu3.apart (hown4.alloc (.cells #[.int .i64 y] 3)) (by decide)
      have hlt3 := World.ownsRow.lt hown4
      have hcu5 := Lib.hid (hcu3.grown hg3 hap (fun j hj => (hlt3 j hj).1))
      have hbl5 := Lib.hid ((andAlloc hbl4 (.cells #[.int .i64 y] 3)).grown hg3 (Nat.le_trans hbl4.size (by simp)) (fun j hj => (hlt3 j hj).1))
      have hp5 := Lib.hid (parts_push hp.out hy0 hy1)
      have hz5 : Hid ((zs ++ [y]).length = k + 1 + 1) := by show _ = _; rw [List.length_append, hzk.out]; rfl
      clear hown3 hg3 hap hlt3 hcu3 hcu4 hbl4 hown4 hzk hp
      go_wp2
      go_roundw
      case rel => exact ⟨k + 1, _, by omega, by go_num, hz5, hp5, hown5, hcu5, hbl5⟩
      case measure => simp [intOf]; omega
    · go_wp2_with fail
      refine (l01Below_c w.heap.size B 100000 _ hcu2'.out (by omega)).mono ?_
      rintro e w4 ⟨T, ⟨hT0, hT1⟩, rfl, hcu4, hg4⟩
      have hap := hcu2'.out.apart hown2.out (by decide)
      have hown4 := Lib.hid (OwnInts.grown hown2.out hg4 (Or.inl hap))
      have hbl4 := Lib.hid (below_only hbl2.out hg4 hcu2'.out.le)
      clear hown2 hcu2' hbl2 hap hg4 hcu4
      have hzl := hzk.out
      go_wp2_with fail
      refine bodyPost_ret (v := .tuple #[.int .i64 T, u5]) (by simp [results, Try.results15, go_sem]) rfl ?_
      · exact ⟨T, u5, zs, rfl, ⟨hT0, hT1⟩, by omega, hp.out, hown4.out, hbl4.out⟩

end Go.Proofs.Ytcibffmhlamcdaa
