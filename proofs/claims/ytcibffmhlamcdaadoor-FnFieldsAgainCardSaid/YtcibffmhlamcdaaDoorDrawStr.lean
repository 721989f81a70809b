/-
  l01Long, l01Text: some text of the given length; DrawEncodeHex: some text. Conditions: the cursor is well formed; the slice of bytes can be read, at most 2000000 of them.
-/
import Derived.Test.YtcibffmhlamcdaaDoorFmt
import Derived.Test.YtcibffmhlamcdaaDoorPick
import Derived.OwnWalk
namespace Go.Proofs.YtcibffmhlamcdaaDoor
open Go.RowKit Go.Sort
set_option linter.unusedVariables false
set_option maxRecDepth 4000

/-- Some text of length n, new blocks. -/
def SomeText (n : Nat) (w : World) (e : Ending) (w' : World) : Prop := ∃ s : ByteArray, s.size = n ∧ e = .returned (.string s) ∧ Below w.heap.size w w'
theorem made_bytes (n : Nat) : (madeCells #[Value.int .u8 0] n).toList = (List.replicate n (0 : UInt8)).map fun b => Value.int .u8 (b.toNat : Int) := by
  simp [madeCells, Nat.mod_one, List.map_replicate, List.map_const']
theorem only_own {a w w' : World} {B : Nat} {row : Option Nat} (h : a.grownBy w (some B)) (g : w.grownBy w' row) (hr : ∀ j, row = some j → a.heap.size ≤ j) : a.grownBy w' (some B) :=
  ⟨g.os.trans h.os, g.tape.trans h.tape, g.output.trans h.output, Nat.le_trans h.size g.size, fun i hi hne => (g.block i (Nat.lt_of_lt_of_le hi h.size) (fun e => by have := hr i e.symm; omega)).trans (h.block i hi hne)⟩
theorem OwnB.kept {w w' : World} {base : Nat} {v : Value} {l : List UInt8} {row : Option Nat} (h : OwnB w base v l) (hg : w.grownBy w' row) (hne : v.ownBlock ≠ row ∨ v.ownBlock = none) : OwnB w' base v l :=
  World.ownsRow.kept h hg (hne.symm.imp id id)

set_option maxHeartbeats 2000000 in
theorem l01Long_c (n : Nat) (x : Int) (c : UInt8) (hx : x = (c.toNat : Int)) (w : World) (hn : n ≤ 1000000) :
    Calls Tryd.prog 30 #[.int .i64 (n : Int), .int .u8 x] w (SomeText n w) := by
  subst hx
  obtain ⟨i0, hi, hz0, hz1, hz2⟩ := info_parts info_u8
  go_enter Tryd.func30, Tryd.ntmps30
  go_wp2_with (at_make; refine wpList_make_full _ rfl _ _ 22 rfl w.heap.size 5 i0 (.int .u8 0) 1 Tryd.underlying22 hi hz0 hz1 .i64 .i64 _ _ n rfl rfl rfl rfl (by rw [hz2]; omega) (by unfold maxLen; omega) (Nat.le_refl _) ?_)
  intro w1 hown hg
  rw [made_bytes] at hown
  have ho1 : OwnB w1 w.heap.size (.slice (some ⟨w.heap.size, 0, none⟩) n n) (List.replicate n 0) := by
    unfold OwnB
    rw [List.length_replicate]
    exact hown
  have hb1 : Below w.heap.size w w1 := (Below.refl _ _).grown hg (Nat.le_refl _) (fun j hj => by cases hj)
  have hl0 : (List.replicate n (0 : UInt8)).length = n := List.length_replicate
  generalize List.replicate n (0 : UInt8) = L0 at *
  have H1 := Lib.hid (And.intro ho1 hl0)
  clear hown hg hz0 hz1 hz2 hi ho1 hl0
  go_wp2_with fail
  go_loopw [6] (fun i wr => ∃ (k : Nat) (L : List UInt8), k ≤ n ∧ i = .int .i64 (k : Int) ∧ Hid (L.length = n) ∧ Hid (OwnB wr w.heap.size (.slice (some ⟨w.heap.size, 0, none⟩) n n) L) ∧ Below w.heap.size w wr) (fun i _ => n - (intOf i).toNat)
  case atStart => exact ⟨0, L0, Nat.zero_le _, rfl, H1.out.2, H1.out.1, hb1⟩
  case round =>
    obtain ⟨k, L, hk, rfl, hL, hown, hbl⟩ := hrel
    by_cases hlt : k < n
    · have k0 : (0 : Int) ≤ (k : Int) := by omega
      have k1 : (k : Int) < (n : Int) := by omega
      have hown' : wr.ownsRow w.heap.size 5 1 (.slice (some ⟨w.heap.size, 0, none⟩) n n) n (L.map fun b => Value.int .u8 (b.toNat : Int)) := by
        have := hown.out
        unfold OwnB at this
        rwa [hL.out] at this
      have hcj := World.ownsRow.cellAt hown' k (by omega)
      have hkm : k < L.length := by rw [hL.out]; exact hlt
      rw [List.getElem?_map, List.getElem?_eq_getElem hkm] at hcj
      simp only [Option.map_some] at hcj
      generalize Value.int .u8 ((L[k]'hkm).toNat : Int) = zj at hcj
      have hfz := World.ownsRow.frozenAt hown' k
      have hst := World.ownsRow.stored hown' k (Value.int .u8 (c.toNat : Int))
      have hst1 : OwnB (wr.setCell ⟨w.heap.size, k, none⟩ (Value.int .u8 (c.toNat : Int))) w.heap.size (.slice (some ⟨w.heap.size, 0, none⟩) n n) (L.set k c) := by
        unfold OwnB
        rw [List.length_set, hL.out, List.map_set]
        exact hst.1
      have HS1 := Lib.hid hst1
      have HB1 := Lib.hid (hbl.setCell (p := ⟨w.heap.size, k, none⟩) (Nat.le_refl _) (Value.int .u8 (c.toNat : Int)))
      have HL1 : Hid ((L.set k c).length = n) := by show _ = _; rw [List.length_set]; exact hL.out
      clear hst hst1 hown hown' hL hkm hbl
      go_wp2_with fail
      go_roundw
      case rel => exact ⟨k + 1, L.set k c, by omega, by go_num, HL1, HS1, HB1.out⟩
      case measure => simp [intOf]; omega
    · obtain rfl : k = n := by omega
      have hcv : (convert 22 9 (.slice (some ⟨w.heap.size, 0, none⟩) k k)).run Tryd.prog wr = .ok (.string (txt L)) wr := by
        have ho := hown.out
        have hl := hL.out
        rw [← hl]
        rw [← hl] at ho
        exact OwnB.conv ho
      go_wp2
      go_ret
      exact ⟨txt L, hL.out, rfl, hbl⟩

/-- Some text of length n; only the cursor's block has turned. -/
def CurText (n : Nat) (base B : Nat) (w : World) (e : Ending) (w' : World) : Prop := ∃ s : ByteArray, s.size = n ∧ e = .returned (.string s) ∧ Cur w' base B ∧ w.grownBy w' (some B)

set_option maxHeartbeats 2000000 in
theorem l01Text_c (n : Nat) (base B : Nat) (w : World) (hc : Cur w base B) (hn : n ≤ 5000) :
    Calls Tryd.prog 42 #[.pointer (some ⟨B, 0, none⟩), .int .i64 (n : Int)] w (CurText n base B w) := by
  obtain ⟨i0, hi, hz0, hz1, hz2⟩ := info_parts info_u8
  have hB := hc.lt
  have d1 : decide ((5000 : Int) < (n : Int)) = false := decide_eq_false (by omega)
  go_enter Tryd.func42, Tryd.ntmps42
  go_wp2_with fail
  go_loopw [5, 6] (fun v i wr => ∃ (k : Nat) (L : List UInt8), k ≤ n ∧ i = .int .i64 (k : Int) ∧ Hid (L.length = k) ∧ Hid (OwnB wr w.heap.size v L) ∧ Cur wr base B ∧ w.grownBy wr (some B)) (fun _ i _ => n - (intOf i).toNat)
  case atStart => exact ⟨0, [], Nat.zero_le _, rfl, rfl, ownB_lit rfl (Nat.le_refl _), hc.below ((Below.refl _ _).alloc (Nat.le_refl _) _), only_alloc (only_refl w (some B)) _⟩
  case round =>
    obtain ⟨k, L, hk, rfl, hL, hown, hcu, hgr⟩ := hrel
    by_cases hlt : k < n
    · go_wp2_with fail
      refine (l01Byte_c base B _ hcu).mono ?_
      rintro e w2 ⟨x, ⟨hx0, hx1⟩, rfl, hcu2, hg2⟩
      have hap := hcu.apart hown.out (by decide)
      have hown2 := OwnB.kept hown.out hg2 (Or.inl hap)
      have hgr2 := only_trans hgr hg2
      obtain ⟨y, rfl⟩ := Int.eq_ofNat_of_zero_le hx0
      have hxw : Hid ((y : Int) = ((UInt8.ofNat y).toNat : Int)) := by show _ = _; rw [UInt8.toNat_ofNat']; omega
      have x1 : IntKind.u8.wrap (y : Int) = (y : Int) := IntWalk.u8_in _ ⟨by omega, by omega⟩
      have x2 : (y : Int) % 256 = (y : Int) := by omega
      have hsz2 := hgr2.size
      clear hown hcu hap hgr hg2
      go_wp2_with (at_builtin; refine wpList_append_own _ rfl _ _ 22 rfl w.heap.size 5 i0 (.int .u8 0) 1 1 Tryd.underlying22 hi hz0 hz1 hz2 rfl (by decide) _ _ _ rfl (World.ownsRow.alloc hown2 (.cells #[.int .u8 (y : Int)] 5)) ⟨w2.heap.size, 0, none⟩ 1 1 [.int .u8 (y : Int)] rfl rfl (one_news _ _ _) (one_byte _) ?c3 ?c4 ?c5 ?_)
      case c3 => have := hL.out; unfold maxLen; omega
      case c4 => have := hL.out; omega
      case c5 => simp; omega
      intro v' w3 hown3 hg3 _
      have hown4 := Lib.hid (ownB_push hxw.out hown3)
      have hcu3 := hcu2.below ((Below.refl _ _).alloc (Nat.le_refl _) (.cells #[.int .u8 (y : Int)] 5))
      have hap := hcu3.apart (World.ownsRow.alloc hown2 (.cells #[.int .u8 (y : Int)] 5)) (by decide)
      have hlt3 := World.ownsRow.lt hown2
      have hbase := hc.le
      have hcu4 := hcu3.grown hg3 hap (fun j hj => by have := (hlt3 j hj).1; omega)
      have hgr4 := only_own (only_alloc hgr2 (.cells #[.int .u8 (y : Int)] 5)) hg3 (fun j hj => (hlt3 j hj).1)
      have HL1 : Hid ((L ++ [UInt8.ofNat y]).length = k + 1) := by show _ = _; rw [List.length_append, hL.out]; rfl
      clear hown3 hg3 hap hlt3 hcu3 hcu2 hown2 hL x1 x2
      go_wp2
      go_roundw
      case rel => exact ⟨k + 1, _, by omega, by go_num, HL1, hown4, hcu4, hgr4⟩
      case measure => simp [intOf]; omega
    · obtain rfl : k = n := by omega
      rcases hown.out.slice with ⟨rfl, rfl⟩ | ⟨g, cap, rfl, _⟩
      · have hcv : (convert 22 9 (.slice none 0 0)).run Tryd.prog wr = .ok (.string (txt [])) wr := by kernel_rfl
        go_wp2
        go_ret
        exact ⟨txt [], hL.out, rfl, hcu, hgr⟩
      · have hcv := OwnB.conv hown.out
        go_wp2
        go_ret
        exact ⟨txt L, hL.out, rfl, hcu, hgr⟩

/-- Some text of at most m bytes, new blocks. -/
def DrawnText (m : Nat) (w : World) (e : Ending) (w' : World) : Prop := ∃ s : ByteArray, s.size ≤ m ∧ e = .returned (.string s) ∧ Below w.heap.size w w'

set_option maxHeartbeats 1000000 in
theorem drawEncodeHex_c (A : Option Addr) (n cap : Nat) (w : World) (hb : Bytes w w.heap.size A n) (hn : n ≤ 2000000) :
    Calls Tryd.prog 25 #[.slice A n cap] w (DrawnText 20001 w) := by
  have HB := Lib.hid hb
  clear hb
  go_enter Tryd.func25, Tryd.ntmps25
  go_wp2_with fail
  refine (l01New_c w.heap.size A n cap _ HB.out hn (Nat.le_refl _)).mono ?_
  rintro e w1 ⟨B, rfl, hB, hcur, hbel⟩
  go_wp2_with fail
  refine (l01Once_c w.heap.size B 60 _ hcur (by omega)).mono ?_
  rintro e w2 ⟨b, rfl, hcu2, hg2⟩
  have hbl2 := below_only hbel hg2 hcur.le
  clear hcur hbel hg2
  cases b
  · go_wp2_with fail
    refine (l01Below_c w.heap.size B 30 _ hcu2 (by omega)).mono ?_
    rintro e w3 ⟨x, ⟨hx0, hx1⟩, rfl, hcu3, hg3⟩
    obtain ⟨y, rfl⟩ := Int.eq_ofNat_of_zero_le hx0
    have hbl3 := below_only hbl2 hg3 hcu2.le
    go_wp2_with fail
    refine (l01Text_c y w.heap.size B _ hcu3 (by omega)).mono ?_
    rintro e w4 ⟨s, hs, rfl, hcu4, hg4⟩
    have hbl4 := below_only hbl3 hg4 hcu3.le
    go_wp2
    go_ret
    exact ⟨s, by omega, rfl, hbl4⟩
  · go_wp2_with fail
    refine (l01Below_c w.heap.size B 2 _ hcu2 (by omega)).mono ?_
    rintro e w3 ⟨x, ⟨hx0, hx1⟩, rfl, hcu3, hg3⟩
    obtain ⟨y, rfl⟩ := Int.eq_ofNat_of_zero_le hx0
    have hbl3 := below_only hbl2 hg3 hcu2.le
    have hy : (20000 : Int) + (y : Int) = ((20000 + y : Nat) : Int) := by omega
    have x1 : IntKind.i64.wrap ((20000 : Int) + (y : Int)) = (20000 : Int) + (y : Int) := IntWalk.i64_in _ ⟨by omega, by omega⟩
    have HC := Lib.hid (l01Long_c (20000 + y) 200 200 rfl w3 (by omega))
    rw [← hy] at HC
    clear hcu2 hg3 hbl2 hy
    go_wp2_with (go_at_call 30; refine HC.out.mono ?_; rintro e w4 ⟨s, hs, rfl, hb4⟩)
    go_ret
    exact ⟨s, by omega, rfl, andThen hbl3 hb4⟩

end Go.Proofs.YtcibffmhlamcdaaDoor
