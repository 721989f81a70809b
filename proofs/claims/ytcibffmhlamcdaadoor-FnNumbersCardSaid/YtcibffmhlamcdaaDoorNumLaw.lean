/-
  The walk of the law FnNumbers: exactly the numbers from 0 to 1000000000 can be parsed from their decimal text. Conditions: the library's table of powers of ten and its variable ErrSyntax hold what the program's text lays there.
-/
import Derived.Test.YtcibffmhlamcdaaDoorPrs
import Derived.Test.YtcibffmhlamcdaaDoorPick
namespace Go.Proofs.YtcibffmhlamcdaaDoor
open Go.RowKit Go.Sort
set_option linter.unusedVariables false
set_option maxRecDepth 4000

theorem wrap_i64_in (n : Int) : isI64 (IntKind.i64.wrap n) := by
  unfold isI64
  rw [IntKind.wrap_i64]
  omega
theorem wrap64_range (n : Int) : isI64 (wrap64 n) := by
  unfold isI64 wrap64
  omega
theorem itoa_len {n : Int} (h : isI64 n) : (Lib.itoa n).length ≤ 20 := by
  obtain ⟨h0, h1⟩ := h
  unfold Lib.itoa
  split
  · rw [List.length_cons, Lib.decDigits_length]
    have := nDigits_le 18 n.natAbs (by omega)
    omega
  · rw [Lib.decDigits_length]
    have := nDigits_le 18 n.toNat (by omega)
    omega

/-- Some int64, new blocks. -/
def DrawnInt (w : World) (e : Ending) (w' : World) : Prop := ∃ x : Int, isI64 x ∧ e = .returned (.int .i64 x) ∧ Below w.heap.size w w'

set_option maxHeartbeats 1000000 in
theorem drawFormatInt_c (A : Option Addr) (n cap : Nat) (w : World) (hb : Bytes w w.heap.size A n) (hn : n ≤ 2000000) :
    Calls Tryd.prog 18 #[.slice A n cap] w (DrawnInt w) := by
  have HB := Lib.hid hb
  clear hb
  go_enter Tryd.func18, Tryd.ntmps18
  go_wp2_with fail
  refine (l01New_c w.heap.size A n cap _ HB.out hn (Nat.le_refl _)).mono ?_
  rintro e w1 ⟨B, rfl, hB, hcur, hbel⟩
  go_wp2_with fail
  refine (l01Once_c w.heap.size B 3 _ hcur (by omega)).mono ?_
  rintro e w2 ⟨b, rfl, hcu2, hg2⟩
  have hbl2 := below_only hbel hg2 hcur.le
  cases b
  · go_wp2_with fail
    refine (l01Number_c w.heap.size B _ hcu2).mono ?_
    rintro e w3 ⟨x, hx, rfl, hcu3, hg3⟩
    go_wp2
    go_ret
    exact ⟨x, hx, rfl, below_only hbl2 hg3 hcu2.le⟩
  · go_wp2_with fail
    refine (l01Below_c w.heap.size B 1000000 _ hcu2 (by omega)).mono ?_
    rintro e w3 ⟨x, ⟨hx0, hx1⟩, rfl, hcu3, hg3⟩
    have hbl3 := below_only hbl2 hg3 hcu2.le
    go_wp2_with fail
    refine (l01Below_c w.heap.size B 2000000 _ hcu3 (by omega)).mono ?_
    rintro e w4 ⟨y, ⟨hy0, hy1⟩, rfl, hcu4, hg4⟩
    have hbl4 := below_only hbl3 hg4 hcu3.le
    clear hcu2 hg2 hcu3 hg3 hg4 hcur hbel hbl2 hbl3
    go_wp2
    go_ret
    exact ⟨wrap64 (x * (y - 1000000)), wrap64_range _, rfl, hbl4⟩

set_option maxHeartbeats 2000000 in
theorem walk_FnNumbers (w : World) (A : Option Addr) (n cap : Nat) (z : List Int) (hr : IsRow .u8 w A n cap z) (ht : PowTab w) (hE : ErrAt 3 w) :
    Calls Tryd.prog 5 #[.slice A n cap] w fun e w' => e = .returned (.bool true) ∧ Below w.heap.size w w' := by
  have hb := bytes0_of_row hr
  clear hr
  have HX := Lib.hid (And.intro ht hE)
  clear ht hE
  cases hbig : decide (1048576 < n)
  case true =>
    go_enter Tryd.func5, Tryd.ntmps5
    go_wp2_with (go_at_call 10; refine (big_c _ _ _ _).mono ?_; rintro e w' ⟨rfl, rfl⟩)
    go_ret
    exact ⟨rfl, Below.refl _ _⟩
  case false =>
    have hn : n ≤ 2000000 := by have := of_decide_eq_false hbig; omega
    have HB := Lib.hid hb
    clear hb
    go_enter Tryd.func5, Tryd.ntmps5
    go_wp2_with fail
    refine (big_c _ _ _ _).mono ?_
    rintro e w' ⟨rfl, rfl⟩
    go_wp2_with fail
    refine (drawFormatInt_c _ _ _ _ HB.out hn).mono ?_
    rintro e w1 ⟨x, hx, rfl, b1⟩
    go_wp2_with fail
    refine (implFormatInt_c x _ hx (HX.out.1.later b1)).mono ?_
    rintro e w2 ⟨rfl, b2⟩
    have l2 := andThen b1 b2
    have hlen := itoa_len hx
    have HP := Lib.hid (prs_itoa x)
    have HC := Lib.hid (implParseUint_c (txt (Lib.itoa x)) w2 (by rw [txt_size]; omega) (HX.out.1.later l2) (HX.out.2.later l2))
    have hne : ((txt (Lib.itoa x)).toList = []) = False := by rw [ByteArray.toList_eq, txt_data, eq_iff_iff]; exact ⟨fun h => itoa_ne x h, False.elim⟩
    have hne2 : (txt (Lib.itoa x)).toList.isEmpty = false := by rw [← Bool.not_eq_true, List.isEmpty_iff]; intro h; rw [hne] at h; exact h
    rw [txt_data] at HC
    rw [HP.out] at HC
    have hxx := hx
    obtain ⟨h0, h1⟩ := hxx
    by_cases hin : 0 ≤ x ∧ x ≤ 1000000000
    · rw [if_pos hin] at HC
      obtain ⟨i0, i1⟩ := hin
      generalize Lib.itoa x = T at *
      clear HP
      go_wp2_with fail
      refine HC.out.mono ?_
      rintro e w3 ⟨rfl, b3⟩
      go_wp2
      go_ret
      exact ⟨rfl, andThen l2 b3⟩
    · rw [if_neg hin] at HC
      generalize Lib.itoa x = T at *
      clear HP
      go_wp2_with fail
      refine HC.out.mono ?_
      rintro e w3 ⟨rfl, b3⟩
      by_cases h00 : 0 ≤ x
      · have h01 : ¬ x ≤ 1000000000 := fun h => hin ⟨h00, h⟩
        go_wp2
        go_ret
        exact ⟨rfl, andThen l2 b3⟩
      · go_wp2
        go_ret
        exact ⟨rfl, andThen l2 b3⟩

end Go.Proofs.YtcibffmhlamcdaaDoor
