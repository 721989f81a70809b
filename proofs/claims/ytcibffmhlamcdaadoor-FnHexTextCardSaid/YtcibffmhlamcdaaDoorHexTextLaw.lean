/-
  The walk of the law FnHexText: a text can be decoded from its hexadecimal digits, longer texts are rejected. Conditions: the library's table of powers of ten and its variable ErrLength hold what the program's text lays there.
-/
import Derived.Test.YtcibffmhlamcdaaDoorHexDec
import Derived.Test.YtcibffmhlamcdaaDoorDrawStr
import Derived.Laws.BytesArg
namespace Go.Proofs.YtcibffmhlamcdaaDoor
open Go.RowKit Go.Sort
set_option linter.unusedVariables false
set_option maxRecDepth 4000

def encH (l : List UInt8) : List UInt8 × Bool := if l.length ≤ 20000 then (Lib.Hx.encode l, true) else ([], false)

set_option maxHeartbeats 1000000 in
theorem implEncodeHex_c (s : ByteArray) (w : World) (hs : s.size ≤ 1048576) :
    Calls Tryd.prog 26 #[.string s] w fun e w' => e = .returned (.tuple #[.string (txt (encH s.data.toList).1), .bool (encH s.data.toList).2]) ∧ Below w.heap.size w w' := by
  have hsl : s.data.toList.length = s.size := by simp
  by_cases hn : s.size ≤ 20000
  · have HE : Hid (encH s.data.toList = (Lib.Hx.encode s.data.toList, true)) := if_pos (by rw [hsl]; exact hn)
    have hcv := fun (w : World) => Lib.run_convert_string_bytes (P := Tryd.prog) w 9 22 5 s Tryd.underlying9 Tryd.underlying22 Tryd.underlying5
    have HC := Lib.hid (Tryd.hex_EncodeToString_bytes w.heap.size 0 (grownCap w s.size 0 5) s.data.toList (Lib.bytesWorld w 5 s)
      (fun i h => by
        have hi : i < s.size := by simpa using h
        rw [Nat.zero_add, Lib.bytesWorld_cell w 5 s i hi]
        have hi' : i < s.data.size := hi
        simp [List.getD, Array.getElem?_eq_getElem hi']) (by rw [Lib.bytesWorld_size]; omega) (by simp; omega))
    rw [hsl] at HC
    clear hsl
    go_enter Tryd.func26, Tryd.ntmps26
    go_wp2_with (go_at_call 39; refine HC.out.mono ?_; rintro e w1 ⟨rfl, b1⟩)
    refine bodyPost_ret (v := .tuple #[.string (txt (Lib.Hx.encode s.data.toList)), .bool true]) (by simp [results, Tryd.results26, go_sem, txt]) rfl ?_
    exact ⟨by rw [HE.out], andThen (below_bytes _ _ _) b1⟩
  · have HE : Hid (encH s.data.toList = ([], false)) := if_neg (by rw [hsl]; exact hn)
    clear hsl
    go_enter Tryd.func26, Tryd.ntmps26
    go_wp2
    refine bodyPost_ret (v := .tuple #[.string (txt []), .bool false]) (by simp [results, Tryd.results26, go_sem, txt]) rfl ?_
    exact ⟨by rw [HE.out], Below.refl _ _⟩

set_option maxHeartbeats 2000000 in
theorem walk_FnHexText (w : World) (A : Option Addr) (n cap : Nat) (z : List Int) (hr : IsRow .u8 w A n cap z) (ht : PowTab w) (hE : ErrAt 2 w) :
    Calls Tryd.prog 9 #[.slice A n cap] w fun e w' => e = .returned (.bool true) ∧ Below w.heap.size w w' := by
  have hb := bytes0_of_row hr
  clear hr
  have HX := Lib.hid (And.intro ht hE)
  clear ht hE
  cases hbig : decide (1048576 < n)
  case true =>
    go_enter Tryd.func9, Tryd.ntmps9
    go_wp2_with (go_at_call 10; refine (big_c _ _ _ _).mono ?_; rintro e w' ⟨rfl, rfl⟩)
    go_ret
    exact ⟨rfl, Below.refl _ _⟩
  case false =>
    have hn : n ≤ 2000000 := by have := of_decide_eq_false hbig; omega
    have HB := Lib.hid hb
    clear hb
    go_enter Tryd.func9, Tryd.ntmps9
    go_wp2_with fail
    refine (big_c _ _ _ _).mono ?_
    rintro e w' ⟨rfl, rfl⟩
    go_wp2_with fail
    refine (drawEncodeHex_c _ _ _ _ HB.out hn).mono ?_
    rintro e w1 ⟨s, hs, rfl, b1⟩
    have hsl : s.data.toList.length = s.size := by simp
    by_cases hl : s.size ≤ 20000
    · have HE : Hid (encH s.data.toList = (Lib.Hx.encode s.data.toList, true)) := if_pos (by rw [hsl]; exact hl)
      have hel := Lib.Hx.encode_length s.data.toList
      rw [hsl] at hel
      have HD : Hid (decHex (Lib.Hx.encode s.data.toList) = (s.data.toList, true)) := by
        show _ = _
        rw [decHex_some (unhex_encode s.data.toList), if_pos (by rw [hsl]; exact hl)]
      have d1 : decide ((20000 : Int) < (s.size : Int)) = false := decide_eq_false (by omega)
      have x1 : IntKind.i64.wrap (2 * (s.size : Int)) = 2 * (s.size : Int) := IntWalk.i64_in _ ⟨by omega, by omega⟩
      clear hsl
      go_wp2_with fail
      refine (implEncodeHex_c s _ (by omega)).mono ?_
      rintro e w2 ⟨rfl, b2⟩
      rw [HE.out]
      have l2 := andThen b1 b2
      have HC := Lib.hid (implDecodeHex_c (txt (Lib.Hx.encode s.data.toList)) w2 (by rw [txt_size, hel]; omega) (HX.out.2.later l2))
      rw [txt_data, HD.out] at HC
      have hts : (txt (Lib.Hx.encode s.data.toList)).size = 2 * s.size := by rw [txt_size, hel]
      generalize txt (Lib.Hx.encode s.data.toList) = T at *
      have hst : txt s.data.toList = s := txt_list s
      go_wp2_with fail
      refine HC.out.mono ?_
      rintro e w3 ⟨rfl, b3⟩
      rw [hst]
      clear hel hst
      go_wp2
      go_ret
      exact ⟨rfl, andThen l2 b3⟩
    · have HE : Hid (encH s.data.toList = ([], false)) := if_neg (by rw [hsl]; exact hl)
      have d1 : decide ((20000 : Int) < (s.size : Int)) = true := decide_eq_true (by omega)
      have h10 : Hid (txt (Lib.itoa 10) = ⟨#[49, 48]⟩) := by
        show _ = _
        have : Lib.itoa 10 = [49, 48] := by
          unfold Lib.itoa
          rw [if_neg (by decide)]
          show Lib.decDigits 10 = _
          rw [Lib.decDigits_two (by decide) (by decide)]
          decide
        rw [this]
        rfl
      clear hsl
      go_wp2_with fail
      refine (implEncodeHex_c s _ (by omega)).mono ?_
      rintro e w2 ⟨rfl, b2⟩
      rw [HE.out]
      have l2 := andThen b1 b2
      have HC := Lib.hid (implFormatInt_c 10 w2 ⟨by decide, by decide⟩ (HX.out.1.later l2))
      rw [h10.out] at HC
      have ht0 : txt [] = ⟨#[]⟩ := rfl
      rw [ht0]
      go_wp2_with (go_at_call 14; refine HC.out.mono ?_; rintro e w3 ⟨rfl, b3⟩)
      go_ret
      exact ⟨rfl, andThen l2 b3⟩

end Go.Proofs.YtcibffmhlamcdaaDoor
