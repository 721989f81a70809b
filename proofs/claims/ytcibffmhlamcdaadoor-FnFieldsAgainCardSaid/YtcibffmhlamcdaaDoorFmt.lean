/-
  FormatInt of both packages gives the decimal numeral; the walk of the law FnExactFormatInt. Conditions: the number is an int; the library's table of powers of ten holds them.
-/
import Derived.Test.YtcibffmhlamcdaaDoorOwnB
import Derived.Test.YtcibffmhlamcdaaDoorPure
import Derived.Test.YtcibffmhlamcdaaDoorShelf
import Derived.Test.YtcibffmhlamcdaaDoorLaidD
namespace Go.Proofs.YtcibffmhlamcdaaDoor
open Go.RowKit Go.Sort Go.ChangeAt
set_option linter.unusedVariables false
set_option maxRecDepth 4000

theorem below_grow (w : World) (k : Nat) (os : Array Obj) : Below w.heap.size w (grow (w.drewN k) os) :=
  ⟨rfl, rfl, rfl, by show w.heap.size ≤ (w.heap ++ os).size; rw [Array.size_append]; omega, fun j hj => by
    show (w.heap ++ os)[j]? = w.heap[j]?
    rw [Array.getElem?_append_left hj]⟩
theorem implFormatInt_c (n : Int) (w : World) (hn : -9223372036854775808 ≤ n ∧ n ≤ 9223372036854775807) (ht : PowTab w) :
    Calls Tryd.prog 14 #[.int .i64 n] w fun e w' => e = .returned (.string (txt (Lib.itoa n))) ∧ Below w.heap.size w w' := by
  have HC := Lib.hid (Tryd.strconv_Itoa n hn.1 hn.2 w ht)
  clear ht hn
  go_enter Tryd.func14, Tryd.ntmps14
  go_wp2_with (go_at_call 34; refine HC.out.mono ?_; rintro e w1 ⟨rfl, k, os, rfl⟩)
  go_ret
  exact ⟨rfl, below_grow _ _ _⟩

set_option maxHeartbeats 400000 in
theorem l01Fig_c (x : Int) (w : World) (h0 : 0 ≤ x) (h1 : x < 10) :
    Calls Tryd.prog 40 #[.int .i64 x] w fun e w' => e = .returned (.int .u8 (48 + x)) ∧ w = w' := by
  go_enter Tryd.func40, Tryd.ntmps40
  go_wp2
  go_ret
  exact ⟨ret_int (by first | rfl | omega), rfl⟩

theorem txt_append (a b : List UInt8) : txt a ++ txt b = txt (a ++ b) := by
  refine ByteArray.ext ?_
  simp [txt]
theorem conv_one (w : World) (c : UInt8) (x : Int) (hx : x = (c.toNat : Int)) :
    (convert 22 9 (.slice (some ⟨w.heap.size, 0, none⟩) 1 1)).run Tryd.prog (w.alloc (.cells #[.int .u8 x] 5)) = .ok (.string (txt [c])) (w.alloc (.cells #[.int .u8 x] 5)) :=
  run_convert_bytes_back _ 22 9 5 ⟨w.heap.size, 0, none⟩ 1 [c] Tryd.underlying22 Tryd.underlying5 Tryd.underlying9 fun j hj => by
    have hj0 : j = 0 := by simpa using hj
    subst hj0
    subst hx
    have e : (⟨w.heap.size, 0, none⟩ : Addr).add 0 = ⟨w.heap.size, 0, none⟩ := rfl
    rw [e]
    exact one_news w (.int .u8 (c.toNat : Int)) 5 0 _ rfl
theorem digs_len {u : Nat} (h : (u : Int) ≤ 9223372036854775808) : (digs u).length ≤ 19 := by
  unfold digs
  split
  · simp
  · rw [Lib.decDigits_length]
    exact nDigits_le 18 u (by omega)
/-- One digit more is read off. -/
theorem digs_more {u u0 : Nat} {l : List UInt8} {c : UInt8} (h : 0 < u) (hd : digs u ++ l = digs u0) (hc : UInt8.ofNat (48 + u % 10) = c) : digs (u / 10) ++ (c :: l) = digs u0 := by
  rw [← hd, digs_step h, hc, List.append_assoc]
  rfl

set_option maxHeartbeats 2000000 in
theorem specFormatInt_c (n : Int) (w : World) (hn : -9223372036854775808 ≤ n ∧ n ≤ 9223372036854775807) :
    Calls Tryd.prog 21 #[.int .i64 n] w fun e w' => e = .returned (.string (txt (Lib.itoa n))) ∧ Below w.heap.size w w' := by
  obtain ⟨hn0, hn1⟩ := hn
  by_cases hz : n = 0
  · subst hz
    have HE : Hid (Lib.itoa 0 = [48]) := by show _ = _; unfold Lib.itoa; rw [if_neg (by decide)]; exact Lib.decDigits_one (by decide)
    go_enter Tryd.func21, Tryd.ntmps21
    go_wp2
    go_ret
    exact ⟨by rw [HE.out]; rfl, Below.refl _ _⟩
  · by_cases hneg : n < 0
    · obtain ⟨u0, rfl⟩ : ∃ u0 : Nat, n = -(u0 : Int) := ⟨n.natAbs, by omega⟩
      have HE : Hid (Lib.itoa (-(u0 : Int)) = 45 :: digs u0) := by
        show _ = _
        unfold Lib.itoa
        rw [if_pos hneg, digs_pos (by omega), Int.natAbs_neg, Int.natAbs_natCast]
      have hz0 : (-(u0 : Int) == 0) = false := by rw [beq_eq_false_iff_ne]; exact hz
      have hn2 : 0 < u0 := by omega
      clear hz hneg
      go_enter Tryd.func21, Tryd.ntmps21
      go_wp2_with fail
      go_loopw [0, 4] (fun nv sv wr => ∃ (u : Nat) (l : List UInt8), (u : Int) ≤ 9223372036854775808 ∧ nv = .int .i64 (-(u : Int)) ∧ sv = .string (txt l) ∧ Hid (digs u ++ l = digs u0) ∧ Below w.heap.size w wr) (fun nv _ _ => (intOf nv).natAbs)
      case atStart => exact ⟨u0, [], by omega, rfl, rfl, (show digs u0 ++ [] = digs u0 from List.append_nil _), Below.refl _ _⟩
      case round =>
        obtain ⟨u, l, hu, rfl, rfl, hd, hbl⟩ := hrel
        have hll : l.length ≤ 19 := by
          have h1 := congrArg List.length hd.out
          have h2 := digs_len (u := u0) (by omega)
          rw [List.length_append] at h1
          omega
        by_cases hlt : 0 < u
        · obtain ⟨d, hdd⟩ : ∃ d : Nat, u % 10 = d := ⟨_, rfl⟩
          obtain ⟨c, hc⟩ : ∃ c : UInt8, UInt8.ofNat (48 + d) = c := ⟨_, rfl⟩
          have hd10 : d < 10 := by omega
          have HM : Hid (digs (u / 10) ++ (c :: l) = digs u0) := digs_more hlt hd.out (by rw [hdd, hc])
          have hcv : (c.toNat : Int) = 48 + (d : Int) := by rw [← hc, digit_byte d hd10]; omega
          have x1 : (-(u : Int)).tmod 10 = -(d : Int) := by rw [Int.neg_tmod, Int.tmod_eq_emod_of_nonneg (by omega)]; omega
          have hu0 : (-(u : Int) != 0) = true := by rw [bne_iff_ne]; omega
          have hsz : (9223372036854775807 < (txt [c]).size + (txt l).size) = False := by rw [txt_size, txt_size]; simp; omega
          clear hdd hc
          have HLT := Lib.hid hlt
          by_cases hd0 : d = 0
          · subst hd0
            have hcv2 := conv_one wr c 48 (by omega)
            clear hcv
            go_wp2_with (go_at_call 40; refine (l01Fig_c _ _ (by decide) (by decide)).mono ?_; rintro e w' ⟨rfl, rfl⟩)
            go_roundw
            case rel => exact ⟨u / 10, c :: l, by omega, by go_num, by rw [txt_append]; rfl, HM, andAlloc hbl _⟩
            case measure => simp [intOf]; omega
          · have hcv2 := conv_one wr c (48 + (d : Int)) hcv.symm
            have hd1 : 0 < d := by omega
            have c0 : (0 : Int) ≤ (d : Int) := by omega
            have c1 : (d : Int) < 10 := by omega
            clear hcv hd0
            go_wp2_with (go_at_call 40; refine (l01Fig_c _ _ c0 c1).mono ?_; rintro e w' ⟨rfl, rfl⟩)
            go_roundw
            case rel => exact ⟨u / 10, c :: l, by omega, by go_num, by rw [txt_append]; rfl, HM, andAlloc hbl _⟩
            case measure => simp [intOf]; omega
        · obtain rfl : u = 0 := by omega
          have hl0 : Hid (l = digs u0) := hd.out
          have hu0 : (-((0 : Nat) : Int) != 0) = false := by rfl
          have hsz : (9223372036854775807 < 1 + (txt l).size) = False := by rw [txt_size]; simp; omega
          go_wp2
          go_ret
          exact ⟨by rw [HE.out, ← hl0.out]; exact congrArg (fun x => Ending.returned (.string x)) (txt_append [45] l), hbl⟩
    · obtain ⟨u0, rfl⟩ : ∃ u0 : Nat, n = (u0 : Int) := ⟨n.toNat, by omega⟩
      have HE : Hid (Lib.itoa (u0 : Int) = digs u0) := by
        show _ = _
        unfold Lib.itoa
        rw [if_neg hneg, digs_pos (by omega), Int.toNat_natCast]
      have hz0 : ((u0 : Int) == 0) = false := by rw [beq_eq_false_iff_ne]; exact hz
      have hn2 : decide ((u0 : Int) < 0) = false := decide_eq_false (by omega)
      clear hz hneg
      go_enter Tryd.func21, Tryd.ntmps21
      go_wp2_with fail
      go_loopw [0, 4] (fun nv sv wr => ∃ (u : Nat) (l : List UInt8), (u : Int) ≤ 9223372036854775808 ∧ nv = .int .i64 ((u : Int)) ∧ sv = .string (txt l) ∧ Hid (digs u ++ l = digs u0) ∧ Below w.heap.size w wr) (fun nv _ _ => (intOf nv).natAbs)
      case atStart => exact ⟨u0, [], by omega, rfl, rfl, (show digs u0 ++ [] = digs u0 from List.append_nil _), Below.refl _ _⟩
      case round =>
        obtain ⟨u, l, hu, rfl, rfl, hd, hbl⟩ := hrel
        have hll : l.length ≤ 19 := by
          have h1 := congrArg List.length hd.out
          have h2 := digs_len (u := u0) (by omega)
          rw [List.length_append] at h1
          omega
        by_cases hlt : 0 < u
        · obtain ⟨d, hdd⟩ : ∃ d : Nat, u % 10 = d := ⟨_, rfl⟩
          obtain ⟨c, hc⟩ : ∃ c : UInt8, UInt8.ofNat (48 + d) = c := ⟨_, rfl⟩
          have hd10 : d < 10 := by omega
          have HM : Hid (digs (u / 10) ++ (c :: l) = digs u0) := digs_more hlt hd.out (by rw [hdd, hc])
          have hcv : (c.toNat : Int) = 48 + (d : Int) := by rw [← hc, digit_byte d hd10]; omega
          have x1 : ((u : Int)).tmod 10 = (d : Int) := by rw [Int.tmod_eq_emod_of_nonneg (by omega)]; omega
          have hu0 : ((u : Int) != 0) = true := by rw [bne_iff_ne]; omega
          have hsz : (9223372036854775807 < (txt [c]).size + (txt l).size) = False := by rw [txt_size, txt_size]; simp; omega
          clear hdd hc
          have HLT := Lib.hid hlt
          have hcv2 := conv_one wr c (48 + (d : Int)) hcv.symm
          have c0 : (0 : Int) ≤ (d : Int) := by omega
          have c1 : (d : Int) < 10 := by omega
          have c2 : decide ((d : Int) < 0) = false := decide_eq_false (by omega)
          clear hcv
          go_wp2_with (go_at_call 40; refine (l01Fig_c _ _ c0 c1).mono ?_; rintro e w' ⟨rfl, rfl⟩)
          go_roundw
          case rel => exact ⟨u / 10, c :: l, by omega, by go_num, by rw [txt_append]; rfl, HM, andAlloc hbl _⟩
          case measure => simp [intOf]; omega
        · obtain rfl : u = 0 := by omega
          have hl0 : Hid (l = digs u0) := hd.out
          have hu0 : (((0 : Nat) : Int) != 0) = false := by rfl
          go_wp2
          go_ret
          exact ⟨by rw [HE.out, ← hl0.out]; rfl, hbl⟩

set_option maxHeartbeats 1000000 in
theorem walk_FnExactFormatInt (n : Int) (hn : (Lit.int .i64 n).wf = true) (w : World) (ht : PowTab w) :
    Calls Tryd.prog 7 #[.int .i64 n] w fun e w' => e = .returned (.bool true) ∧ Below w.heap.size w w' := by
  have hb := bounds_i64 hn
  have HX := Lib.hid ht
  clear ht hn
  go_enter Tryd.func7, Tryd.ntmps7
  go_wp2_with fail
  refine (specFormatInt_c n _ hb).mono ?_
  rintro e w1 ⟨rfl, b1⟩
  go_wp2_with fail
  refine (implFormatInt_c n _ hb (HX.out.later b1)).mono ?_
  rintro e w2 ⟨rfl, b2⟩
  go_wp2
  go_ret
  exact ⟨rfl, andThen b1 b2⟩

end Go.Proofs.YtcibffmhlamcdaaDoor
