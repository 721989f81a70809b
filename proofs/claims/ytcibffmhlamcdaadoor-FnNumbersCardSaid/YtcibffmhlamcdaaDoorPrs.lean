/-
  ParseUint of both packages gives the number that the text spells, if it lies in range and the text is its numeral; the walk of the law FnExactParseUint. Conditions: the text is a Go string; the library's table of powers of ten and its variable ErrSyntax hold what the program's text lays there.
-/
import Derived.Test.YtcibffmhlamcdaaDoorFmt
namespace Go.Proofs.YtcibffmhlamcdaaDoor
open Go.RowKit Go.Sort
set_option linter.unusedVariables false
set_option maxRecDepth 4000

theorem txt_beq (l : List UInt8) (s : ByteArray) : ((txt l).toList == s.toList) = decide (l = s.data.toList) := by
  rw [ByteArray.toList_eq, ByteArray.toList_eq]
  by_cases h : l = s.data.toList
  · rw [decide_eq_true h]; exact beq_iff_eq.2 h
  · rw [decide_eq_false h]; exact beq_eq_false_iff_ne.2 h

set_option maxHeartbeats 1000000 in
theorem implParseUint_c (s : ByteArray) (w : World) (hs : s.size ≤ 1048576) (ht : PowTab w) (hE : ErrAt 3 w) :
    Calls Tryd.prog 17 #[.string s] w fun e w' => e = .returned (.tuple #[.int .i64 (prs s.data.toList).1, .bool (prs s.data.toList).2]) ∧ Below w.heap.size w w' := by
  have hsl : s.data.toList.length = s.size := by simp
  by_cases h10 : 10 < s.size
  · have HI := Lib.hid (prs_long (l := s.data.toList) (by rw [hsl]; exact h10))
    have d1 : decide ((10 : Int) < (s.size : Int)) = true := decide_eq_true (by omega)
    clear hsl
    go_enter Tryd.func17, Tryd.ntmps17
    go_wp2
    refine bodyPost_ret (v := .tuple #[.int .i64 0, .bool false]) (by simp [results, Tryd.results17, go_sem]) rfl ?_
    exact ⟨by rw [HI.out], Below.refl _ _⟩
  · have d1 : decide ((10 : Int) < (s.size : Int)) = false := decide_eq_false (by omega)
    clear hsl
    cases ha : Lib.atoi s.data.toList with
    | none =>
      obtain ⟨te, pe, hE⟩ := hE
      have HI := Lib.hid (prs_atoi_none ha)
      have HC := Lib.hid (Tryd.strconv_Atoi_err s (by omega) ha (.iface te pe) w hE (.inr ⟨te, pe, rfl⟩))
      clear ha hE ht
      go_enter Tryd.func17, Tryd.ntmps17
      go_wp2_with fail
      refine HC.out.mono ?_
      rintro e w1 ⟨N, rfl, _, _, b1⟩
      go_wp2
      refine bodyPost_ret (v := .tuple #[.int .i64 0, .bool false]) (by simp [results, Tryd.results17, go_sem]) rfl ?_
      exact ⟨by rw [HI.out], b1⟩
    | some n =>
      have HP := Lib.hid (prs_atoi_some ha)
      have HC := Lib.hid (Tryd.strconv_Atoi s n (by omega) ha w)
      have HT := Lib.hid ht
      clear ha hE ht
      by_cases hin : 0 ≤ n ∧ n ≤ 1000000000
      · have hb := inB_true hin.1 hin.2
        obtain ⟨i0, i1⟩ := hin
        by_cases he : Lib.itoa n = s.data.toList
        · have HI : Hid (prs s.data.toList = (n, true)) := by show _ = _; rw [HP.out, if_pos ⟨⟨i0, i1⟩, he⟩]
          have hq : ((txt (Lib.itoa n)).toList == s.toList) = true := by rw [txt_beq]; exact decide_eq_true he
          clear HP he
          go_enter Tryd.func17, Tryd.ntmps17
          go_wp2_with fail
          refine HC.out.mono ?_
          rintro e w1 ⟨rfl, t, rfl⟩
          have b1 := below_bytes w 5 t
          generalize Lib.bytesWorld w 5 t = w1 at b1 ⊢
          go_wp2_with (first
            | (go_at_call 32; refine (within_c _ _ _ _).mono ?_; rintro e w' ⟨rfl, rfl⟩; rw [hb])
            | (go_at_call 14; refine (implFormatInt_c n _ ⟨by omega, by omega⟩ (HT.out.later b1)).mono ?_; rintro e w2 ⟨rfl, b2⟩))
          refine bodyPost_ret (v := .tuple #[.int .i64 n, .bool true]) (by simp [results, Tryd.results17, go_sem]) rfl ?_
          exact ⟨by rw [HI.out], andThen b1 b2⟩
        · have HI : Hid (prs s.data.toList = (0, false)) := by show _ = _; rw [HP.out, if_neg (fun h => he h.2)]
          have hq : ((txt (Lib.itoa n)).toList == s.toList) = false := by rw [txt_beq]; exact decide_eq_false he
          clear HP he
          go_enter Tryd.func17, Tryd.ntmps17
          go_wp2_with fail
          refine HC.out.mono ?_
          rintro e w1 ⟨rfl, t, rfl⟩
          have b1 := below_bytes w 5 t
          generalize Lib.bytesWorld w 5 t = w1 at b1 ⊢
          go_wp2_with (first
            | (go_at_call 32; refine (within_c _ _ _ _).mono ?_; rintro e w' ⟨rfl, rfl⟩; rw [hb])
            | (go_at_call 14; refine (implFormatInt_c n _ ⟨by omega, by omega⟩ (HT.out.later b1)).mono ?_; rintro e w2 ⟨rfl, b2⟩))
          refine bodyPost_ret (v := .tuple #[.int .i64 0, .bool false]) (by simp [results, Tryd.results17, go_sem]) rfl ?_
          exact ⟨by rw [HI.out], andThen b1 b2⟩
      · have HI : Hid (prs s.data.toList = (0, false)) := by show _ = _; rw [HP.out, if_neg (fun h => hin h.1)]
        have hb : inB n 0 1000000000 = false := by
          rw [← Bool.not_eq_true]
          intro h
          exact hin (inB_iff.1 h)
        clear HP
        go_enter Tryd.func17, Tryd.ntmps17
        go_wp2_with fail
        refine HC.out.mono ?_
        rintro e w1 ⟨rfl, t, rfl⟩
        have b1 := below_bytes w 5 t
        generalize Lib.bytesWorld w 5 t = w1 at b1 ⊢
        go_wp2_with (go_at_call 32; refine (within_c _ _ _ _).mono ?_; rintro e w' ⟨rfl, rfl⟩; rw [hb])
        refine bodyPost_ret (v := .tuple #[.int .i64 0, .bool false]) (by simp [results, Tryd.results17, go_sem]) rfl ?_
        exact ⟨by rw [HI.out], b1⟩

theorem decFrom_no {l : List UInt8} {k : Nat} {b : UInt8} (h : l[k]? = some b) (hb : Lib.digitVal b = none) : Lib.decFrom 0 l = none := by
  cases hd : Lib.decFrom 0 l with
  | none => rfl
  | some n =>
    obtain ⟨d, e⟩ := Lib.digit_of_decFrom l 0 n hd k b h
    rw [hb] at e
    cases e
theorem digitVal_in {b : UInt8} (h : 48 ≤ b.toNat ∧ b.toNat ≤ 57) : Lib.digitVal b = some (b.toNat - 48) := if_pos h
theorem digitVal_out {b : UInt8} (h : ¬ (48 ≤ b.toNat ∧ b.toNat ≤ 57)) : Lib.digitVal b = none := if_neg h
theorem byte_at (s : ByteArray) (k : Nat) (h : k < s.size) : s.data.toList[k]? = some s[k] := by
  have h' : k < s.data.size := h
  simp [Array.getElem?_eq_getElem h']
  rfl
theorem decFrom_bound {l : List UInt8} {k m : Nat} (h : Lib.decFrom 0 (l.take k) = some m) (hk : k ≤ 10) : m < 10000000000 := by
  have h1 := Lib.decFrom_lt _ _ _ h
  have h2 : (l.take k).length ≤ 10 := by rw [List.length_take]; omega
  have h3 : 10 ^ (l.take k).length ≤ 10 ^ 10 := Nat.pow_le_pow_right (by decide) h2
  omega

set_option maxHeartbeats 2000000 in
theorem specParseUint_c (s : ByteArray) (w : World) (hs : s.size ≤ 1048576) :
    Calls Tryd.prog 16 #[.string s] w fun e w' => e = .returned (.tuple #[.int .i64 (prs s.data.toList).1, .bool (prs s.data.toList).2]) ∧ Below w.heap.size w w' := by
  have hsl : s.data.toList.length = s.size := by simp
  by_cases h10 : 10 < s.size
  · have HI := Lib.hid (prs_long (l := s.data.toList) (by rw [hsl]; exact h10))
    have d1 : decide ((10 : Int) < (s.size : Int)) = true := decide_eq_true (by omega)
    clear hsl
    go_enter Tryd.func16, Tryd.ntmps16
    go_wp2
    refine bodyPost_ret (v := .tuple #[.int .i64 0, .bool false]) (by simp [results, Tryd.results16, go_sem]) rfl ?_
    exact ⟨by rw [HI.out], Below.refl _ _⟩
  · have d1 : decide ((10 : Int) < (s.size : Int)) = false := decide_eq_false (by omega)
    have HSL := Lib.hid hsl
    clear hsl
    go_enter Tryd.func16, Tryd.ntmps16
    go_wp2_with fail
    go_loopw [4, 5] (fun v i wr => ∃ (k m : Nat), k ≤ s.size ∧ i = .int .i64 (k : Int) ∧ v = .int .i64 (m : Int) ∧ m < 10000000000 ∧ Hid (Lib.decFrom 0 (s.data.toList.take k) = some m) ∧ wr = w) (fun _ i _ => s.size - (intOf i).toNat)
    case atStart => exact ⟨0, 0, Nat.zero_le _, rfl, rfl, by decide, rfl, rfl⟩
    case round =>
      obtain ⟨k, m, hk, rfl, rfl, hm, hd, rfl⟩ := hrel
      by_cases hlt : k < s.size
      · have k0 : (0 : Int) ≤ (k : Int) := by omega
        have k1 : (k : Int) < (s.size : Int) := by omega
        have hat := byte_at s k hlt
        obtain ⟨c, hc⟩ : ∃ c : UInt8, s[k] = c := ⟨_, rfl⟩
        have hcn : s[k].toNat = c.toNat := by rw [hc]
        rw [hc] at hat
        obtain ⟨b, hb⟩ : ∃ b : Nat, c.toNat = b := ⟨_, rfl⟩
        have hb255 : b < 256 := by rw [← hb]; exact c.toNat_lt
        rw [hb] at hcn
        by_cases hdg : 48 ≤ b ∧ b ≤ 57
        · have HN : Hid (Lib.decFrom 0 (s.data.toList.take (k + 1)) = some (m * 10 + (b - 48))) := Lib.decFrom_take _ _ _ _ _ _ hd.out hat (by rw [digitVal_in (by rw [hb]; exact hdg), hb])
          have hm2 := decFrom_bound HN.out (by omega)
          obtain ⟨g0, g1⟩ := hdg
          have e1 : decide ((b : Int) < 48) = false := decide_eq_false (by omega)
          have e2 : decide ((57 : Int) < (b : Int)) = false := decide_eq_false (by omega)
          have x1 : IntKind.i64.wrap (b : Int) = (b : Int) := IntWalk.i64_in _ ⟨by omega, by omega⟩
          clear hc hat hb
          go_wp2_with fail
          go_roundw
          case rel => exact ⟨k + 1, m * 10 + (b - 48), by omega, by go_num, by congr 1; omega, hm2, HN, trivial⟩
          case measure => simp [intOf]; omega
        · have HI := Lib.hid (prs_no (decFrom_no hat (digitVal_out (by rw [hb]; exact hdg))))
          clear hc hat hb
          by_cases hl : b < 48
          · have e1 : decide ((b : Int) < 48) = true := decide_eq_true (by omega)
            go_wp2_with fail
            refine bodyPost_ret (v := .tuple #[.int .i64 0, .bool false]) (by simp [results, Tryd.results16, go_sem]) rfl ?_
            exact ⟨by rw [HI.out], Below.refl _ _⟩
          · have e1 : decide ((b : Int) < 48) = false := decide_eq_false (by omega)
            have e2 : decide ((57 : Int) < (b : Int)) = true := decide_eq_true (by omega)
            go_wp2_with fail
            refine bodyPost_ret (v := .tuple #[.int .i64 0, .bool false]) (by simp [results, Tryd.results16, go_sem]) rfl ?_
            exact ⟨by rw [HI.out], Below.refl _ _⟩
      · obtain rfl : k = s.size := by omega
        have htk : s.data.toList.take s.size = s.data.toList := List.take_of_length_le (by simp)
        have hd2 := hd.out
        rw [htk] at hd2
        have HP := Lib.hid (prs_some hd2)
        clear hd2 htk hd
        by_cases hbig : 1000000000 < m
        · have HI : Hid (prs s.data.toList = (0, false)) := by show _ = _; rw [HP.out, if_neg (by omega)]
          have e1 : decide ((1000000000 : Int) < (m : Int)) = true := decide_eq_true (by omega)
          clear HP
          go_wp2_with fail
          refine bodyPost_ret (v := .tuple #[.int .i64 0, .bool false]) (by simp [results, Tryd.results16, go_sem]) rfl ?_
          exact ⟨by rw [HI.out], Below.refl _ _⟩
        · have e1 : decide ((1000000000 : Int) < (m : Int)) = false := decide_eq_false (by omega)
          have HA : Hid (Lib.itoa (m : Int) = Lib.decDigits m) := by show _ = _; unfold Lib.itoa; rw [if_neg (by omega)]; rfl
          by_cases he : Lib.decDigits m = s.data.toList
          · have HI : Hid (prs s.data.toList = ((m : Int), true)) := by show _ = _; rw [HP.out, if_pos ⟨by omega, he⟩]
            have hq : ((txt (Lib.itoa (m : Int))).toList == s.toList) = true := by rw [txt_beq, HA.out]; exact decide_eq_true he
            clear HP he
            go_wp2_with (go_at_call 21; refine (specFormatInt_c (m : Int) _ ⟨by omega, by omega⟩).mono ?_; rintro e w2 ⟨rfl, b2⟩)
            refine bodyPost_ret (v := .tuple #[.int .i64 (m : Int), .bool true]) (by simp [results, Tryd.results16, go_sem]) rfl ?_
            exact ⟨by rw [HI.out], b2⟩
          · have HI : Hid (prs s.data.toList = (0, false)) := by show _ = _; rw [HP.out, if_neg (fun h => he h.2)]
            have hq : ((txt (Lib.itoa (m : Int))).toList == s.toList) = false := by rw [txt_beq, HA.out]; exact decide_eq_false he
            clear HP he
            go_wp2_with (go_at_call 21; refine (specFormatInt_c (m : Int) _ ⟨by omega, by omega⟩).mono ?_; rintro e w2 ⟨rfl, b2⟩)
            refine bodyPost_ret (v := .tuple #[.int .i64 0, .bool false]) (by simp [results, Tryd.results16, go_sem]) rfl ?_
            exact ⟨by rw [HI.out], b2⟩

set_option maxHeartbeats 1000000 in
theorem walk_FnExactParseUint (s : ByteArray) (hs : s.size ≤ maxLen) (w : World) (ht : PowTab w) (hE : ErrAt 3 w) :
    Calls Tryd.prog 4 #[.string s] w fun e w' => e = .returned (.bool true) ∧ Below w.heap.size w w' := by
  obtain ⟨E, o, he⟩ : ∃ E o, prs s.data.toList = (E, o) := ⟨_, _, rfl⟩
  have HE := Lib.hid he
  have HX := Lib.hid (And.intro ht hE)
  clear he hE ht
  unfold maxLen at hs
  by_cases hn : s.size ≤ 1048576
  · go_enter Tryd.func4, Tryd.ntmps4
    go_wp2_with fail
    refine (specParseUint_c s _ hn).mono ?_
    rintro e w1 ⟨rfl, b1⟩
    rw [HE.out]
    go_wp2_with fail
    refine (implParseUint_c s _ hn (HX.out.1.later b1) (HX.out.2.later b1)).mono ?_
    rintro e w2 ⟨rfl, b2⟩
    rw [HE.out]
    go_wp2
    go_ret
    exact ⟨rfl, andThen b1 b2⟩
  · go_enter Tryd.func4, Tryd.ntmps4
    go_wp2
    go_ret
    exact ⟨rfl, Below.refl _ _⟩

end Go.Proofs.YtcibffmhlamcdaaDoor
