/-
  The walk of the law FnFieldsAgain: the fields of a line, joined by single spaces, have the same fields. Conditions: the library's tables of powers of ten and of white space hold what the program's text lays there.
-/
import Derived.Test.YtcibffmhlamcdaaDoorSplit
import Derived.Test.YtcibffmhlamcdaaDoorDrawFields
namespace Go.Proofs.YtcibffmhlamcdaaDoor
open Go.RowKit Go.Sort
set_option linter.unusedVariables false
set_option maxRecDepth 4000

set_option maxHeartbeats 1000000 in
theorem sameTexts_c (B B' : Nat) (v v' : Value) (L : List (List UInt8)) (w : World) (h1 : ReadsS w B v L) (h2 : ReadsS w B' v' L) (hl : L.length ≤ 1000000) :
    Calls Tryd.prog 15 #[v, v'] w fun e w' => e = .returned (.bool true) ∧ Drw w w' := by
  obtain ⟨A, cap, rfl, ha⟩ := h1
  obtain ⟨A', cap', rfl, ha'⟩ := h2
  have HA := Lib.hid ha
  have HA' := Lib.hid ha'
  clear ha ha'
  go_enter Tryd.func15, Tryd.ntmps15
  go_wp2_with fail
  go_loopw [5] (fun i wr => ∃ k : Nat, k ≤ L.length ∧ i = .int .i64 k ∧ Drw w wr) (fun i _ => L.length - (intOf i).toNat)
  case atStart => exact ⟨0, Nat.zero_le _, rfl, Drw.refl _⟩
  case round =>
    obtain ⟨k, hk, rfl, q, rfl⟩ := hrel
    by_cases hlt : k < L.length
    · obtain ⟨b, off, rfl, _, e1⟩ := HA.out k hlt
      obtain ⟨b', off', rfl, _, e2⟩ := HA'.out k hlt
      generalize txt L[k] = z at e1 e2
      have k0 : (0 : Int) ≤ (k : Int) := by omega
      have k1 : (k : Int) < (L.length : Int) := by omega
      go_wp2_with fail
      go_quiet (fail)
      go_wp2_with fail
      go_roundw
      case rel => exact ⟨k + 1, by omega, by go_num, _, rfl⟩
      case measure => simp [intOf]; omega
    · go_wp2
      go_ret
      exact ⟨rfl, q, rfl⟩

theorem fieldsGo_size : ∀ (l cur x : List UInt8), x ∈ Lib.fieldsGo cur l → x.length ≤ cur.length + l.length
  | [], cur, x, h => by
    unfold Lib.fieldsGo at h
    split at h
    · cases h
    · obtain rfl := List.mem_singleton.1 h
      simp
  | a :: l, cur, x, h => by
    rw [List.length_cons]
    cases ha : Lib.isSp a with
    | true =>
      cases cur with
      | nil =>
        rw [Lib.fieldsGo_sp a l ha] at h
        have := fieldsGo_size l [] x h
        simp at this ⊢
        omega
      | cons c cur =>
        rw [Lib.fieldsGo_end (c :: cur) a l ha (List.cons_ne_nil _ _)] at h
        rcases List.mem_cons.1 h with rfl | h
        · omega
        · have := fieldsGo_size l [] x h
          simp at this
          omega
    | false =>
      rw [Lib.fieldsGo_more cur a l ha] at h
      have := fieldsGo_size l (cur ++ [a]) x h
      rw [List.length_append] at this
      simp at this
      omega
theorem joined_take {L : List (List UInt8)} (h : ∀ x ∈ L, x.length ≤ 600) : ∀ k, k ≤ L.length → (joined (L.take k)).length ≤ 601 * k
  | 0, _ => by simp [joined]
  | k + 1, hk => by
    have ih := joined_take h k (by omega)
    rw [List.take_succ_eq_append_getElem (by omega), joined_snoc, List.length_append, List.length_append]
    have := h (L[k]'(by omega)) (List.getElem_mem _)
    simp
    omega
theorem joined_next {L : List (List UInt8)} {k : Nat} (hk : k < L.length) : joined (L.take (k + 1)) = joined (L.take k) ++ L[k] ++ [32] := by
  rw [List.take_succ_eq_append_getElem hk, joined_snoc]
theorem spl_cases (l : List UInt8) : (spl l = ([], false)) ∨ (l.length ≤ 600 ∧ (∀ b ∈ l, okByte b) ∧ (Lib.fields l).length ≤ 24 ∧ spl l = (Lib.fields l, true)) := by
  by_cases h : l.length ≤ 600 ∧ (∀ b ∈ l, okByte b) ∧ (Lib.fields l).length ≤ 24
  · exact .inr ⟨h.1, h.2.1, h.2.2, if_pos h⟩
  · exact .inl (if_neg h)

set_option maxHeartbeats 4000000 in
theorem walk_FnFieldsAgain (w : World) (A : Option Addr) (n cap : Nat) (z : List Int) (hr : IsRow .u8 w A n cap z) (ht : PowTab w) (hE : SpcTab w) :
    Calls Tryd.prog 3 #[.slice A n cap] w fun e w' => e = .returned (.bool true) ∧ Below w.heap.size w w' := by
  have hb := bytes0_of_row hr
  clear hr
  have HX := Lib.hid (And.intro ht hE)
  clear ht hE
  cases hbig : decide (1048576 < n)
  case true =>
    go_enter Tryd.func3, Tryd.ntmps3
    go_wp2_with (go_at_call 10; refine (big_c _ _ _ _).mono ?_; rintro e w' ⟨rfl, rfl⟩)
    go_ret
    exact ⟨rfl, Below.refl _ _⟩
  case false =>
    have hn : n ≤ 2000000 := by have := of_decide_eq_false hbig; omega
    have HB := Lib.hid hb
    clear hb
    go_enter Tryd.func3, Tryd.ntmps3
    go_wp2_with fail
    refine (big_c _ _ _ _).mono ?_
    rintro e w' ⟨rfl, rfl⟩
    go_wp2_with fail
    refine (drawSplitFields_c _ _ _ _ HB.out hn).mono ?_
    rintro e w1 ⟨s, hs, rfl, b1⟩
    have HI := Lib.hid (implSplitFields_c s w1 (by omega) (HX.out.2.later b1))
    have HS := Lib.hid (fun (w : World) => specSplitFields_c s w (by omega))
    rcases spl_cases s.data.toList with h0 | ⟨h6, hok, h24, h0⟩
    · rw [h0] at HI
      have HS2 : Hid (∀ w : World, Calls Tryd.prog 13 #[.string s] w (SplEnd ([], false) w)) := by
        intro w
        have := HS.out w
        rwa [h0] at this
      clear HS h0
      go_wp2_with fail
      refine HI.out.mono ?_
      rintro e w2 ⟨v1, rfl, o1, b2⟩
      have l2 := andThen b1 b2
      obtain ⟨A1, c1, rfl⟩ := o1.slice
      clear HI o1
      go_wp2_with fail
      refine (HS2.out _).mono ?_
      rintro e w3 ⟨v2, rfl, o2, b3⟩
      have l3 := andThen l2 b3
      have h3 : Hid (txt (Lib.itoa (-3)) = ⟨#[45, 51]⟩) := by
        show _ = _
        have : Lib.itoa (-3) = [45, 51] := by
          unfold Lib.itoa
          rw [if_pos (by decide)]
          show 45 :: Lib.decDigits 3 = _
          rw [Lib.decDigits_one (by decide)]
          decide
        rw [this]
        rfl
      have HC := Lib.hid (implFormatInt_c (-3) w3 ⟨by decide, by decide⟩ (HX.out.1.later l3))
      rw [h3.out] at HC
      clear o2
      go_wp2_with (go_at_call 14; refine HC.out.mono ?_; rintro e w4 ⟨rfl, b4⟩)
      go_ret
      exact ⟨rfl, andThen l3 b4⟩
    · rw [h0] at HI
      have HS2 : Hid (∀ w : World, Calls Tryd.prog 13 #[.string s] w (SplEnd (Lib.fields s.data.toList, true) w)) := by
        intro w
        have := HS.out w
        rwa [h0] at this
      have hmem : ∀ x ∈ Lib.fields s.data.toList, x.length ≤ 600 := fun x hx => by
        have := fieldsGo_size s.data.toList [] x hx
        simp at this h6
        omega
      have HJ : Hid ((joined (Lib.fields s.data.toList)).length ≤ 600 → spl (joined (Lib.fields s.data.toList)) = (Lib.fields s.data.toList, true)) := fun h => spl_joined hok h24 h
      clear HS h0 hok h6
      generalize Lib.fields s.data.toList = L at *
      have HM := Lib.hid hmem
      clear hmem
      go_wp2_with fail
      refine HI.out.mono ?_
      rintro e w2 ⟨v1, rfl, o1, b2⟩
      have l2 := andThen b1 b2
      have R1 := o1.reads
      clear HI o1
      go_wp2_with fail
      refine (HS2.out _).mono ?_
      rintro e w3 ⟨v2, rfl, o2, b3⟩
      have l3 := andThen l2 b3
      have R3 := R1.keep b3
      have z3 := b3.size
      obtain ⟨A1, c1, rfl, hA⟩ := R3
      have RR : ReadsS w3 w2.heap.size (.slice A1 L.length c1) L := ⟨A1, c1, rfl, hA⟩
      have HA := Lib.hid (And.intro hA RR)
      clear R1 o2 b2 b3 l2 hA RR
      go_wp2_with fail
      go_loopw [8, 9] (fun sv i wr => ∃ k : Nat, k ≤ L.length ∧ i = .int .i64 (k : Int) ∧ sv = .string (txt (joined (L.take k))) ∧ wr = w3) (fun _ i _ => L.length - (intOf i).toNat)
      case atStart => exact ⟨0, Nat.zero_le _, rfl, rfl, rfl⟩
      case round =>
        obtain ⟨k, hk, rfl, rfl, rfl⟩ := hrel
        have hjl := joined_take HM.out k hk
        by_cases hlt : k < L.length
        · obtain ⟨b, off, rfl, _, e1⟩ := HA.out.1 k hlt
          have hx6 := HM.out (L[k]) (List.getElem_mem _)
          have HN := Lib.hid (joined_next hlt)
          generalize L[k] = x at *
          generalize joined (L.take k) = J at *
          have k0 : (0 : Int) ≤ (k : Int) := by omega
          have k1 : (k : Int) < (L.length : Int) := by omega
          have hap : txt J ++ txt x = txt (J ++ x) := txt_append J x
          have hz1 : (9223372036854775807 < (txt J).size + (txt x).size) = False := by rw [txt_size, txt_size]; simp; omega
          have hz2 : (9223372036854775807 < (txt (J ++ x)).size + 1) = False := by rw [txt_size, List.length_append]; simp; omega
          go_wp2_with fail
          go_roundw
          case rel => exact ⟨k + 1, by omega, by go_num, by rw [HN.out]; exact congrArg Value.string (txt_append (J ++ x) [32]), trivial⟩
          case measure => simp [intOf]; omega
        · obtain rfl : k = L.length := by omega
          have htk : L.take L.length = L := List.take_of_length_le (Nat.le_refl _)
          rw [htk] at hjl
          rw [htk]
          have HC := Lib.hid (implSplitFields_c (txt (joined L)) wr (by rw [txt_size]; omega) (HX.out.2.later l3))
          rw [txt_data] at HC
          have hts : (txt (joined L)).size = (joined L).length := rfl
          by_cases h60 : (joined L).length ≤ 600
          · rw [HJ.out h60] at HC
            have d6 : decide ((600 : Int) < ((joined L).length : Int)) = false := decide_eq_false (by omega)
            generalize hG : txt (joined L) = T at *
            clear hG
            generalize (joined L).length = tl at *
            clear htk
            go_wp2_with fail
            refine HC.out.mono ?_
            rintro e w4 ⟨v4, rfl, o4, b4⟩
            have R4 := o4.reads
            have RA := HA.out.2.keep (b4.mono z3)
            go_wp2_with (go_at_call 15; refine (sameTexts_c _ _ _ _ L _ RA R4 (by omega)).mono ?_; rintro e w5 ⟨rfl, d5⟩)
            go_ret
            exact ⟨rfl, andThen (andThen l3 b4) (drw_below d5)⟩
          · rw [spl_long (by omega)] at HC
            have d6 : decide ((600 : Int) < ((joined L).length : Int)) = true := decide_eq_true (by omega)
            generalize hG : txt (joined L) = T at *
            clear hG
            generalize (joined L).length = tl at *
            clear htk
            go_wp2_with fail
            refine HC.out.mono ?_
            rintro e w4 ⟨v4, rfl, o4, b4⟩
            go_wp2_with fail
            go_ret
            exact ⟨rfl, andThen l3 b4⟩

end Go.Proofs.YtcibffmhlamcdaaDoor
