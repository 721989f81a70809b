/-
  SplitFields of both packages gives the fields of a line, if the line and its fields are in range; the walk of the law FnExactSplitFields. Conditions: the line is a Go string; the library's table of white space holds what the program's text lays there.
-/
import Derived.Test.YtcibffmhlamcdaaDoorStrs
namespace Go.Proofs.YtcibffmhlamcdaaDoor
open Go.RowKit Go.Sort
set_option linter.unusedVariables false
set_option maxRecDepth 4000

/-- What SplitFields leaves: an own row of the fields. -/
def SplEnd (r : List (List UInt8) × Bool) (w : World) (e : Ending) (w' : World) : Prop :=
  ∃ v, e = .returned (.tuple #[v, .bool r.2]) ∧ OwnS w' w.heap.size v r.1 ∧ Below w.heap.size w w'
theorem spl_long {l : List UInt8} (h : 600 < l.length) : spl l = ([], false) := if_neg (by omega)
theorem spl_bad {l : List UInt8} {b : UInt8} (hb : b ∈ l) (h : ¬ okByte b) : spl l = ([], false) := if_neg fun ⟨_, h2, _⟩ => h (h2 b hb)
theorem spl_many {l : List UInt8} (h : 24 < (Lib.fields l).length) : spl l = ([], false) := if_neg (by omega)
theorem spl_yes {l : List UInt8} (h1 : l.length ≤ 600) (h2 : ∀ b ∈ l, okByte b) (h3 : (Lib.fields l).length ≤ 24) : spl l = (Lib.fields l, true) := if_pos ⟨h1, h2, h3⟩
theorem byte_mem (s : ByteArray) (k : Nat) (h : k < s.size) : s[k] ∈ s.data.toList := by
  have h' : k < s.data.size := h
  exact Array.getElem_mem_toList h'
theorem take_more (s : ByteArray) (k : Nat) (h : k < s.size) : s.data.toList.take (k + 1) = s.data.toList.take k ++ [s[k]] := by
  rw [List.take_succ_eq_append_getElem (by simpa using h)]; rfl
theorem ok_more {s : ByteArray} {k : Nat} (h : k < s.size) (ha : ∀ b ∈ s.data.toList.take k, okByte b) (hc : okByte s[k]) : ∀ b ∈ s.data.toList.take (k + 1), okByte b := by
  rw [take_more s k h]
  intro b hb
  rcases List.mem_append.1 hb with hb | hb
  · exact ha b hb
  · obtain rfl := List.mem_singleton.1 hb; exact hc
theorem cnt_le : ∀ (b : Bool) (l : List UInt8), Lib.cntF b l ≤ l.length
  | _, [] => Nat.le_refl _
  | b, c :: l => by
    have := cnt_le (Lib.isSp c) l
    unfold Lib.cntF
    rw [List.length_cons]
    split <;> omega
theorem fields_le (l : List UInt8) : (Lib.fields l).length ≤ l.length := by
  rw [Lib.fields_length]
  exact cnt_le true l

set_option maxHeartbeats 2000000 in
theorem implSplitFields_c (s : ByteArray) (w : World) (hs : s.size ≤ 1048576) (ht : SpcTab w) :
    Calls Tryd.prog 12 #[.string s] w (SplEnd (spl s.data.toList) w) := by
  have hsl : s.data.toList.length = s.size := by simp
  by_cases h6 : 600 < s.size
  · have HI := Lib.hid (spl_long (l := s.data.toList) (by rw [hsl]; exact h6))
    have d1 : decide ((600 : Int) < (s.size : Int)) = true := decide_eq_true (by omega)
    clear hsl
    go_enter Tryd.func12, Tryd.ntmps12
    go_wp2
    refine bodyPost_ret (v := .tuple #[.slice none 0 0, .bool false]) (by simp [results, Tryd.results12, go_sem]) rfl ?_
    exact ⟨_, by rw [HI.out], by rw [HI.out]; exact OwnS.nil, Below.refl _ _⟩
  · have d1 : decide ((600 : Int) < (s.size : Int)) = false := decide_eq_false (by omega)
    have HSL := Lib.hid hsl
    have HT := Lib.hid ht
    clear hsl ht
    go_enter Tryd.func12, Tryd.ntmps12
    go_wp2_with fail
    go_loopw [11] (fun i wr => ∃ k : Nat, k ≤ s.size ∧ i = .int .i64 (k : Int) ∧ Hid (∀ b ∈ s.data.toList.take k, okByte b) ∧ wr = w) (fun i _ => s.size - (intOf i).toNat)
    case atStart => exact ⟨0, Nat.zero_le _, rfl, (fun b hb => by cases hb), rfl⟩
    case round =>
      obtain ⟨k, hk, rfl, ha, rfl⟩ := hrel
      by_cases hlt : k < s.size
      · have k0 : (0 : Int) ≤ (k : Int) := by omega
        have k1 : (k : Int) < (s.size : Int) := by omega
        obtain ⟨b, hb⟩ : ∃ b : Nat, s[k].toNat = b := ⟨_, rfl⟩
        have hb255 : b < 256 := by rw [← hb]; exact s[k].toNat_lt
        have x1 : IntKind.i64.wrap (b : Int) = (b : Int) := IntWalk.i64_in _ ⟨by omega, by omega⟩
        by_cases hok : 32 ≤ b ∧ b ≤ 126
        · have HN := Lib.hid (ok_more hlt ha.out (by unfold okByte; rw [hb]; exact hok))
          have hin := inB_true (n := (b : Int)) (lo := 32) (hi := 126) (by omega) (by omega)
          clear hok
          go_wp2_with (go_at_call 32; refine (within_c _ _ _ _).mono ?_; rintro e w' ⟨rfl, rfl⟩; rw [hin])
          go_roundw
          case rel => exact ⟨k + 1, by omega, by go_num, HN, trivial⟩
          case measure => simp [intOf]; omega
        · have HI := Lib.hid (spl_bad (byte_mem s k hlt) (by unfold okByte; rw [hb]; exact hok))
          have hin : inB (b : Int) 32 126 = false := by
            rw [← Bool.not_eq_true]
            intro h
            have := inB_iff.1 h
            omega
          go_wp2_with (go_at_call 32; refine (within_c _ _ _ _).mono ?_; rintro e w' ⟨rfl, rfl⟩; rw [hin])
          refine bodyPost_ret (v := .tuple #[.slice none 0 0, .bool false]) (by simp [results, Tryd.results12, go_sem]) rfl ?_
          exact ⟨_, by rw [HI.out], by rw [HI.out]; exact OwnS.nil, Below.refl _ _⟩
      · obtain rfl : k = s.size := by omega
        have hall : ∀ b ∈ s.data.toList, okByte b := by
          have := ha.out
          rwa [List.take_of_length_le (by simp)] at this
        have HC := Lib.hid (Tryd.strings_Fields_laid s wr (by omega) (fun j b hj => by have := (hall b (List.mem_of_getElem? hj)).2; omega) HT.out)
        have hfl := fields_le s.data.toList
        have hfl2 : (Lib.fields s.data.toList).length ≤ 600 := by rw [HSL.out] at hfl; omega
        have hlen : s.data.toList.length ≤ 600 := by rw [HSL.out]; omega
        by_cases h24 : 24 < (Lib.fields s.data.toList).length
        · have HI := Lib.hid (spl_many h24)
          have d2 : decide ((24 : Int) < ((Lib.fields s.data.toList).length : Int)) = true := decide_eq_true (by omega)
          generalize Lib.fields s.data.toList = L at *
          clear hall ha hfl hlen
          go_wp2_with fail
          refine HC.out.mono ?_
          rintro e w1 ⟨rfl, rfl⟩
          go_wp2
          refine bodyPost_ret (v := .tuple #[.slice none 0 0, .bool false]) (by simp [results, Tryd.results12, go_sem]) rfl ?_
          exact ⟨_, by rw [HI.out], by rw [HI.out]; exact OwnS.nil, andAlloc (Below.refl _ _) _⟩
        · have HI := Lib.hid (spl_yes hlen hall (by omega))
          have d2 : decide ((24 : Int) < ((Lib.fields s.data.toList).length : Int)) = false := decide_eq_false (by omega)
          generalize Lib.fields s.data.toList = L at *
          clear hall ha hfl hlen
          go_wp2_with fail
          refine HC.out.mono ?_
          rintro e w1 ⟨rfl, rfl⟩
          go_wp2
          refine bodyPost_ret (v := .tuple #[.slice (some ⟨wr.heap.size, 0, none⟩) L.length L.length, .bool true]) (by simp [results, Tryd.results12, go_sem]) rfl ?_
          exact ⟨_, by rw [HI.out], by rw [HI.out]; exact ownS_all L (by unfold maxLen; omega), andAlloc (Below.refl _ _) _⟩

/-! ### The reference's loop -/
/-- The bytes before place k are read; the field that is being read begins at bg; L: the fields behind it. -/
def FMid (l : List UInt8) (k bg : Nat) (L : List (List UInt8)) : Prop :=
  (∀ b ∈ l.take k, okByte b) ∧ (k ≤ l.length → bg ≤ k ∧ L ++ Lib.fieldsGo ((l.take k).drop bg) (l.drop k) = Lib.fields l) ∧ (l.length < k → L = Lib.fields l) ∧ L.length ≤ k
theorem fmid_zero (l : List UInt8) : FMid l 0 0 [] := ⟨fun b hb => (by cases hb), fun _ => ⟨Nat.le_refl _, rfl⟩, fun h => (by omega), Nat.le_refl _⟩
section
variable {l : List UInt8} {k bg : Nat} {L : List (List UInt8)} {c : UInt8}
theorem fmid_take (hk : k < l.length) (hc : l[k]? = some c) : l.take (k + 1) = l.take k ++ [c] ∧ l.drop k = c :: l.drop (k + 1) := by
  obtain ⟨h1, e1⟩ := List.getElem?_eq_some_iff.1 hc
  refine ⟨?_, ?_⟩
  · rw [List.take_succ_eq_append_getElem hk, e1]
  · rw [List.drop_eq_getElem_cons hk, e1]
theorem fmid_ok (h : FMid l k bg L) (hk : k < l.length) (hc : l[k]? = some c) (ho : okByte c) : ∀ b ∈ l.take (k + 1), okByte b := by
  rw [(fmid_take hk hc).1]
  intro b hb
  rcases List.mem_append.1 hb with hb | hb
  · exact h.1 b hb
  · obtain rfl := List.mem_singleton.1 hb; exact ho
/-- A byte of the field. -/
theorem fmid_more (h : FMid l k bg L) (hk : k < l.length) (hc : l[k]? = some c) (ho : okByte c) (hn : c.toNat ≠ 32) : FMid l (k + 1) bg L := by
  obtain ⟨h1, h2, h3, h4⟩ := h
  obtain ⟨hb, he⟩ := h2 (by omega)
  obtain ⟨e1, e2⟩ := fmid_take hk hc
  refine ⟨fmid_ok ⟨h1, h2, h3, h4⟩ hk hc ho, fun _ => ⟨by omega, ?_⟩, fun h => (by omega), by omega⟩
  rw [← he, e2, Lib.fieldsGo_more _ c _ (by rw [isSp_ok ho]; exact decide_eq_false hn), e1, List.drop_append_of_le_length (by rw [List.length_take]; omega)]
theorem td (l : List UInt8) (k : Nat) : (l.take k).drop k = [] := List.drop_of_length_le (by rw [List.length_take]; omega)
theorem cur_ne (hk : k ≤ l.length) (hb : bg < k) : (l.take k).drop bg ≠ [] := by
  intro h
  have := congrArg List.length h
  rw [List.length_drop, List.length_take] at this
  simp at this
  omega
/-- A space behind a field. -/
theorem fmid_end (h : FMid l k bg L) (hk : k < l.length) (hc : l[k]? = some c) (ho : okByte c) (hn : c.toNat = 32) (hb : bg < k) : FMid l (k + 1) (k + 1) (L ++ [(l.take k).drop bg]) := by
  obtain ⟨h1, h2, h3, h4⟩ := h
  obtain ⟨_, he⟩ := h2 (by omega)
  obtain ⟨e1, e2⟩ := fmid_take hk hc
  refine ⟨fmid_ok ⟨h1, h2, h3, h4⟩ hk hc ho, fun _ => ⟨by omega, ?_⟩, fun h => (by omega), by rw [List.length_append]; simp; omega⟩
  rw [← he, e2, Lib.fieldsGo_end _ c _ (by rw [isSp_ok ho]; exact decide_eq_true hn) (cur_ne (by omega) hb), td, List.append_assoc]
  rfl
/-- A space behind a space. -/
theorem fmid_sp (h : FMid l k bg L) (hk : k < l.length) (hc : l[k]? = some c) (ho : okByte c) (hn : c.toNat = 32) (hb : ¬ bg < k) : FMid l (k + 1) (k + 1) L := by
  obtain ⟨h1, h2, h3, h4⟩ := h
  obtain ⟨hb', he⟩ := h2 (by omega)
  obtain rfl : bg = k := by omega
  obtain ⟨e1, e2⟩ := fmid_take hk hc
  refine ⟨fmid_ok ⟨h1, h2, h3, h4⟩ hk hc ho, fun _ => ⟨by omega, ?_⟩, fun h => (by omega), by omega⟩
  rw [← he, e2, td, td, Lib.fieldsGo_sp c _ (by rw [isSp_ok ho]; exact decide_eq_true hn)]
/-- The line's end, behind a field. -/
theorem fmid_last (h : FMid l l.length bg L) (hb : bg < l.length) : FMid l (l.length + 1) (l.length + 1) (L ++ [(l.take l.length).drop bg]) := by
  obtain ⟨h1, h2, h3, h4⟩ := h
  obtain ⟨_, he⟩ := h2 (Nat.le_refl _)
  have hne := cur_ne (l := l) (k := l.length) (bg := bg) (Nat.le_refl _) hb
  refine ⟨fun b hb => h1 b (by rw [List.take_of_length_le (Nat.le_refl _)]; rwa [List.take_of_length_le (by omega)] at hb), fun h => (by omega), fun _ => ?_, by rw [List.length_append]; simp; omega⟩
  rw [← he, List.drop_of_length_le (l := l) (Nat.le_refl _)]
  cases hx : (l.take l.length).drop bg with
  | nil => exact absurd hx hne
  | cons a r => rfl
/-- The line's end, behind a space. -/
theorem fmid_over (h : FMid l l.length bg L) (hb : ¬ bg < l.length) : FMid l (l.length + 1) (l.length + 1) L := by
  obtain ⟨h1, h2, h3, h4⟩ := h
  obtain ⟨hb', he⟩ := h2 (Nat.le_refl _)
  refine ⟨fun b hb => h1 b (by rw [List.take_of_length_le (Nat.le_refl _)]; rwa [List.take_of_length_le (by omega)] at hb), fun h => (by omega), fun _ => ?_, by omega⟩
  obtain rfl : bg = l.length := by omega
  rw [← he, List.drop_of_length_le (l := l) (Nat.le_refl _), td]
  exact (List.append_nil _).symm
theorem fmid_fields (h : FMid l (l.length + 1) bg L) : L = Lib.fields l ∧ ∀ b ∈ l, okByte b :=
  ⟨h.2.2.1 (by omega), fun b hb => h.1 b (by rw [List.take_of_length_le (by omega)]; exact hb)⟩
end

theorem ext_txt (s : ByteArray) (i k : Nat) : s.extract i k = txt ((s.data.toList.take k).drop i) := by
  refine ByteArray.ext ?_
  rw [ByteArray.data_extract]
  refine Array.ext' ?_
  simp [txt, List.drop_take]
theorem one_str (x : ByteArray) : ∀ u ∈ [Value.string x], u.oneCell' = true := by
  intro u hu; simp at hu; subst hu; rfl

set_option maxHeartbeats 4000000 in
theorem specSplitFields_c (s : ByteArray) (w : World) (hs : s.size ≤ 1048576) :
    Calls Tryd.prog 13 #[.string s] w (SplEnd (spl s.data.toList) w) := by
  obtain ⟨i0, hi, hz0, hz1, hz2⟩ := info_parts info_str
  have hsl : s.data.toList.length = s.size := by simp
  by_cases h6 : 600 < s.size
  · have HI := Lib.hid (spl_long (l := s.data.toList) (by rw [hsl]; exact h6))
    have d1 : decide ((600 : Int) < (s.size : Int)) = true := decide_eq_true (by omega)
    clear hsl
    go_enter Tryd.func13, Tryd.ntmps13
    go_wp2
    refine bodyPost_ret (v := .tuple #[.slice (some ⟨w.heap.size, 0, none⟩) 0 0, .bool false]) (by simp [results, Tryd.results13, go_sem]) rfl ?_
    exact ⟨_, by rw [HI.out], by rw [HI.out]; exact ownS_lit rfl (Nat.le_refl _), andAlloc (Below.refl _ _) _⟩
  · have d1 : decide ((600 : Int) < (s.size : Int)) = false := decide_eq_false (by omega)
    have HSL := Lib.hid hsl
    clear hsl
    go_enter Tryd.func13, Tryd.ntmps13
    go_wp2_with fail
    go_loopw [4, 5, 6] (fun v bv i wr => ∃ (k bg : Nat) (L : List (List UInt8)), k ≤ s.size + 1 ∧ i = .int .i64 (k : Int) ∧ bv = .int .i64 (bg : Int) ∧ bg ≤ k ∧ Hid (FMid s.data.toList k bg L) ∧ Hid (OwnS wr w.heap.size v L) ∧ Below w.heap.size w wr) (fun _ _ i _ => s.size + 1 - (intOf i).toNat)
    case atStart => exact ⟨0, 0, [], Nat.zero_le _, rfl, rfl, Nat.le_refl _, fmid_zero _, ownS_lit rfl (Nat.le_refl _), andAlloc (Below.refl _ _) _⟩
    case round =>
      obtain ⟨k, bg, L, hk, rfl, rfl, hbk, hm, hown, hbl⟩ := hrel
      have hL := hm.out.2.2.2
      by_cases hle : k ≤ s.size
      · have e0 : decide ((k : Int) ≤ (s.size : Int)) = true := decide_eq_true (by omega)
        by_cases hlt : k < s.size
        · have k0 : (0 : Int) ≤ (k : Int) := by omega
          have k1 : (k : Int) < (s.size : Int) := by omega
          have hat := byte_at s k hlt
          obtain ⟨b, hb⟩ : ∃ b : Nat, s[k].toNat = b := ⟨_, rfl⟩
          have hb255 : b < 256 := by rw [← hb]; exact s[k].toNat_lt
          have hkl : k < s.data.toList.length := by rw [HSL.out]; exact hlt
          by_cases hok : 32 ≤ b ∧ b ≤ 126
          · have hoc : okByte s[k] := by unfold okByte; rw [hb]; exact hok
            have c1 : decide ((b : Int) < 32) = false := decide_eq_false (by omega)
            have c2 : decide ((126 : Int) < (b : Int)) = false := decide_eq_false (by omega)
            by_cases h32 : b = 32
            · by_cases hbg : bg < k
              · have HN := Lib.hid (fmid_end hm.out hkl hat hoc (by rw [hb]; exact h32) hbg)
                have c3 : ((b : Int) != 32) = false := by rw [h32]; rfl
                have b0 : (0 : Int) ≤ (bg : Int) := by omega
                clear hat hkl hoc hok
                have hex : s.extract bg k = txt ((s.data.toList.take k).drop bg) := ext_txt s bg k
                have HO := Lib.hid (World.ownsRow.alloc hown.out (.cells #[.string (txt ((s.data.toList.take k).drop bg))] 9))
                generalize (s.data.toList.take k).drop bg = x at *
                go_wp2_with (at_builtin; refine wpList_append_own _ rfl _ _ 25 rfl w.heap.size 9 i0 (.string ByteArray.empty) 1 16 Tryd.underlying25 hi hz0 hz1 hz2 rfl (by decide) _ _ _ rfl HO.out ⟨wr.heap.size, 0, none⟩ 1 1 [.string (txt x)] rfl rfl (one_news _ _ _) (one_str _) ?c3 ?c4 ?c5 ?_)
                case c3 => unfold maxLen; omega
                case c4 => omega
                case c5 => have := hbl.size; simp; omega
                intro v' w3 hown3 hg3 _
                have hown4 := Lib.hid (ownS_push hown3)
                have hlt3 := World.ownsRow.lt HO.out
                have hbl4 := (andAlloc hbl (.cells #[.string (txt x)] 9)).grown hg3 (Nat.le_trans hbl.size (by simp)) (fun j hj => (hlt3 j hj).1)
                clear hown3 hg3 hlt3 HO hown hbl hex
                go_wp2
                go_roundw
                case rel => exact ⟨k + 1, k + 1, _, by omega, by go_num, by go_num, Nat.le_refl _, HN, hown4, hbl4⟩
                case measure => simp [intOf]; omega
              · have HN := Lib.hid (fmid_sp hm.out hkl hat hoc (by rw [hb]; exact h32) hbg)
                have c3 : ((b : Int) != 32) = false := by rw [h32]; rfl
                clear hat hkl hoc hok
                go_wp2_with fail
                go_roundw
                case rel => exact ⟨k + 1, k + 1, L, by omega, by go_num, by go_num, Nat.le_refl _, HN, hown, hbl⟩
                case measure => simp [intOf]; omega
            · have HN := Lib.hid (fmid_more hm.out hkl hat hoc (by rw [hb]; exact h32))
              have c3 : ((b : Int) != 32) = true := by rw [bne_iff_ne]; omega
              clear hat hkl hoc hok h32
              go_wp2_with fail
              exact ⟨⟨k + 1, bg, L, by omega, by go_num, rfl, by omega, HN, hown, hbl⟩, by simp [intOf]; omega⟩
          · have HI := Lib.hid (spl_bad (byte_mem s k hlt) (by unfold okByte; rw [hb]; exact hok))
            clear hat hkl
            have HO := Lib.hid (ownS_lit (w := wr) (base := w.heap.size) rfl hbl.size)
            by_cases h32 : b < 32
            · have c1 : decide ((b : Int) < 32) = true := decide_eq_true (by omega)
              clear hok
              go_wp2_with fail
              refine bodyPost_ret (v := .tuple #[.slice (some ⟨wr.heap.size, 0, none⟩) 0 0, .bool false]) (by simp [results, Tryd.results13, go_sem]) rfl ?_
              exact ⟨_, by rw [HI.out], by rw [HI.out]; exact HO.out, andAlloc hbl _⟩
            · have c1 : decide ((b : Int) < 32) = false := decide_eq_false (by omega)
              have c2 : decide ((126 : Int) < (b : Int)) = true := decide_eq_true (by omega)
              clear hok
              go_wp2_with fail
              refine bodyPost_ret (v := .tuple #[.slice (some ⟨wr.heap.size, 0, none⟩) 0 0, .bool false]) (by simp [results, Tryd.results13, go_sem]) rfl ?_
              exact ⟨_, by rw [HI.out], by rw [HI.out]; exact HO.out, andAlloc hbl _⟩
        · obtain rfl : k = s.size := by omega
          have k1 : ¬ ((s.size : Int) < (s.size : Int)) := by omega
          have hm2 : FMid s.data.toList s.data.toList.length bg L := by rw [HSL.out]; exact hm.out
          by_cases hbg : bg < s.size
          · have HN : Hid (FMid s.data.toList (s.size + 1) (s.size + 1) (L ++ [(s.data.toList.take s.size).drop bg])) := by
              have := fmid_last hm2 (by rw [HSL.out]; exact hbg)
              rw [HSL.out] at this
              exact this
            have hex : s.extract bg s.size = txt ((s.data.toList.take s.size).drop bg) := ext_txt s bg s.size
            have HO := Lib.hid (World.ownsRow.alloc hown.out (.cells #[.string (txt ((s.data.toList.take s.size).drop bg))] 9))
            have b0 : (0 : Int) ≤ (bg : Int) := by omega
            clear hm2
            generalize (s.data.toList.take s.size).drop bg = x at *
            go_wp2_with (at_builtin; refine wpList_append_own _ rfl _ _ 25 rfl w.heap.size 9 i0 (.string ByteArray.empty) 1 16 Tryd.underlying25 hi hz0 hz1 hz2 rfl (by decide) _ _ _ rfl HO.out ⟨wr.heap.size, 0, none⟩ 1 1 [.string (txt x)] rfl rfl (one_news _ _ _) (one_str _) ?c3 ?c4 ?c5 ?_)
            case c3 => unfold maxLen; omega
            case c4 => omega
            case c5 => have := hbl.size; simp; omega
            intro v' w3 hown3 hg3 _
            have hown4 := Lib.hid (ownS_push hown3)
            have hlt3 := World.ownsRow.lt HO.out
            have hbl4 := (andAlloc hbl (.cells #[.string (txt x)] 9)).grown hg3 (Nat.le_trans hbl.size (by simp)) (fun j hj => (hlt3 j hj).1)
            clear hown3 hg3 hlt3 HO hown hbl hex
            go_wp2
            go_roundw
            case rel => exact ⟨s.size + 1, s.size + 1, _, by omega, by go_num, by go_num, Nat.le_refl _, HN, hown4, hbl4⟩
            case measure => simp [intOf]
          · have HN : Hid (FMid s.data.toList (s.size + 1) (s.size + 1) L) := by
              have := fmid_over hm2 (by rw [HSL.out]; exact hbg)
              rw [HSL.out] at this
              exact this
            clear hm2
            go_wp2_with fail
            go_roundw
            case rel => exact ⟨s.size + 1, s.size + 1, L, by omega, by go_num, by go_num, Nat.le_refl _, HN, hown, hbl⟩
            case measure => simp [intOf]
      · obtain rfl : k = s.size + 1 := by omega
        have e0 : decide (((s.size + 1 : Nat) : Int) ≤ (s.size : Int)) = false := decide_eq_false (by omega)
        have hm2 : FMid s.data.toList (s.data.toList.length + 1) bg L := by rw [HSL.out]; exact hm.out
        obtain ⟨f1, f2⟩ := fmid_fields hm2
        have hlen : s.data.toList.length ≤ 600 := by rw [HSL.out]; omega
        obtain ⟨A, cap, rfl⟩ := hown.out.slice
        by_cases h24 : 24 < L.length
        · have HI := Lib.hid (spl_many (l := s.data.toList) (by rw [← f1]; exact h24))
          have d2 : decide ((24 : Int) < (L.length : Int)) = true := decide_eq_true (by omega)
          have HO := Lib.hid (ownS_lit (w := wr) (base := w.heap.size) rfl hbl.size)
          clear hm2 f1 f2 hlen
          go_wp2_with fail
          refine bodyPost_ret (v := .tuple #[.slice (some ⟨wr.heap.size, 0, none⟩) 0 0, .bool false]) (by simp [results, Tryd.results13, go_sem]) rfl ?_
          exact ⟨_, by rw [HI.out], by rw [HI.out]; exact HO.out, andAlloc hbl _⟩
        · have HI := Lib.hid (spl_yes hlen f2 (by rw [← f1]; omega))
          rw [← f1] at HI
          have d2 : decide ((24 : Int) < (L.length : Int)) = false := decide_eq_false (by omega)
          clear hm2 f1 f2 hlen
          go_wp2_with fail
          refine bodyPost_ret (v := .tuple #[.slice A L.length cap, .bool true]) (by simp [results, Tryd.results13, go_sem]) rfl ?_
          exact ⟨_, by rw [HI.out], by rw [HI.out]; exact hown.out, hbl⟩

set_option maxHeartbeats 2000000 in
theorem walk_FnExactSplitFields (s : ByteArray) (hs : s.size ≤ maxLen) (w : World) (ht : SpcTab w) :
    Calls Tryd.prog 8 #[.string s] w fun e w' => e = .returned (.bool true) ∧ Below w.heap.size w w' := by
  obtain ⟨L, o, he⟩ : ∃ L o, spl s.data.toList = (L, o) := ⟨_, _, rfl⟩
  have HL : Hid (L.length ≤ 24) := by
    show _ ≤ _
    unfold spl at he
    split at he
    · rename_i h
      injection he with h1 _
      rw [← h1]; exact h.2.2
    · injection he with h1 _
      rw [← h1]; exact Nat.zero_le _
  have HE := Lib.hid he
  have HT := Lib.hid ht
  clear he ht
  unfold maxLen at hs
  by_cases hn : s.size ≤ 1048576
  · go_enter Tryd.func8, Tryd.ntmps8
    go_wp2_with fail
    refine (specSplitFields_c s _ hn).mono ?_
    rintro e w1 ⟨v1, rfl, o1, b1⟩
    rw [HE.out] at o1 ⊢
    have R1 := Lib.hid o1.reads
    clear o1
    go_wp2_with fail
    refine (implSplitFields_c s _ hn (HT.out.later b1)).mono ?_
    rintro e w2 ⟨v2, rfl, o2, b2⟩
    rw [HE.out] at o2 ⊢
    have R1' := Lib.hid (R1.out.keep b2)
    have R2 := Lib.hid o2.reads
    have O2 := Lib.hid o2
    have l2 := andThen b1 b2
    clear o2
    go_wp2_with fail
    refine (eqStringS_c _ _ v2 v1 L _ R2.out R1'.out (by have := HL.out; omega)).mono ?_
    rintro e w3 ⟨rfl, d3⟩
    have b3 := drw_below d3
    have l3 := andThen l2 b3
    have O3 := Lib.hid (O2.out.below b3)
    have R1b := Lib.hid (R1'.out.keep (b3.mono b2.size))
    have z1 := b1.size
    have z2 := b2.size
    have z3 := b3.size
    clear R2 d3 l2
    go_wp2_with fail
    refine (markStringS_c 1 _ v2 L _ O3.out (by have := HL.out; omega) (by decide) (by decide)).mono ?_
    rintro e w4 ⟨rfl, o4, g4⟩
    have hlt4 := World.ownsRow.lt O3.out
    have b4 : Below w1.heap.size w3 w4 := (Below.refl w1.heap.size w3).grown g4 (by omega) (fun j hj => (hlt4 j hj).1)
    have l4 : Below w.heap.size w w4 := l3.grown g4 (by omega) (fun j hj => by have := (hlt4 j hj).1; omega)
    have z4 := g4.size
    have R4 := Lib.hid o4.reads
    have R1c := Lib.hid (R1b.out.keep b4)
    clear o4 g4 hlt4 b4 l3
    go_wp2_with fail
    refine (heldStringS_c 1 _ v2 L.length _ R4.out (Nat.le_refl _) (by have := HL.out; omega) (by decide) (by decide)).mono ?_
    rintro e w5 ⟨rfl, b5⟩
    have l5 := andThen l4 b5
    have z5 := b5.size
    have R4b := Lib.hid (R4.out.keep b5)
    have R1d := Lib.hid (R1c.out.keep (b5.mono (by omega)))
    have T5 := HT.out.later l5
    have n0 : decide (((1 + L.length : Nat) : Int) < 0) = false := decide_eq_false (by omega)
    clear b5 l4
    go_wp2_with fail
    refine (implSplitFields_c s _ hn T5).mono ?_
    rintro e w6 ⟨v6, rfl, o6, b6⟩
    rw [HE.out] at o6 ⊢
    have l6 := andThen l5 b6
    have z6 := b6.size
    have R6 := Lib.hid o6.reads
    have R4c := Lib.hid (R4b.out.keep (b6.mono (by omega)))
    have R1e := Lib.hid (R1d.out.keep (b6.mono (by omega)))
    clear o6 b6 l5 T5
    go_wp2_with fail
    refine (eqStringS_c _ _ v6 v1 L _ R6.out R1e.out (by have := HL.out; omega)).mono ?_
    rintro e w7 ⟨rfl, d7⟩
    have b7 := drw_below d7
    have l7 := andThen l6 b7
    have z7 := b7.size
    have R4d := Lib.hid (R4c.out.keep (b7.mono (by omega)))
    clear d7 b7 l6
    go_wp2_with fail
    refine (heldStringS_c 1 _ v2 L.length _ R4d.out (by omega) (by have := HL.out; omega) (by decide) (by decide)).mono ?_
    rintro e w8 ⟨rfl, b8⟩
    have l8 := andThen l7 b8
    go_wp2
    go_ret
    exact ⟨rfl, l8⟩
  · go_enter Tryd.func8, Tryd.ntmps8
    go_wp2
    go_ret
    exact ⟨rfl, Below.refl _ _⟩

end Go.Proofs.YtcibffmhlamcdaaDoor
