/-
  EncodeHex of both packages returns the hexadecimal digits of the text's bytes; the walk of the law FnExactEncodeHex. Conditions: the text is a Go string.
-/
import Derived.Test.YtcibffmhlamcdaaPlaces
import Derived.Test.YtcibffmhlamcdaaShelf
import Derived.Lib.ConvBytes
import Derived.Laws.BytesArg
import Derived.Deep.RegionHeld3
import Derived.Deep.AppendLies
namespace Go.Proofs.Ytcibffmhlamcdaa
open Go.RowKit
set_option linter.unusedVariables false
set_option maxRecDepth 4000

theorem below_bytes (w : World) (e : TypeId) (s : ByteArray) : Below w.heap.size w (Lib.bytesWorld w e s) :=
  ⟨rfl, rfl, rfl, by rw [Lib.bytesWorld_size]; omega, fun j hj => Lib.bytesWorld_at_old w e s j hj⟩

/-- The text of the digits. -/
def hexT (s : ByteArray) : ByteArray := ⟨(Lib.Hx.encode s.data.toList).toArray⟩
def emptyT : ByteArray := ⟨#[]⟩
def encHex (s : ByteArray) : ByteArray × Bool := if s.size ≤ 20000 then (hexT s, true) else (emptyT, false)
theorem hx_len (l : List UInt8) : (Lib.Hx.encode l).length = 2 * l.length := by
  induction l with
  | nil => rfl
  | cons a l ih =>
    unfold Lib.Hx.encode at ih ⊢
    rw [List.flatMap_cons, List.length_append, ih]
    simp; omega

theorem info_u8 : (Try.prog.info? 5).map (fun i => (i.zero, i.size, i.bytes)) = some (some (.int .u8 0), 1, 1) := by kernel_rfl

/-- A row of bytes of the call's own. -/
def OwnB (w : World) (base : Nat) (v : Value) (l : List UInt8) : Prop := w.ownsRow base 5 1 v l.length (l.map fun b => Value.int .u8 (b.toNat : Int))
theorem OwnB.below {w w' : World} {base : Nat} {v : Value} {l : List UInt8} (h : OwnB w base v l) (hb : Below w.heap.size w w') : OwnB w' base v l :=
  World.ownsRow.kept h (row := none) ⟨hb.os, hb.tape, hb.output, hb.size, fun i hi _ => hb.block i hi⟩ (by
    rcases v.ownBlock with _ | k
    · exact .inl rfl
    · exact .inr (by simp))
theorem ownB_lit {w : World} {g base : Nat} (hg : w.heap.size = g) (hb : base ≤ g) : OwnB (w.alloc (.cells #[] 5)) base (.slice (some ⟨g, 0, none⟩) 0 0) [] := by
  subst hg
  exact World.ownsRow_lit (base := base) (e := 5) (size := 1) w #[] 0 hb (by decide) rfl
theorem OwnB.cell {w : World} {base g cap : Nat} {l : List UInt8} (h : OwnB w base (.slice (some ⟨g, 0, none⟩) l.length cap) l) (j : Nat) (hj : j < l.length) : w.cell? ⟨g, j, none⟩ = some (.int .u8 (l[j].toNat : Int)) := by
  have := World.ownsRow.cellAt h j (by omega)
  rw [this]
  simp [List.getElem?_eq_getElem hj]
/-- 'string(b)' of such a row. -/
theorem OwnB.conv {w : World} {base g cap : Nat} {l : List UInt8} (h : OwnB w base (.slice (some ⟨g, 0, none⟩) l.length cap) l) :
    (convert 31 9 (.slice (some ⟨g, 0, none⟩) l.length cap)).run Try.prog w = .ok (.string ⟨l.toArray⟩) w :=
  run_convert_bytes_back w 31 9 5 ⟨g, 0, none⟩ cap l Try.underlying31 Try.underlying5 Try.underlying9 fun j hj => by
    have e : (⟨g, 0, none⟩ : Addr).add j = ⟨g, j, none⟩ := by unfold Addr.add; split <;> simp_all
    rw [e]
    exact h.cell j hj

set_option maxHeartbeats 1000000 in
theorem implEncodeHex_c (s : ByteArray) (w : World) (hs : s.size ≤ maxLen) :
    Calls Try.prog 7 #[.string s] w fun e w' => e = .returned (.tuple #[.string (encHex s).1, .bool (encHex s).2]) ∧ Below w.heap.size w w' := by
  unfold maxLen at hs
  by_cases hn : s.size ≤ 20000
  · have HE : Hid (encHex s = (hexT s, true)) := if_pos hn
    have hcv := fun (w : World) => Lib.run_convert_string_bytes (P := Try.prog) w 9 31 5 s Try.underlying9 Try.underlying31 Try.underlying5
    have HC := Lib.hid (Try.hex_EncodeToString_bytes w.heap.size 0 (grownCap w s.size 0 5) s.data.toList (Lib.bytesWorld w 5 s)
      (fun i h => by
        have hi : i < s.size := by simpa using h
        rw [Nat.zero_add, Lib.bytesWorld_cell w 5 s i hi]
        have hi' : i < s.data.size := hi
        simp [List.getD, Array.getElem?_eq_getElem hi']) (by rw [Lib.bytesWorld_size]; omega) (by simp; omega))
    have hl : s.data.toList.length = s.size := by simp
    rw [hl] at HC
    go_enter Try.func7, Try.ntmps7
    go_wp2_with (go_at_call 17; refine HC.out.mono ?_; rintro e w1 ⟨rfl, b1⟩)
    refine bodyPost_ret (v := .tuple #[.string (hexT s), .bool true]) (by simp [results, Try.results7, go_sem, hexT]) rfl ?_
    exact ⟨by rw [HE.out], andThen (below_bytes _ _ _) b1⟩
  · have HE : Hid (encHex s = (emptyT, false)) := if_neg hn
    go_enter Try.func7, Try.ntmps7
    go_wp2
    refine bodyPost_ret (v := .tuple #[.string emptyT, .bool false]) (by simp [results, Try.results7, go_sem, emptyT]) rfl ?_
    exact ⟨by rw [HE.out], Below.refl _ _⟩

theorem dig_all (x : Nat) (h : x < 16) : ((Lib.Hx.digit x).toNat : Int) = if x < 10 then 48 + (x : Int) else 87 + (x : Int) := by
  rcases (show x = 0 ∨ x = 1 ∨ x = 2 ∨ x = 3 ∨ x = 4 ∨ x = 5 ∨ x = 6 ∨ x = 7 ∨ x = 8 ∨ x = 9 ∨ x = 10 ∨ x = 11 ∨ x = 12 ∨ x = 13 ∨ x = 14 ∨ x = 15 by omega) with rfl | rfl | rfl | rfl | rfl | rfl | rfl | rfl | rfl | rfl | rfl | rfl | rfl | rfl | rfl | rfl <;> rfl
def figI (x : Int) : Int := ((Lib.Hx.digit x.toNat).toNat : Int)

set_option maxHeartbeats 400000 in
theorem l01Figure_c (x : Int) (w : World) (h0 : 0 ≤ x) (h1 : x < 16) :
    Calls Try.prog 16 #[.int .i64 x] w fun e w' => e = .returned (.int .u8 (figI x)) ∧ w = w' := by
  obtain ⟨n, rfl⟩ := Int.eq_ofNat_of_zero_le h0
  have HD := Lib.hid (dig_all n (by omega))
  have HF : Hid (figI (n : Int) = ((Lib.Hx.digit n).toNat : Int)) := rfl
  by_cases h : n < 10
  · go_enter Try.func16, Try.ntmps16
    go_wp2
    go_ret
    exact ⟨ret_int (by rw [HF.out, HD.out, if_pos h]; (try simp [IntKind.wrap]); (try omega)), rfl⟩
  · go_enter Try.func16, Try.ntmps16
    go_wp2
    go_ret
    exact ⟨ret_int (by rw [HF.out, HD.out, if_neg h]; (try simp [IntKind.wrap]); (try omega)), rfl⟩

theorem take_snoc (s : ByteArray) (k : Nat) (h : k < s.size) : s.data.toList.take (k + 1) = s.data.toList.take k ++ [s[k]] := by
  rw [List.take_succ_eq_append_getElem (by simpa using h)]; rfl
theorem hx_snoc (l : List UInt8) (c : UInt8) : Lib.Hx.encode (l ++ [c]) = Lib.Hx.encode l ++ [Lib.Hx.digit (c.toNat / 16), Lib.Hx.digit (c.toNat % 16)] := by
  unfold Lib.Hx.encode
  rw [List.flatMap_append]
  rfl
theorem two_cells (w : World) (x y : Value) (t : TypeId) : ∀ j u, [x, y][j]? = some u → (w.alloc (.cells #[x, y] t)).cell? ((⟨w.heap.size, 0, none⟩ : Addr).add j) = some u :=
  World.news_of_block (B := w.heap.size) (cs := #[x, y]) (heap_alloc_new w _)

set_option maxHeartbeats 2000000 in
theorem specEncodeHex_c (s : ByteArray) (w : World) (hs : s.size ≤ maxLen) :
    Calls Try.prog 6 #[.string s] w fun e w' => e = .returned (.tuple #[.string (encHex s).1, .bool (encHex s).2]) ∧ Below w.heap.size w w' := by
  unfold maxLen at hs
  by_cases hn : s.size ≤ 20000
  · have HE : Hid (encHex s = (hexT s, true)) := if_pos hn
    obtain ⟨i0, hi, hz0, hz1, hz2⟩ := info_parts info_u8
    go_enter Try.func6, Try.ntmps6
    go_wp2_with fail
    go_loopw [4, 5] (fun v i wr => ∃ k : Nat, k ≤ s.size ∧ i = .int .i64 k ∧ (∃ g c, v = .slice (some ⟨g, 0, none⟩) (Lib.Hx.encode (s.data.toList.take k)).length c ∧ OwnB wr w.heap.size v (Lib.Hx.encode (s.data.toList.take k))) ∧ Below w.heap.size w wr) (fun _ i _ => s.size - (intOf i).toNat)
    case atStart => exact ⟨0, Nat.zero_le _, rfl, ⟨w.heap.size, 0, rfl, ownB_lit rfl (Nat.le_refl _)⟩, andAlloc (Below.refl _ _) _⟩
    case round =>
      obtain ⟨k, hk, rfl, ⟨g, c, rfl, hown⟩, hbl⟩ := hrel
      have hlen : (Lib.Hx.encode (s.data.toList.take k)).length = 2 * k := by rw [hx_len, List.length_take]; simp; omega
      by_cases hlt : k < s.size
      · obtain ⟨b, hb⟩ : ∃ b : Nat, s[k].toNat = b := ⟨_, rfl⟩
        have hb255 : b < 256 := by rw [← hb]; exact s[k].toNat_lt
        have HN : Hid (Lib.Hx.encode (s.data.toList.take (k + 1)) = Lib.Hx.encode (s.data.toList.take k) ++ [Lib.Hx.digit (b / 16), Lib.Hx.digit (b % 16)]) := by
          show _ = _
          rw [take_snoc s k hlt, hx_snoc, hb]
        have k0 : (0 : Int) ≤ (k : Int) := by omega
        have k1 : (k : Int) < (s.size : Int) := by omega
        have x1 : IntKind.i64.wrap ((b : Int).tdiv 16) = (b : Int) / 16 := by rw [Int.tdiv_eq_ediv_of_nonneg (by omega)]; exact IntWalk.i64_in _ ⟨by omega, by omega⟩
        have x2 : (b : Int).tmod 16 = (b : Int) % 16 := Int.tmod_eq_emod_of_nonneg (by omega)
        have x3 : IntKind.i64.wrap ((b : Int) % 16) = (b : Int) % 16 := IntWalk.i64_in _ ⟨by omega, by omega⟩
        have x4 : IntKind.i64.wrap (b : Int) = (b : Int) := IntWalk.i64_in _ ⟨by omega, by omega⟩
        have x5 : IntKind.i64.wrap ((b : Int) / 16) = (b : Int) / 16 := IntWalk.i64_in _ ⟨by omega, by omega⟩
        have y1 : (0 : Int) ≤ (b : Int) / 16 := by omega
        have y2 : (b : Int) / 16 < 16 := by omega
        have y3 : (0 : Int) ≤ (b : Int) % 16 := by omega
        have y4 : (b : Int) % 16 < 16 := by omega
        have HD1 : Hid (figI ((b : Int) / 16) = ((Lib.Hx.digit (b / 16)).toNat : Int)) := by show figI _ = _; unfold figI; congr 2
        have HD2 : Hid (figI ((b : Int) % 16) = ((Lib.Hx.digit (b % 16)).toNat : Int)) := by show figI _ = _; unfold figI; congr 2
        have HO := Lib.hid hown
        generalize Lib.Hx.encode (s.data.toList.take k) = E at *
        have ho2 : ∀ u ∈ [Value.int .u8 (figI ((b : Int) / 16)), Value.int .u8 (figI ((b : Int) % 16))], u.oneCell' = true := by intro u hu; simp at hu; rcases hu with rfl | rfl <;> rfl
        have hm1 : E.length + 2 ≤ maxLen := by unfold maxLen; omega
        have hm2 : (E.length + 2) * 1 ≤ 140737488355328 := by omega
        have hm3 : E.length ≤ 40000 := by omega
        clear hlen
        go_wp2_with fail
        go_region_held3 (fun w' => True) (trivial)
          ((first
            | (go_at_call 16; (first | (with_reducible refine (l01Figure_c _ _ y1 y2).mono ?_) | (with_reducible refine (l01Figure_c _ _ y3 y4).mono ?_)); rintro e w' ⟨rfl, rfl⟩)
            | (refine step_append_lies _ (by rfl) _ _ _ (by rfl) w.heap.size 5 i0 _ 1 1 Try.underlying31 hi hz0 hz1 hz2 rfl (by omega) _ _ _ (by rfl) ((World.ownsRow.alloc HO.out _)) ⟨wr.heap.size, 0, none⟩ 2 2 [.int .u8 (figI ((b : Int) / 16)), .int .u8 (figI ((b : Int) % 16))] (by rfl) (by rfl) (two_cells wr _ _ _) ho2 (by omega) hm1 hm2 (Nat.le_trans hbl.size (by simp)) (wr.heap.size + 1) (by simp) ?_; intro gg cap w1 hown1 hgrow hat hlt1)))
        all_goals
          have HL : Hid (([.int .u8 (figI ((b : Int) / 16)), .int .u8 (figI ((b : Int) % 16))] : List Value) = [Lib.Hx.digit (b / 16), Lib.Hx.digit (b % 16)].map fun b => Value.int .u8 (b.toNat : Int)) := by show _ = _; rw [HD1.out, HD2.out]; rfl
          rw [HL.out, ← List.map_append] at hown1
          have hown2 : OwnB w1 w.heap.size (.slice (some ⟨gg, 0, none⟩) (E ++ [Lib.Hx.digit (b / 16), Lib.Hx.digit (b % 16)]).length cap) (E ++ [Lib.Hx.digit (b / 16), Lib.Hx.digit (b % 16)]) := by
            unfold OwnB
            rw [List.length_append]
            exact hown1
          have hlt3 := World.ownsRow.lt HO.out
          have hbl2 : Below w.heap.size w w1 := (andAlloc hbl (.cells #[.int .u8 (figI ((b : Int) / 16)), .int .u8 (figI ((b : Int) % 16))] 5)).drew.grown hgrow (Nat.le_trans hbl.size (by simp)) (fun j hj => (hlt3 j hj).1)
          have HLL : Hid ((E ++ [Lib.Hx.digit (b / 16), Lib.Hx.digit (b % 16)]).length = E.length + 2) := by show _ = _; rw [List.length_append]; rfl
          have HO2 := Lib.hid hown2
          clear hown1 hgrow hat hlt1 hown hlt3 hbl x1 x2 x3 x4 x5 hb hown2
          go_wp2
          go_roundw
          case rel => exact ⟨k + 1, by omega, by go_num, ⟨gg, cap, by rw [HN.out, HLL.out], by rw [HN.out, ← HLL.out]; exact HO2.out⟩, hbl2⟩
          case measure => simp [intOf]; omega
      · obtain rfl : k = s.size := by omega
        have htk : s.data.toList.take s.size = s.data.toList := List.take_of_length_le (by simp)
        have hcv := OwnB.conv hown
        rw [htk] at hcv
        rw [htk]
        clear hown hlen htk
        have HH : Hid (hexT s = ⟨(Lib.Hx.encode s.data.toList).toArray⟩) := rfl
        generalize Lib.Hx.encode s.data.toList = E at *
        go_wp2
        refine bodyPost_ret (v := .tuple #[.string (hexT s), .bool true]) (by simp [results, Try.results6, go_sem, HH.out]) rfl ?_
        exact ⟨by rw [HE.out], hbl⟩
  · have HE : Hid (encHex s = (emptyT, false)) := if_neg hn
    go_enter Try.func6, Try.ntmps6
    go_wp2
    refine bodyPost_ret (v := .tuple #[.string emptyT, .bool false]) (by simp [results, Try.results6, go_sem, emptyT]) rfl ?_
    exact ⟨by rw [HE.out], Below.refl _ _⟩

set_option maxHeartbeats 1000000 in
theorem walk_FnExactEncodeHex (s : ByteArray) (hs : s.size ≤ maxLen) (w : World) :
    Calls Try.prog 3 #[.string s] w fun e w' => e = .returned (.bool true) ∧ Below w.heap.size w w' := by
  obtain ⟨E, o, he⟩ : ∃ E o, encHex s = (E, o) := ⟨_, _, rfl⟩
  have HE := Lib.hid he
  have HS := Lib.hid hs
  clear he
  unfold maxLen at hs
  by_cases hn : s.size ≤ 1048576
  · go_enter Try.func3, Try.ntmps3
    go_wp2_with fail
    refine (specEncodeHex_c s _ HS.out).mono ?_
    rintro e w1 ⟨rfl, b1⟩
    rw [HE.out]
    go_wp2_with fail
    refine (implEncodeHex_c s _ HS.out).mono ?_
    rintro e w2 ⟨rfl, b2⟩
    rw [HE.out]
    go_wp2
    go_ret
    exact ⟨rfl, andThen b1 b2⟩
  · go_enter Try.func3, Try.ntmps3
    go_wp2
    go_ret
    exact ⟨rfl, Below.refl _ _⟩

end Go.Proofs.Ytcibffmhlamcdaa
