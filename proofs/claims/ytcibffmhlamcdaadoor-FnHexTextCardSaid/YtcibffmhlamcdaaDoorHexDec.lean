/-
  DecodeHex of both packages gives back the bytes that the lower-case hexadecimal digits of the text spell; the walk of the law FnExactDecodeHex. Conditions: the text is a Go string; the library's variable ErrLength holds an error.
-/
import Derived.Test.YtcibffmhlamcdaaDoorOwnB
import Derived.Test.YtcibffmhlamcdaaDoorLaidD
import Derived.Test.YtcibffmhlamcdaaDoorShelf
namespace Go.Proofs.YtcibffmhlamcdaaDoor
open Go.RowKit
set_option linter.unusedVariables false
set_option maxRecDepth 4000

/-- The error that the decoding ends with. -/
theorem err_not_nil {T te : TypeId} {pe : Value} {o : Lib.Hx.Out} (h : o ≠ .ok) : ∃ t p, Lib.Hx.errVal T (.iface te pe) o = .iface t p := by
  cases o with
  | ok => exact absurd rfl h
  | bad c => exact ⟨_, _, rfl⟩
  | odd => exact ⟨_, _, rfl⟩
/-- What the program asks: the text decodes, its bytes are few, and they spell the text again. -/
theorem decHex_impl (l b : List UInt8) (o : Lib.Hx.Out) (h : Lib.Hx.decode l = (b, o)) :
    (o ≠ .ok → decHex l = ([], false)) ∧ (o = .ok → 20000 < b.length → decHex l = ([], false)) ∧ (o = .ok → b.length ≤ 20000 → Lib.Hx.encode b ≠ l → decHex l = ([], false)) ∧ (o = .ok → b.length ≤ 20000 → Lib.Hx.encode b = l → decHex l = (b, true)) := by
  have key : ∀ b', unhex l = some b' → b' = b ∧ o = .ok ∧ Lib.Hx.encode b = l := fun b' hb' => by
    obtain ⟨h1, h2, _⟩ := unhex_some l b' hb'
    rw [h] at h1
    injection h1 with h3 h4
    subst h3
    exact ⟨rfl, h4, h2⟩
  refine ⟨fun ho => ?_, fun ho hb => ?_, fun ho hb he => ?_, fun ho hb he => ?_⟩
  · cases hu : unhex l with
    | none => exact decHex_none hu
    | some b' => exact absurd (key b' hu).2.1 ho
  · cases hu : unhex l with
    | none => exact decHex_none hu
    | some b' => rw [decHex_some hu, if_neg (by rw [(key b' hu).1]; omega)]
  · cases hu : unhex l with
    | none => exact decHex_none hu
    | some b' => exact absurd (key b' hu).2.2 he
  · subst ho
    rw [decHex_some (unhex_of l b h he), if_pos hb]

set_option maxHeartbeats 1000000 in
theorem implDecodeHex_c (s : ByteArray) (w : World) (hs : s.size ≤ 1048576) (hE : ErrAt 2 w) :
    Calls Tryd.prog 20 #[.string s] w fun e w' => e = .returned (.tuple #[.string (txt (decHex s.data.toList).1), .bool (decHex s.data.toList).2]) ∧ Below w.heap.size w w' := by
  obtain ⟨te, pe, hE⟩ := hE
  have HD := Lib.hid (Tryd.hex_DecodeString s w (.iface te pe) hE (by omega))
  have hdl := Lib.Hx.decode_len s.data.toList
  obtain ⟨b, o, hd⟩ : ∃ b o, Lib.Hx.decode s.data.toList = (b, o) := ⟨_, _, rfl⟩
  obtain ⟨i1, i2, i3, i4⟩ := decHex_impl s.data.toList b o hd
  have hbl : b.length ≤ s.size / 2 := by rw [hd] at hdl; simpa using hdl
  have hlt : w.heap.size < w.heap.size + 1 := Nat.lt_succ_self _
  rw [hd] at HD
  clear hd hE hdl
  by_cases ho : o = .ok
  · subst ho
    by_cases h20 : 20000 < b.length
    · have HI : Hid (decHex s.data.toList = ([], false)) := i2 rfl h20
      clear i1 i2 i3 i4
      go_enter Tryd.func20, Tryd.ntmps20
      go_wp2_with fail
      refine HD.out.mono ?_
      rintro e w1 ⟨rfl, hrow, b1⟩
      clear hrow
      simp only [Lib.Hx.errVal]
      have h20' : decide ((20000 : Int) < (b.length : Int)) = true := decide_eq_true (by omega)
      go_wp2_with fail
      refine bodyPost_ret (v := .tuple #[.string (txt []), .bool false]) (by simp [results, Tryd.results20, go_sem, txt]) rfl ?_
      exact ⟨by rw [HI.out], b1⟩
    · have HI2 := Lib.hid (And.intro (i3 rfl (by omega)) (i4 rfl (by omega)))
      clear i1 i2 i3 i4
      go_enter Tryd.func20, Tryd.ntmps20
      go_wp2_with fail
      refine HD.out.mono ?_
      rintro e w1 ⟨rfl, hrow, b1⟩
      have hown : OwnB w1 w.heap.size (.slice (some ⟨w.heap.size, 0, none⟩) b.length (s.size / 2)) b := rowP_owns hrow hbl (by unfold maxLen; omega) _ (Nat.le_refl _)
      have hblk : w.heap.size < w1.heap.size := by
        rcases hown.slice with ⟨h, _⟩ | ⟨g, cap, h, _, h2, _⟩
        · cases h
        · injection h with h _ _; injection h with h; injection h with h _ _; subst h; exact h2
      have HC := Lib.hid (Tryd.hex_EncodeToString_bytes w.heap.size 0 (s.size / 2) b w1 (fun i h => by rw [Nat.zero_add]; exact hown.cell i h) hblk (by omega))
      have HO := Lib.hid hown
      clear hrow hown
      simp only [Lib.Hx.errVal]
      have h20' : decide ((20000 : Int) < (b.length : Int)) = false := decide_eq_false (by omega)
      by_cases he : Lib.Hx.encode b = s.data.toList
      · have HI : Hid (decHex s.data.toList = (b, true)) := HI2.out.2 he
        have hes : (Lib.Hx.encode b == s.toList) = true := by
          rw [ByteArray.toList_eq, beq_iff_eq]
          exact he
        clear HI2
        go_wp2_with (go_at_call 39; refine HC.out.mono ?_; rintro e w2 ⟨rfl, b2⟩; have hcv := OwnB.conv (HO.out.below b2))
        all_goals
          refine bodyPost_ret (v := .tuple #[.string (txt b), .bool true]) (by simp [results, Tryd.results20, go_sem, txt]) rfl ?_
          exact ⟨by rw [HI.out], andThen b1 b2⟩
      · have HI : Hid (decHex s.data.toList = ([], false)) := HI2.out.1 he
        have hes : (Lib.Hx.encode b == s.toList) = false := by
          rw [ByteArray.toList_eq, beq_eq_false_iff_ne]
          exact he
        clear HI2
        go_wp2_with (go_at_call 39; refine HC.out.mono ?_; rintro e w2 ⟨rfl, b2⟩; have hcv := OwnB.conv (HO.out.below b2))
        all_goals
          refine bodyPost_ret (v := .tuple #[.string (txt []), .bool false]) (by simp [results, Tryd.results20, go_sem, txt]) rfl ?_
          exact ⟨by rw [HI.out], andThen b1 b2⟩
  · have HI : Hid (decHex s.data.toList = ([], false)) := i1 ho
    clear i1 i2 i3 i4
    obtain ⟨T, P, hev⟩ := err_not_nil (T := 81) (te := te) (pe := pe) ho
    go_enter Tryd.func20, Tryd.ntmps20
    go_wp2_with fail
    refine HD.out.mono ?_
    rintro e w1 ⟨rfl, hrow, b1⟩
    clear hrow
    rw [hev]
    go_wp2_with fail
    refine bodyPost_ret (v := .tuple #[.string (txt []), .bool false]) (by simp [results, Tryd.results20, go_sem, txt]) rfl ?_
    exact ⟨by rw [HI.out], b1⟩

set_option maxHeartbeats 400000 in
theorem l01Value_c (b : UInt8) (w : World) :
    Calls Tryd.prog 37 #[.int .u8 (b.toNat : Int)] w fun e w' => e = .returned (.int .i64 (hexV b)) ∧ w = w' := by
  have HV : Hid (hexV b = if 48 ≤ b.toNat ∧ b.toNat ≤ 57 then (b.toNat : Int) - 48 else if 97 ≤ b.toNat ∧ b.toNat ≤ 102 then (b.toNat : Int) - 97 + 10 else -1) := rfl
  have hb := b.toNat_lt
  obtain ⟨n, hn⟩ : ∃ n : Nat, b.toNat = n := ⟨_, rfl⟩
  rw [hn] at hb HV ⊢
  by_cases h1 : 48 ≤ n ∧ n ≤ 57
  · obtain ⟨a1, a2⟩ := h1
    have d1 : decide ((48 : Int) ≤ (n : Int)) = true := decide_eq_true (by omega)
    have d2 : decide ((n : Int) ≤ 57) = true := decide_eq_true (by omega)
    go_enter Tryd.func37, Tryd.ntmps37
    go_wp2
    go_ret
    exact ⟨ret_int (by rw [HV.out, if_pos ⟨a1, a2⟩]; (try simp [IntKind.wrap]); (try omega)), rfl⟩
  · by_cases h2 : 97 ≤ n ∧ n ≤ 102
    · obtain ⟨a1, a2⟩ := h2
      have d1 : decide ((48 : Int) ≤ (n : Int)) = true := decide_eq_true (by omega)
      have d2 : decide ((n : Int) ≤ 57) = false := decide_eq_false (by omega)
      have d3 : decide ((97 : Int) ≤ (n : Int)) = true := decide_eq_true (by omega)
      have d4 : decide ((n : Int) ≤ 102) = true := decide_eq_true (by omega)
      go_enter Tryd.func37, Tryd.ntmps37
      go_wp2
      all_goals
        go_ret
        exact ⟨ret_int (by rw [HV.out, if_neg h1, if_pos ⟨a1, a2⟩]; (try simp [IntKind.wrap]); (try omega)), rfl⟩
    · go_enter Tryd.func37, Tryd.ntmps37
      go_wp2
      all_goals first
        | (exfalso; omega)
        | (go_ret; exact ⟨ret_int (by rw [HV.out, if_neg h1, if_neg h2]), rfl⟩)

theorem unhex_pair (p q : UInt8) (t : List UInt8) : unhex (p :: q :: t) = if hexV p < 0 ∨ hexV q < 0 then none else (unhex t).map (UInt8.ofNat ((hexV p).toNat * 16 + (hexV q).toNat) :: ·) := by
  rw [unhex]
/-- k pairs are read, into 'pre'. -/
def HexMid (l : List UInt8) (k : Nat) (pre : List UInt8) : Prop := pre.length = k ∧ unhex l = (unhex (l.drop (2 * k))).map (pre ++ ·)
theorem hexMid_zero (l : List UInt8) : HexMid l 0 [] := ⟨rfl, by cases h : unhex l <;> simp [h]⟩
theorem hexMid_no {l pre : List UInt8} {k : Nat} {p q : UInt8} {t : List UInt8} (h : HexMid l k pre) (hd : l.drop (2 * k) = p :: q :: t) (hn : hexV p < 0 ∨ hexV q < 0) : decHex l = ([], false) := by
  refine decHex_none ?_
  rw [h.2, hd, unhex_pair, if_pos hn]
  rfl
theorem hexMid_step {l pre : List UInt8} {k : Nat} {p q : UInt8} {t : List UInt8} (h : HexMid l k pre) (hd : l.drop (2 * k) = p :: q :: t) (hn : ¬ (hexV p < 0 ∨ hexV q < 0)) : HexMid l (k + 1) (pre ++ [UInt8.ofNat ((hexV p).toNat * 16 + (hexV q).toNat)]) := by
  refine ⟨by rw [List.length_append, h.1]; rfl, ?_⟩
  have e : l.drop (2 * (k + 1)) = t := by
    have : l.drop (2 * (k + 1)) = (l.drop (2 * k)).drop 2 := by rw [List.drop_drop]; congr 1
    rw [this, hd]
    rfl
  rw [h.2, hd, unhex_pair, if_neg hn, e]
  cases unhex t <;> simp
theorem hexMid_end {l pre : List UInt8} {k : Nat} (h : HexMid l k pre) (hl : l.length = 2 * k) (h2 : l.length ≤ 40000) : decHex l = (pre, true) := by
  have hu : unhex l = some pre := by
    rw [h.2, List.drop_of_length_le (by omega)]
    simp [unhex]
  rw [decHex_some hu, if_pos (by rw [h.1]; omega)]

set_option maxHeartbeats 2000000 in
theorem specDecodeHex_c (s : ByteArray) (w : World) (hs : s.size ≤ 1048576) :
    Calls Tryd.prog 19 #[.string s] w fun e w' => e = .returned (.tuple #[.string (txt (decHex s.data.toList).1), .bool (decHex s.data.toList).2]) ∧ Below w.heap.size w w' := by
  obtain ⟨i0, hi, hz0, hz1, hz2⟩ := info_parts info_u8
  have hsl : s.data.toList.length = s.size := by simp
  by_cases hbad : 40000 < s.size ∨ s.size % 2 ≠ 0
  · have HI : Hid (decHex s.data.toList = ([], false)) := by
      show _ = _
      cases hu : unhex s.data.toList with
      | none => exact decHex_none hu
      | some b =>
        have := (unhex_some _ _ hu).2.2
        rw [decHex_some hu, if_neg (by omega)]
    clear hsl
    by_cases h4 : 40000 < s.size
    · have d1 : decide ((40000 : Int) < (s.size : Int)) = true := decide_eq_true (by omega)
      go_enter Tryd.func19, Tryd.ntmps19
      go_wp2
      refine bodyPost_ret (v := .tuple #[.string (txt []), .bool false]) (by simp [results, Tryd.results19, go_sem, txt]) rfl ?_
      exact ⟨by rw [HI.out], Below.refl _ _⟩
    · have d1 : decide ((40000 : Int) < (s.size : Int)) = false := decide_eq_false (by omega)
      have d2 : (s.size : Int).tmod 2 = 1 := by rw [Int.tmod_eq_emod_of_nonneg (by omega)]; omega
      go_enter Tryd.func19, Tryd.ntmps19
      go_wp2
      refine bodyPost_ret (v := .tuple #[.string (txt []), .bool false]) (by simp [results, Tryd.results19, go_sem, txt]) rfl ?_
      exact ⟨by rw [HI.out], Below.refl _ _⟩
  · have h4 : s.size ≤ 40000 := by omega
    obtain ⟨N, hN⟩ : ∃ N, s.size = 2 * N := ⟨s.size / 2, by omega⟩
    have d1 : decide ((40000 : Int) < (s.size : Int)) = false := decide_eq_false (by omega)
    have d2 : (s.size : Int).tmod 2 = 0 := by rw [Int.tmod_eq_emod_of_nonneg (by omega)]; omega
    have HN := Lib.hid hN
    have HSL := Lib.hid hsl
    clear hbad hN hsl
    go_enter Tryd.func19, Tryd.ntmps19
    go_wp2_with fail
    go_loopw [4, 5] (fun v i wr => ∃ (k : Nat) (pre : List UInt8), k ≤ N ∧ i = .int .i64 (2 * (k : Int)) ∧ Hid (HexMid s.data.toList k pre) ∧ Hid (OwnB wr w.heap.size v pre) ∧ Below w.heap.size w wr) (fun _ i _ => 2 * N - (intOf i).toNat)
    case atStart => exact ⟨0, [], Nat.zero_le _, rfl, hexMid_zero _, ownB_lit rfl (Nat.le_refl _), andAlloc (Below.refl _ _) _⟩
    case round =>
      obtain ⟨k, pre, hk, rfl, hm, hown, hbl⟩ := hrel
      by_cases hlt : k < N
      · have k4 : k < 20000 := by have := HN.out; omega
        have k5 : 2 * k < s.size := by have := HN.out; omega
        have k6 : 2 * k + 1 < s.size := by have := HN.out; omega
        have k0 : (0 : Int) ≤ 2 * (k : Int) := by omega
        have k1 : 2 * (k : Int) < (s.size : Int) := by omega
        have k2 : (0 : Int) ≤ 2 * (k : Int) + 1 := by omega
        have k3 : 2 * (k : Int) + 1 < (s.size : Int) := by omega
        have HDR : Hid (s.data.toList.drop (2 * k) = s[2 * k] :: s[2 * k + 1] :: s.data.toList.drop (2 * k + 1 + 1)) := by show _ = _; rw [bytesOf s (2 * k) k5, bytesOf s (2 * k + 1) k6]
        go_wp2_with fail
        refine (l01Value_c s[2 * k] _).mono ?_
        rintro e w1 ⟨rfl, rfl⟩
        go_wp2_with fail
        refine (l01Value_c s[2 * k + 1] _).mono ?_
        rintro e w1 ⟨rfl, rfl⟩
        obtain ⟨p, hp⟩ : ∃ p, s[2 * k] = p := ⟨_, rfl⟩
        obtain ⟨q, hq⟩ : ∃ q, s[2 * k + 1] = q := ⟨_, rfl⟩
        have HDR2 : Hid (s.data.toList.drop (2 * k) = p :: q :: s.data.toList.drop (2 * k + 1 + 1)) := by show _ = _; rw [← hp, ← hq]; exact HDR.out
        rw [hp, hq]
        clear HDR hp hq
        by_cases hn : hexV p < 0 ∨ hexV q < 0
        · have HI := Lib.hid (hexMid_no hm.out HDR2.out hn)
          have hp1 := hexV_ge p
          have hq1 := hexV_ge q
          clear HDR2
          by_cases hn1 : hexV p < 0
          · go_wp2_with fail
            refine bodyPost_ret (v := .tuple #[.string (txt []), .bool false]) (by simp [results, Tryd.results19, go_sem, txt]) rfl ?_
            exact ⟨by rw [HI.out], hbl⟩
          · have hn2 : hexV q < 0 := by omega
            go_wp2_with fail
            refine bodyPost_ret (v := .tuple #[.string (txt []), .bool false]) (by simp [results, Tryd.results19, go_sem, txt]) rfl ?_
            exact ⟨by rw [HI.out], hbl⟩
        · have HS := Lib.hid (hexMid_step hm.out HDR2.out hn)
          have hp2 := (hex_yes (b := p) (by omega)).2.1
          have hq2 := (hex_yes (b := q) (by omega)).2.1
          obtain ⟨x, hx⟩ : ∃ x : Nat, (hexV p).toNat = x := ⟨_, rfl⟩
          obtain ⟨y, hy⟩ : ∃ y : Nat, (hexV q).toNat = y := ⟨_, rfl⟩
          have ex : hexV p = (x : Int) := by omega
          have ey : hexV q = (y : Int) := by omega
          rw [hx, hy] at HS
          rw [hx] at hp2
          rw [hy] at hq2
          rw [ex, ey]
          clear hn hx hy ex ey HDR2
          have hcn : Hid (16 * (x : Int) + (y : Int) = ((UInt8.ofNat (x * 16 + y)).toNat : Int)) := by show _ = _; rw [UInt8.toNat_ofNat']; omega
          have HPL := Lib.hid hm.out.1
          have HO := Lib.hid (World.ownsRow.alloc hown.out (.cells #[.int .u8 (16 * (x : Int) + (y : Int))] 5))
          go_wp2_with (at_builtin; refine wpList_append_own _ rfl _ _ 22 rfl w.heap.size 5 i0 (.int .u8 0) 1 1 Tryd.underlying22 hi hz0 hz1 hz2 rfl (by decide) _ _ _ rfl HO.out ⟨wr.heap.size, 0, none⟩ 1 1 [.int .u8 (16 * (x : Int) + (y : Int))] rfl rfl (one_news _ _ _) (one_byte _) ?c3 ?c4 ?c5 ?_)
          case c3 => have := HPL.out; unfold maxLen; omega
          case c4 => have := HPL.out; omega
          case c5 => have := hbl.size; simp; omega
          intro v' w3 hown3 hg3 _
          have hown4 := Lib.hid (ownB_push hcn.out hown3)
          have hlt3 := World.ownsRow.lt HO.out
          have hbl4 := (andAlloc hbl (.cells #[.int .u8 (16 * (x : Int) + (y : Int))] 5)).grown hg3 (Nat.le_trans hbl.size (by simp)) (fun j hj => (hlt3 j hj).1)
          clear hown3 hg3 hlt3 HO hown hbl hcn
          go_wp2
          go_roundw
          case rel => exact ⟨k + 1, _, by omega, by go_num, HS, hown4, hbl4⟩
          case measure => simp [intOf]; omega
      · obtain rfl : k = N := by omega
        have hNN := HN.out
        have HI := Lib.hid (hexMid_end hm.out (by rw [HSL.out, hNN]) (by rw [HSL.out]; omega))
        have k0 : ¬ (2 * (k : Int) < (s.size : Int)) := by omega
        clear hNN
        rcases hown.out.slice with ⟨rfl, rfl⟩ | ⟨g, cap, rfl, _⟩
        · have hcv : (convert 22 9 (.slice none 0 0)).run Tryd.prog wr = .ok (.string (txt [])) wr := by kernel_rfl
          go_wp2
          refine bodyPost_ret (v := .tuple #[.string (txt []), .bool true]) (by simp [results, Tryd.results19, go_sem, txt]) rfl ?_
          exact ⟨by rw [HI.out], hbl⟩
        · have hcv := OwnB.conv hown.out
          go_wp2
          refine bodyPost_ret (v := .tuple #[.string (txt pre), .bool true]) (by simp [results, Tryd.results19, go_sem]) rfl ?_
          exact ⟨by rw [HI.out], hbl⟩

set_option maxHeartbeats 1000000 in
theorem walk_FnExactDecodeHex (s : ByteArray) (hs : s.size ≤ maxLen) (w : World) (hE : ErrAt 2 w) :
    Calls Tryd.prog 6 #[.string s] w fun e w' => e = .returned (.bool true) ∧ Below w.heap.size w w' := by
  obtain ⟨E, o, he⟩ : ∃ E o, decHex s.data.toList = (E, o) := ⟨_, _, rfl⟩
  have HE := Lib.hid he
  have HX := Lib.hid hE
  clear he hE
  unfold maxLen at hs
  by_cases hn : s.size ≤ 1048576
  · go_enter Tryd.func6, Tryd.ntmps6
    go_wp2_with fail
    refine (specDecodeHex_c s _ hn).mono ?_
    rintro e w1 ⟨rfl, b1⟩
    rw [HE.out]
    go_wp2_with fail
    refine (implDecodeHex_c s _ hn (HX.out.later b1)).mono ?_
    rintro e w2 ⟨rfl, b2⟩
    rw [HE.out]
    go_wp2
    go_ret
    exact ⟨rfl, andThen b1 b2⟩
  · go_enter Tryd.func6, Tryd.ntmps6
    go_wp2
    go_ret
    exact ⟨rfl, Below.refl _ _⟩

end Go.Proofs.YtcibffmhlamcdaaDoor
