/-
  DrawSplitFields: some text of at most 2000 bytes. Conditions: the slice of bytes can be read, at most 2000000 of them.
-/
import Derived.Test.YtcibffmhlamcdaaDoorStrs
import Derived.Test.YtcibffmhlamcdaaDoorDrawStr
namespace Go.Proofs.YtcibffmhlamcdaaDoor
open Go.RowKit Go.Sort
set_option linter.unusedVariables false
set_option maxRecDepth 4000

/-- One of the texts; only the cursor's block has turned. -/
def DrawnOf (L : List (List UInt8)) (base B : Nat) (w : World) (e : Ending) (w' : World) : Prop := ∃ x, x ∈ L ∧ e = .returned (.string (txt x)) ∧ Cur w' base B ∧ w.grownBy w' (some B)
theorem OwnS.kept {w w' : World} {base : Nat} {v : Value} {L : List (List UInt8)} {row : Option Nat} (h : OwnS w base v L) (hg : w.grownBy w' row) (hne : v.ownBlock ≠ row ∨ v.ownBlock = none) : OwnS w' base v L :=
  World.ownsRow.kept h hg (hne.symm.imp id id)

set_option maxHeartbeats 1000000 in
theorem l01Pick_c (base base' B : Nat) (v : Value) (L : List (List UInt8)) (w : World) (hc : Cur w base B) (ho : OwnS w base' v L) (hn : 0 < L.length) (hm : L.length ≤ 1000000) :
    Calls Tryd.prog 31 #[.pointer (some ⟨B, 0, none⟩), v] w (DrawnOf L base B w) := by
  have hap := hc.apart ho (by decide)
  have hown := fun (w' : World) (hg : w.grownBy w' (some B)) => OwnS.kept ho hg (Or.inl hap)
  obtain ⟨g, cap, rfl, h1, h2, h3, h4⟩ := ho.form hn
  have HO := Lib.hid hown
  clear hown h4 hap
  go_enter Tryd.func31, Tryd.ntmps31
  go_wp2_with fail
  refine (l01Below_c base B _ _ hc (by omega)).mono ?_
  rintro e w1 ⟨x, ⟨hx0, hx1⟩, rfl, hc1, hg⟩
  obtain ⟨m, rfl⟩ := Int.eq_ofNat_of_zero_le hx0
  have ho1 := HO.out w1 hg
  obtain ⟨g', cap', e', h1', h2', h3', h4'⟩ := ho1.form hn
  have eg : g' = g := by injection e' with e1 e2 e3; injection e1 with e1; injection e1 with e1; exact e1.symm
  subst eg
  have hcell := h4' m (by omega)
  have hmem : L[m]'(by omega) ∈ L := List.getElem_mem _
  generalize L[m]'(by omega) = y at hcell hmem
  have HM := Lib.hid hmem
  clear ho1 h4' hmem e' ho
  go_wp2_with fail
  go_ret
  exact ⟨y, HM.out, rfl, hc1, hg⟩

def sixTexts : List (List UInt8) := [[32], [32, 32], [9], [10], [127], [233]]
theorem six_len : ∀ x ∈ sixTexts, x.length ≤ 2 := by decide

set_option maxHeartbeats 4000000 in
theorem drawSplitFields_c (A : Option Addr) (n cap : Nat) (w : World) (hb : Bytes w w.heap.size A n) (hn : n ≤ 2000000) :
    Calls Tryd.prog 11 #[.slice A n cap] w (DrawnText 2000 w) := by
  have HB := Lib.hid hb
  clear hb
  go_enter Tryd.func11, Tryd.ntmps11
  go_wp2_with fail
  refine (l01New_c w.heap.size A n cap _ HB.out hn (Nat.le_refl _)).mono ?_
  rintro e w1 ⟨B, rfl, hB, hcur, hbel⟩
  go_wp2_with fail
  refine (l01Below_c w.heap.size B 9 _ hcur (by omega)).mono ?_
  rintro e w2 ⟨x0, ⟨hx00, hx01⟩, rfl, hcu2, hg2⟩
  have hbl2 := below_only hbel hg2 hcur.le
  go_wp2_with fail
  refine (l01Once_c w.heap.size B 15 _ hcu2 (by omega)).mono ?_
  rintro e w3 ⟨b, rfl, hcu3, hg3⟩
  have hbl3 := below_only hbl2 hg3 hcu2.le
  clear hcur hbel hg2 hcu2 hbl2 hg3
  go_upto_if 13 with fail
  go_cut [4] (fun v wx => ∃ N : Nat, N ≤ 25 ∧ v = .int .i64 (N : Int) ∧ Cur wx w.heap.size B ∧ Below w.heap.size w wx)
  case first =>
    cases b
    · go_wp2_with fail
      go_meet
      exact ⟨x0.toNat, by omega, by congr 1; omega, hcu3, hbl3⟩
    · go_wp2_with fail
      refine (l01Below_c w.heap.size B 2 _ hcu3 (by omega)).mono ?_
      rintro e w4 ⟨y, ⟨hy0, hy1⟩, rfl, hcu4, hg4⟩
      have hbl4 := below_only hbl3 hg4 hcu3.le
      clear hcu3 hbl3 hg4
      go_wp2_with fail
      go_meet
      exact ⟨(24 + y).toNat, by omega, by congr 1; omega, hcu4, hbl4⟩
  case rest =>
    obtain ⟨N, hN, rfl, hcu4, hbl4⟩ := hcut
    clear hcu3 hbl3
    go_wp2_with fail
    go_loopw [5, 6] (fun sv i wr => ∃ (k : Nat) (s : ByteArray), k ≤ N ∧ i = .int .i64 (k : Int) ∧ sv = .string s ∧ s.size ≤ 8 * k ∧ Cur wr w.heap.size B ∧ Below w.heap.size w wr) (fun _ i _ => N - (intOf i).toNat)
    case atStart => exact ⟨0, ⟨#[]⟩, Nat.zero_le _, rfl, rfl, Nat.le_refl _, hcu4, hbl4⟩
    case round =>
      clear hcu4 hbl4
      obtain ⟨k, s, hk, rfl, rfl, hs, hcu4, hbl4⟩ := hrel
      by_cases hlt : k < N
      · have hkN : (k : Int) < (N : Int) := by omega
        by_cases hk0 : 0 < k
        · go_wp2_with fail
          refine (l01Below_c w.heap.size B 2 _ hcu4 (by omega)).mono ?_
          rintro e w3 ⟨x, ⟨hx0, hx1⟩, rfl, hcu3, hg3⟩
          have hbl3 := below_only hbl4 hg3 hcu4.le
          go_wp2_with fail
          refine (l01Below_c w.heap.size B 3 _ hcu3 (by omega)).mono ?_
          rintro e w4 ⟨y, ⟨hy0, hy1⟩, rfl, hcu4', hg4⟩
          have hbl4' := below_only hbl3 hg4 hcu3.le
          obtain ⟨p, hp⟩ : ∃ p : Nat, 1 + x * y = (p : Int) ∧ p ≤ 3 := by
            rcases (show x = 0 ∨ x = 1 by omega) with rfl | rfl
            · exact ⟨1, by omega, by omega⟩
            · exact ⟨(1 + y).toNat, by omega, by omega⟩
          obtain ⟨hp, hp3⟩ := hp
          have HC := Lib.hid (l01Long_c p 32 32 rfl w4 (by omega))
          have x1 : IntKind.i64.wrap (x * y) = x * y := IntWalk.i64_in _ ⟨by omega, by omega⟩
          have x2 : IntKind.i64.wrap (1 + x * y) = (p : Int) := by rw [hp]; exact IntWalk.i64_in _ ⟨by omega, by omega⟩
          have x3 : wrap64 (x * y) = x * y := IntWalk.wrap64_in _ ⟨by omega, by omega⟩
          clear hcu4 hbl4 hg3 hcu3 hbl3 hg4
          go_wp2_with fail
          refine HC.out.mono ?_
          rintro e w5 ⟨t, ht, rfl, hb5⟩
          have hsz : (9223372036854775807 < s.size + t.size) = False := by simp; omega
          have hcu1 := hcu4'.below hb5
          have hbl1 := andThen hbl4' hb5
          obtain ⟨s1, hs1e⟩ : ∃ s1 : ByteArray, s ++ t = s1 := ⟨_, rfl⟩
          have hs1 : s1.size ≤ 8 * k + 3 := by rw [← hs1e, ByteArray.size_append]; omega
          clear hcu4' hbl4' hb5 hp x1 x2 x3 hx0 hx1 hy0 hy1
          go_wp2_with fail
          go_loopw [5, 7] (fun sv j wr => ∃ (m : Nat) (s : ByteArray), m ≤ 5 ∧ j = .int .i64 (m : Int) ∧ sv = .string s ∧ s.size ≤ 8 * k + 3 + m ∧ Cur wr w.heap.size B ∧ Below w.heap.size w wr) (fun _ j _ => 5 - (intOf j).toNat)
          case atStart => exact ⟨0, s1, by omega, rfl, rfl, by omega, hcu1, hbl1⟩
          case round =>
            clear hcu1 hbl1 hs1
            obtain ⟨m, s2, hm, rfl, rfl, hs2, hcu2, hbl2⟩ := hrel
            go_wp2_with fail
            refine (l01Below_c w.heap.size B 5 _ hcu2 (by omega)).mono ?_
            rintro e w5 ⟨x, ⟨hx0, hx1⟩, rfl, hcu5, hg5⟩
            have hbl5 := below_only hbl2 hg5 hcu2.le
            clear hcu2 hbl2 hg5
            by_cases hxm : (m : Int) ≤ x
            · have d5 : decide ((m : Int) ≤ x) = true := decide_eq_true hxm
              go_wp2_with fail
              refine (l01Below_c w.heap.size B 94 _ hcu5 (by omega)).mono ?_
              rintro e w6 ⟨y, ⟨hy0, hy1⟩, rfl, hcu6, hg6⟩
              have hbl6 := below_only hbl5 hg6 hcu5.le
              obtain ⟨q, rfl⟩ := Int.eq_ofNat_of_zero_le hy0
              obtain ⟨c, hc⟩ : ∃ c : UInt8, UInt8.ofNat (33 + q) = c := ⟨_, rfl⟩
              have hcn : 33 + (q : Int) = (c.toNat : Int) := by rw [← hc, UInt8.toNat_ofNat']; omega
              have hcv := conv_one w6 c (33 + (q : Int)) hcn
              have hsz : (9223372036854775807 < s2.size + (txt [c]).size) = False := by rw [txt_size]; simp; omega
              have hcu7 := hcu6.below ((Below.refl _ _).alloc (Nat.le_refl _) (.cells #[.int .u8 (33 + (q : Int))] 5))
              have hbl7 := andAlloc hbl6 (.cells #[.int .u8 (33 + (q : Int))] 5)
              clear hcu5 hbl5 hg6 hc hcn hcu6 hbl6
              go_wp2_with fail
              go_roundw
              case rel => exact ⟨m + 1, s2 ++ txt [c], by omega, by go_num, rfl, by rw [ByteArray.size_append, txt_size]; simp; omega, hcu7, hbl7⟩
              case measure => simp [intOf]; omega
            · have d5 : decide ((m : Int) ≤ x) = false := decide_eq_false hxm
              go_wp2_with fail
              go_roundw
              case rel => exact ⟨k + 1, s2, by omega, by go_num, rfl, by omega, hcu5, hbl5⟩
              case measure => simp [intOf]; omega
        · go_wp2_with fail
          refine (l01Once_c w.heap.size B 5 _ hcu4 (by omega)).mono ?_
          rintro e w2' ⟨b2, rfl, hcu2, hg2⟩
          have hbl2 := below_only hbl4 hg2 hcu4.le
          clear hcu4 hbl4 hg2
          cases b2
          · obtain ⟨s1, hs1e⟩ : ∃ s1 : ByteArray, s = s1 := ⟨_, rfl⟩
            have hs1 : s1.size ≤ 8 * k + 3 := by rw [← hs1e]; omega
            subst hs1e
            have hcu1 := hcu2
            have hbl1 := hbl2
            clear hcu2 hbl2
            go_wp2_with fail
            go_loopw [5, 7] (fun sv j wr => ∃ (m : Nat) (s : ByteArray), m ≤ 5 ∧ j = .int .i64 (m : Int) ∧ sv = .string s ∧ s.size ≤ 8 * k + 3 + m ∧ Cur wr w.heap.size B ∧ Below w.heap.size w wr) (fun _ j _ => 5 - (intOf j).toNat)
            case atStart => exact ⟨0, s, by omega, rfl, rfl, by omega, hcu1, hbl1⟩
            case round =>
              clear hcu1 hbl1 hs
              obtain ⟨m, s2, hm, rfl, rfl, hs2, hcu2, hbl2⟩ := hrel
              go_wp2_with fail
              refine (l01Below_c w.heap.size B 5 _ hcu2 (by omega)).mono ?_
              rintro e w5 ⟨x, ⟨hx0, hx1⟩, rfl, hcu5, hg5⟩
              have hbl5 := below_only hbl2 hg5 hcu2.le
              clear hcu2 hbl2 hg5
              by_cases hxm : (m : Int) ≤ x
              · have d5 : decide ((m : Int) ≤ x) = true := decide_eq_true hxm
                go_wp2_with fail
                refine (l01Below_c w.heap.size B 94 _ hcu5 (by omega)).mono ?_
                rintro e w6 ⟨y, ⟨hy0, hy1⟩, rfl, hcu6, hg6⟩
                have hbl6 := below_only hbl5 hg6 hcu5.le
                obtain ⟨q, rfl⟩ := Int.eq_ofNat_of_zero_le hy0
                obtain ⟨c, hc⟩ : ∃ c : UInt8, UInt8.ofNat (33 + q) = c := ⟨_, rfl⟩
                have hcn : 33 + (q : Int) = (c.toNat : Int) := by rw [← hc, UInt8.toNat_ofNat']; omega
                have hcv := conv_one w6 c (33 + (q : Int)) hcn
                have hsz : (9223372036854775807 < s2.size + (txt [c]).size) = False := by rw [txt_size]; simp; omega
                have hcu7 := hcu6.below ((Below.refl _ _).alloc (Nat.le_refl _) (.cells #[.int .u8 (33 + (q : Int))] 5))
                have hbl7 := andAlloc hbl6 (.cells #[.int .u8 (33 + (q : Int))] 5)
                clear hcu5 hbl5 hg6 hc hcn hcu6 hbl6
                go_wp2_with fail
                go_roundw
                case rel => exact ⟨m + 1, s2 ++ txt [c], by omega, by go_num, rfl, by rw [ByteArray.size_append, txt_size]; simp; omega, hcu7, hbl7⟩
                case measure => simp [intOf]; omega
              · have d5 : decide ((m : Int) ≤ x) = false := decide_eq_false hxm
                go_wp2_with fail
                go_roundw
                case rel => exact ⟨k + 1, s2, by omega, by go_num, rfl, by omega, hcu5, hbl5⟩
                case measure => simp [intOf]; omega
          · go_wp2_with fail
            refine (l01Below_c w.heap.size B 2 _ hcu2 (by omega)).mono ?_
            rintro e w3 ⟨x, ⟨hx0, hx1⟩, rfl, hcu3, hg3⟩
            have hbl3 := below_only hbl2 hg3 hcu2.le
            go_wp2_with fail
            refine (l01Below_c w.heap.size B 3 _ hcu3 (by omega)).mono ?_
            rintro e w4 ⟨y, ⟨hy0, hy1⟩, rfl, hcu4, hg4⟩
            have hbl4 := below_only hbl3 hg4 hcu3.le
            obtain ⟨p, hp⟩ : ∃ p : Nat, 1 + x * y = (p : Int) ∧ p ≤ 3 := by
              rcases (show x = 0 ∨ x = 1 by omega) with rfl | rfl
              · exact ⟨1, by omega, by omega⟩
              · exact ⟨(1 + y).toNat, by omega, by omega⟩
            obtain ⟨hp, hp3⟩ := hp
            have HC := Lib.hid (l01Long_c p 32 32 rfl w4 (by omega))
            have x1 : IntKind.i64.wrap (x * y) = x * y := IntWalk.i64_in _ ⟨by omega, by omega⟩
            have x2 : IntKind.i64.wrap (1 + x * y) = (p : Int) := by rw [hp]; exact IntWalk.i64_in _ ⟨by omega, by omega⟩
            have x3 : wrap64 (x * y) = x * y := IntWalk.wrap64_in _ ⟨by omega, by omega⟩
            clear hcu2 hbl2 hg3 hcu3 hbl3 hg4
            go_wp2_with fail
            refine HC.out.mono ?_
            rintro e w5 ⟨t, ht, rfl, hb5⟩
            have hsz : (9223372036854775807 < s.size + t.size) = False := by simp; omega
            have hcu1 := hcu4.below hb5
            have hbl1 := andThen hbl4 hb5
            obtain ⟨s1, hs1e⟩ : ∃ s1 : ByteArray, s ++ t = s1 := ⟨_, rfl⟩
            have hs1 : s1.size ≤ 8 * k + 3 := by rw [← hs1e, ByteArray.size_append]; omega
            clear hcu4 hbl4 hb5 hp x1 x2 x3 hx0 hx1 hy0 hy1
            go_wp2_with fail
            go_loopw [5, 7] (fun sv j wr => ∃ (m : Nat) (s : ByteArray), m ≤ 5 ∧ j = .int .i64 (m : Int) ∧ sv = .string s ∧ s.size ≤ 8 * k + 3 + m ∧ Cur wr w.heap.size B ∧ Below w.heap.size w wr) (fun _ j _ => 5 - (intOf j).toNat)
            case atStart => exact ⟨0, s1, by omega, rfl, rfl, by omega, hcu1, hbl1⟩
            case round =>
              clear hcu1 hbl1 hs1
              obtain ⟨m, s2, hm, rfl, rfl, hs2, hcu2, hbl2⟩ := hrel
              go_wp2_with fail
              refine (l01Below_c w.heap.size B 5 _ hcu2 (by omega)).mono ?_
              rintro e w5 ⟨x, ⟨hx0, hx1⟩, rfl, hcu5, hg5⟩
              have hbl5 := below_only hbl2 hg5 hcu2.le
              clear hcu2 hbl2 hg5
              by_cases hxm : (m : Int) ≤ x
              · have d5 : decide ((m : Int) ≤ x) = true := decide_eq_true hxm
                go_wp2_with fail
                refine (l01Below_c w.heap.size B 94 _ hcu5 (by omega)).mono ?_
                rintro e w6 ⟨y, ⟨hy0, hy1⟩, rfl, hcu6, hg6⟩
                have hbl6 := below_only hbl5 hg6 hcu5.le
                obtain ⟨q, rfl⟩ := Int.eq_ofNat_of_zero_le hy0
                obtain ⟨c, hc⟩ : ∃ c : UInt8, UInt8.ofNat (33 + q) = c := ⟨_, rfl⟩
                have hcn : 33 + (q : Int) = (c.toNat : Int) := by rw [← hc, UInt8.toNat_ofNat']; omega
                have hcv := conv_one w6 c (33 + (q : Int)) hcn
                have hsz : (9223372036854775807 < s2.size + (txt [c]).size) = False := by rw [txt_size]; simp; omega
                have hcu7 := hcu6.below ((Below.refl _ _).alloc (Nat.le_refl _) (.cells #[.int .u8 (33 + (q : Int))] 5))
                have hbl7 := andAlloc hbl6 (.cells #[.int .u8 (33 + (q : Int))] 5)
                clear hcu5 hbl5 hg6 hc hcn hcu6 hbl6
                go_wp2_with fail
                go_roundw
                case rel => exact ⟨m + 1, s2 ++ txt [c], by omega, by go_num, rfl, by rw [ByteArray.size_append, txt_size]; simp; omega, hcu7, hbl7⟩
                case measure => simp [intOf]; omega
              · have d5 : decide ((m : Int) ≤ x) = false := decide_eq_false hxm
                go_wp2_with fail
                go_roundw
                case rel => exact ⟨k + 1, s2, by omega, by go_num, rfl, by omega, hcu5, hbl5⟩
                case measure => simp [intOf]; omega
      · have hkN : ¬ (k : Int) < (N : Int) := by omega
        go_wp2_with fail
        refine (l01Below_c w.heap.size B 12 _ hcu4 (by omega)).mono ?_
        rintro e w2' ⟨x, ⟨hx0, hx1⟩, rfl, hcu2, hg2⟩
        have hbl2 := below_only hbl4 hg2 hcu4.le
        clear hcu4 hbl4 hg2
        have hs2 : s.size ≤ 200 := by omega
        by_cases hx2 : x = 0
        · subst hx2
          have HO : Hid (OwnS (w2'.alloc (.cells #[.string ⟨#[32]⟩, .string ⟨#[32, 32]⟩, .string ⟨#[9]⟩, .string ⟨#[10]⟩, .string ⟨#[127]⟩, .string ⟨#[233]⟩] 9)) w2'.heap.size (.slice (some ⟨w2'.heap.size, 0, none⟩) 6 6) sixTexts) := ownS_all (w := w2') sixTexts (by decide)
          have hcu5 := hcu2.below ((Below.refl _ _).alloc (Nat.le_refl _) (.cells #[.string ⟨#[32]⟩, .string ⟨#[32, 32]⟩, .string ⟨#[9]⟩, .string ⟨#[10]⟩, .string ⟨#[127]⟩, .string ⟨#[233]⟩] 9))
          have hbl5 := andAlloc hbl2 (.cells #[.string ⟨#[32]⟩, .string ⟨#[32, 32]⟩, .string ⟨#[9]⟩, .string ⟨#[10]⟩, .string ⟨#[127]⟩, .string ⟨#[233]⟩] 9)
          have HC := Lib.hid (l01Pick_c w.heap.size w2'.heap.size B _ sixTexts _ hcu5 HO.out (by decide) (by decide))
          clear hcu2 hbl2
          go_wp2_with (go_at_call 31; refine HC.out.mono ?_; rintro e w6 ⟨t, ht, rfl, hcu6, hg6⟩; have ht2 := six_len t ht; have hsz : (9223372036854775807 < s.size + (txt t).size) = False := (by rw [txt_size]; simp; omega))
          go_ret
          exact ⟨s ++ txt t, by rw [ByteArray.size_append, txt_size]; omega, rfl, below_only hbl5 hg6 hcu5.le⟩
        · by_cases hx3 : x = 1
          · subst hx3
            by_cases h6 : s.size < 600
            · have d6 : decide ((s.size : Int) < 600) = true := decide_eq_true (by omega)
              go_wp2_with fail
              refine (l01Below_c w.heap.size B 2 _ hcu2 (by omega)).mono ?_
              rintro e w3' ⟨y, ⟨hy0, hy1⟩, rfl, hcu5, hg5⟩
              have hbl5 := below_only hbl2 hg5 hcu2.le
              obtain ⟨q, hq⟩ : ∃ q : Nat, 600 - (s.size : Int) + y = (q : Int) := ⟨(600 - (s.size : Int) + y).toNat, by omega⟩
              have x1 : IntKind.i64.wrap (600 - (s.size : Int)) = 600 - (s.size : Int) := IntWalk.i64_in _ ⟨by omega, by omega⟩
              have x2 : IntKind.i64.wrap (600 - (s.size : Int) + y) = (q : Int) := by rw [hq]; exact IntWalk.i64_in _ ⟨by omega, by omega⟩
              have hq2 : q ≤ 601 := by omega
              have HC := Lib.hid (l01Long_c q 32 32 rfl w3' (by omega))
              clear hcu2 hbl2 hg5
              go_wp2_with (go_at_call 30; refine HC.out.mono ?_; rintro e w6 ⟨t, ht, rfl, hb6⟩; have hsz : (9223372036854775807 < s.size + t.size) = False := (by simp; omega))
              go_ret
              exact ⟨s ++ t, by rw [ByteArray.size_append]; omega, rfl, andThen hbl5 hb6⟩
            · have d6 : decide ((s.size : Int) < 600) = false := decide_eq_false (by omega)
              go_wp2_with fail
              go_ret
              exact ⟨s, by omega, rfl, hbl2⟩
          · have d0 : (x == 0) = false := beq_eq_false_iff_ne.2 hx2
            have d1 : (x == 1) = false := beq_eq_false_iff_ne.2 hx3
            go_wp2_with fail
            go_ret
            exact ⟨s, by omega, rfl, hbl2⟩

end Go.Proofs.YtcibffmhlamcdaaDoor
