/-
  Rows of strings: own rows, rows that can be read; markText; eqStringS of two rows of the same texts is true; markStringS writes rising marks; heldStringS finds them. Conditions: the rows can be read, the marked one is the call's own.
-/
import Derived.Test.YtcibffmhlamcdaaDoorFmt
import Derived.Test.YtcibffmhlamcdaaDoorLater
import Derived.Laws.OwnMore
namespace Go.Proofs.YtcibffmhlamcdaaDoor
open Go.RowKit Go.Sort
set_option linter.unusedVariables false
set_option maxRecDepth 4000

theorem info_str : (Tryd.prog.info? 9).map (fun i => (i.zero, i.size, i.bytes)) = some (some (.string ByteArray.empty), 1, 16) := by kernel_rfl
theorem drw_below {w w' : World} (h : Drw w w') : Below w.heap.size w w' := h.below _

def strV (x : List UInt8) : Value := .string (txt x)
/-- A row of strings of the call's own. -/
def OwnS (w : World) (base : Nat) (v : Value) (L : List (List UInt8)) : Prop := w.ownsRow base 9 1 v L.length (L.map strV)
theorem OwnS.below {w w' : World} {base : Nat} {v : Value} {L : List (List UInt8)} (h : OwnS w base v L) (hb : Below w.heap.size w w') : OwnS w' base v L :=
  World.ownsRow.kept h (row := none) ⟨hb.os, hb.tape, hb.output, hb.size, fun i hi _ => hb.block i hi⟩ (by
    rcases v.ownBlock with _ | k
    · exact .inl rfl
    · exact .inr (by simp))
theorem OwnS.nil {w : World} {base : Nat} : OwnS w base (.slice none 0 0) [] := ⟨rfl, .inl ⟨rfl, rfl⟩⟩
theorem OwnS.more {w : World} {base base' : Nat} {v : Value} {L : List (List UInt8)} (h : OwnS w base v L) (hb : base' ≤ base) : OwnS w base' v L := by
  obtain ⟨h1, h2⟩ := h
  refine ⟨h1, ?_⟩
  rcases h2 with h2 | ⟨g, cap, cur, e1, e2, r⟩
  · exact .inl h2
  · exact .inr ⟨g, cap, cur, e1, by omega, r⟩
theorem ownS_lit {w : World} {g base : Nat} (hg : w.heap.size = g) (hb : base ≤ g) : OwnS (w.alloc (.cells #[] 9)) base (.slice (some ⟨g, 0, none⟩) 0 0) [] := by
  subst hg
  exact World.ownsRow_lit (base := base) (e := 9) (size := 1) w #[] 0 hb (by decide) rfl
theorem ownS_all {w : World} (L : List (List UInt8)) (hl : L.length ≤ maxLen) : OwnS (w.alloc (.cells (L.map strV).toArray 9)) w.heap.size (.slice (some ⟨w.heap.size, 0, none⟩) L.length L.length) L :=
  World.ownsRow_lit (base := w.heap.size) (e := 9) (size := 1) w (L.map strV).toArray L.length (Nat.le_refl _) hl (by simp)
theorem ownS_push {w : World} {base : Nat} {v : Value} {L : List (List UInt8)} {x : List UInt8} (h : w.ownsRow base 9 1 v (L.length + 1) (L.map strV ++ [.string (txt x)])) : OwnS w base v (L ++ [x]) := by
  unfold OwnS
  rw [List.length_append, List.map_append]
  exact h
/-- The slice value v reads as the texts of L, in blocks below B. -/
def ReadsS (w : World) (B : Nat) (v : Value) (L : List (List UInt8)) : Prop :=
  ∃ (A : Option Addr) (cap : Nat), v = .slice A L.length cap ∧ ∀ j (hj : j < L.length), ∃ b off, A = some ⟨b, off, none⟩ ∧ b < B ∧ w.cell? ⟨b, off + j, none⟩ = some (.string (txt L[j]))
theorem OwnS.form {w : World} {base : Nat} {v : Value} {L : List (List UInt8)} (h : OwnS w base v L) (hn : 0 < L.length) :
    ∃ g cap, v = .slice (some ⟨g, 0, none⟩) L.length cap ∧ base ≤ g ∧ g < w.heap.size ∧ L.length ≤ cap ∧ ∀ j (hj : j < L.length), w.cell? ⟨g, j, none⟩ = some (.string (txt L[j])) := by
  rcases h.2 with ⟨rfl, h0⟩ | ⟨g, cap, cur, rfl, hb, hh, hc, hm, hs, ht⟩
  · omega
  · refine ⟨g, cap, rfl, hb, ?_, hc, fun j hj => ?_⟩
    · rcases Nat.lt_or_ge g w.heap.size with hlt | hge
      · exact hlt
      · rw [Array.getElem?_eq_none hge] at hh; cases hh
    · have := World.ownsRow.cellAt (g := g) (cap := cap) h j (by omega)
      rw [this]
      simp [List.getElem?_eq_getElem hj, strV]
theorem OwnS.slice {w : World} {base : Nat} {v : Value} {L : List (List UInt8)} (h : OwnS w base v L) : ∃ A cap, v = .slice A L.length cap := by
  rcases h.2 with ⟨rfl, h0⟩ | ⟨g, cap, cur, rfl, _⟩
  · exact ⟨none, 0, by rw [h0]⟩
  · exact ⟨_, cap, rfl⟩
theorem OwnS.reads {w : World} {base : Nat} {v : Value} {L : List (List UInt8)} (h : OwnS w base v L) : ReadsS w w.heap.size v L := by
  rcases Nat.eq_zero_or_pos L.length with h0 | h0
  · obtain ⟨A, cap, rfl⟩ := h.slice
    exact ⟨A, cap, rfl, fun j hj => by omega⟩
  · obtain ⟨g, cap, rfl, h1, h2, h3, h4⟩ := h.form h0
    exact ⟨_, cap, rfl, fun j hj => ⟨g, 0, rfl, h2, by simpa using h4 j hj⟩⟩
theorem ReadsS.keep {w w' : World} {B : Nat} {v : Value} {L : List (List UInt8)} (h : ReadsS w B v L) (hb : Below B w w') : ReadsS w' B v L := by
  obtain ⟨A, cap, h1, h2⟩ := h
  refine ⟨A, cap, h1, fun j hj => ?_⟩
  obtain ⟨b, off, e1, e2, e3⟩ := h2 j hj
  exact ⟨b, off, e1, e2, (hb.cell (p := ⟨b, off + j, none⟩) e2).trans e3⟩
theorem ReadsS.more {w : World} {B B' : Nat} {v : Value} {L : List (List UInt8)} (h : ReadsS w B v L) (hB : B ≤ B') : ReadsS w B' v L := by
  obtain ⟨A, cap, h1, h2⟩ := h
  refine ⟨A, cap, h1, fun j hj => ?_⟩
  obtain ⟨b, off, e1, e2, e3⟩ := h2 j hj
  exact ⟨b, off, e1, by omega, e3⟩
theorem str_self (s : ByteArray) : (s.toList == s.toList) = true := beq_self_eq_true _

set_option maxHeartbeats 1000000 in
theorem eqStringS_c (B B' : Nat) (v v' : Value) (L : List (List UInt8)) (w : World) (h1 : ReadsS w B v L) (h2 : ReadsS w B' v' L) (hl : L.length ≤ 1000000) :
    Calls Tryd.prog 22 #[v, v'] w fun e w' => e = .returned (.bool true) ∧ Drw w w' := by
  obtain ⟨A, cap, rfl, ha⟩ := h1
  obtain ⟨A', cap', rfl, ha'⟩ := h2
  have HA := Lib.hid ha
  have HA' := Lib.hid ha'
  clear ha ha'
  go_enter Tryd.func22, Tryd.ntmps22
  go_wp2_with fail
  go_loopw [5] (fun i wr => ∃ k : Nat, k ≤ L.length ∧ i = .int .i64 k ∧ Drw w wr) (fun i _ => L.length - (intOf i).toNat)
  case atStart => exact ⟨0, Nat.zero_le _, rfl, Drw.refl _⟩
  case round =>
    obtain ⟨k, hk, rfl, q, rfl⟩ := hrel
    by_cases hlt : k < L.length
    · obtain ⟨b, off, rfl, _, e1⟩ := HA.out k hlt
      obtain ⟨b', off', rfl, _, e2⟩ := HA'.out k hlt
      generalize txt L[k] = z at e1 e2
      have k0 : (0 : Int) ≤ (k : Int) := by omega
      have k1 : (k : Int) < (L.length : Int) := by omega
      go_wp2_with fail
      go_quiet (fail)
      go_wp2_with fail
      go_roundw
      case rel => exact ⟨k + 1, by omega, by go_num, _, rfl⟩
      case measure => simp [intOf]; omega
    · go_wp2
      go_ret
      exact ⟨rfl, q, rfl⟩

/-- The mark of k. -/
def mkL (k : Nat) : List UInt8 := 109 :: Lib.decDigits k

set_option maxHeartbeats 2000000 in
theorem markText_c (n : Nat) (w : World) (h0 : 0 < n) (h1 : n ≤ 1000000000) :
    Calls Tryd.prog 41 #[.int .i64 (n : Int)] w fun e w' => e = .returned (.string (txt (mkL n))) ∧ Below w.heap.size w w' := by
  have HE : Hid (mkL n = 109 :: digs n) := by show _ = _; unfold mkL; rw [digs_pos h0]
  have d0 : decide ((n : Int) ≤ 0) = false := decide_eq_false (by omega)
  go_enter Tryd.func41, Tryd.ntmps41
  go_wp2_with fail
  go_loopw [0, 3] (fun nv sv wr => ∃ (u : Nat) (l : List UInt8), u ≤ 1000000000 ∧ nv = .int .i64 (u : Int) ∧ sv = .string (txt l) ∧ Hid (digs u ++ l = digs n) ∧ Below w.heap.size w wr) (fun nv _ _ => (intOf nv).natAbs)
  case atStart => exact ⟨n, [], by omega, rfl, rfl, (show digs n ++ [] = digs n from List.append_nil _), Below.refl _ _⟩
  case round =>
    obtain ⟨u, l, hu, rfl, rfl, hd, hbl⟩ := hrel
    have hll : l.length ≤ 19 := by
      have h1 := congrArg List.length hd.out
      have h2 := digs_len (u := n) (by omega)
      rw [List.length_append] at h1
      omega
    by_cases hlt : 0 < u
    · obtain ⟨d, hdd⟩ : ∃ d : Nat, u % 10 = d := ⟨_, rfl⟩
      obtain ⟨c, hc⟩ : ∃ c : UInt8, UInt8.ofNat (48 + d) = c := ⟨_, rfl⟩
      have hd10 : d < 10 := by omega
      have HM : Hid (digs (u / 10) ++ (c :: l) = digs n) := digs_more hlt hd.out (by rw [hdd, hc])
      have hcv : (c.toNat : Int) = 48 + (d : Int) := by rw [← hc, digit_byte d hd10]; omega
      have hcv2 := conv_one wr c (48 + (d : Int)) hcv.symm
      have x1 : (u : Int).tmod 10 = (d : Int) := by rw [Int.tmod_eq_emod_of_nonneg (by omega)]; omega
      have hu0 : decide ((0 : Int) < (u : Int)) = true := decide_eq_true (by omega)
      have hsz : (9223372036854775807 < (txt [c]).size + (txt l).size) = False := by rw [txt_size, txt_size]; simp; omega
      have c1 : (d : Int) < 10 := by omega
      clear hdd hc hcv
      go_wp2_with fail
      go_roundw
      case rel => exact ⟨u / 10, c :: l, by omega, by go_num, by rw [txt_append]; rfl, HM, andAlloc hbl _⟩
      case measure => simp [intOf]; omega
    · obtain rfl : u = 0 := by omega
      have hl0 : Hid (l = digs n) := hd.out
      have hu0 : decide ((0 : Int) < ((0 : Nat) : Int)) = false := by decide
      have hsz : (9223372036854775807 < 1 + (txt l).size) = False := by rw [txt_size]; simp; omega
      go_wp2
      go_ret
      exact ⟨by rw [HE.out, ← hl0.out]; exact congrArg (fun x => Ending.returned (.string x)) (txt_append [109] l), hbl⟩

def marksS (k n : Nat) : List (List UInt8) := (List.range n).map fun i => mkL (k + i)
theorem marksS_len (k n : Nat) : (marksS k n).length = n := by simp [marksS]
theorem marksS_get (k n i : Nat) (h : i < (marksS k n).length) : (marksS k n)[i] = mkL (k + i) := by simp [marksS]
/-- The first i texts are marked already. -/
def midS (k : Nat) (zs : List (List UInt8)) (i : Nat) : List (List UInt8) := marksS k i ++ zs.drop i
theorem midS_len (k : Nat) (zs : List (List UInt8)) (i : Nat) (h : i ≤ zs.length) : (midS k zs i).length = zs.length := by
  simp [midS, marksS_len]; omega
theorem midS_zero (k : Nat) (zs : List (List UInt8)) : midS k zs 0 = zs := by simp [midS, marksS]
theorem midS_all (k : Nat) (zs : List (List UInt8)) : midS k zs zs.length = marksS k zs.length := by simp [midS]
theorem midS_succ (k : Nat) (zs : List (List UInt8)) (i : Nat) (h : i < zs.length) : (midS k zs i).set i (mkL (k + i)) = midS k zs (i + 1) := by
  apply List.ext_getElem
  · rw [List.length_set, midS_len _ _ _ (by omega), midS_len _ _ _ (by omega)]
  · intro j h1 h2
    rw [List.getElem_set]
    simp only [midS, List.getElem_append, marksS_len]
    rcases Nat.lt_trichotomy j i with hj | hj | hj
    · rw [if_neg (by omega), dif_pos hj, dif_pos (by omega), marksS_get, marksS_get]
    · subst hj; rw [if_pos rfl, dif_pos (by omega), marksS_get]
    · rw [if_neg (by omega), dif_neg (by omega), dif_neg (by omega)]
      simp only [List.getElem_drop]
      congr 1; omega

theorem grown_below {a w w' : World} {row : Option Nat} (h : a.grownBy w row) (hb : Below w.heap.size w w') : a.grownBy w' row :=
  ⟨hb.os.trans h.os, hb.tape.trans h.tape, hb.output.trans h.output, Nat.le_trans h.size hb.size, fun i hi hne => (hb.block i (Nat.lt_of_lt_of_le hi h.size)).trans (h.block i hi hne)⟩

/-- What markStringS leaves. -/
def MarkSEnd (k base : Nat) (v : Value) (n : Nat) (w : World) (e : Ending) (w' : World) : Prop :=
  e = .returned (.int .i64 ((k + n : Nat) : Int)) ∧ OwnS w' base v (marksS k n) ∧ w.grownBy w' v.ownBlock

set_option maxHeartbeats 2000000 in
theorem markStringS_c (k base : Nat) (v : Value) (zs : List (List UInt8)) (w : World) (h : OwnS w base v zs) (hl : zs.length ≤ 1000000) (hk0 : 0 < k) (hk1 : k ≤ 1000000) :
    Calls Tryd.prog 23 #[v, .int .i64 (k : Int)] w (MarkSEnd k base v zs.length w) := by
  rcases Nat.eq_zero_or_pos zs.length with hz | hz
  · obtain rfl : zs = [] := List.eq_nil_of_length_eq_zero hz
    obtain ⟨A, cap, rfl⟩ := h.slice
    have HH := Lib.hid h
    clear h hz hl
    show Calls Tryd.prog 23 #[.slice A 0 cap, .int .i64 (k : Int)] w (MarkSEnd k base (.slice A 0 cap) 0 w)
    go_enter Tryd.func23, Tryd.ntmps23
    go_wp2_with fail
    refine wp_loop_rounds 1 ?_
    rw [rounds_succ]
    go_wp2
    go_ret
    exact ⟨ret_int (by simp), HH.out, World.grownBy.refl _ _⟩
  · obtain ⟨g, cap, rfl, hg1, hg2, hcap, hc⟩ := h.form hz
    have hmaxcap : cap ≤ 9223372036854775807 := by
      rcases h.2 with ⟨h', _⟩ | ⟨g', cap', cur, h', _, _, _, hm, _⟩
      · cases h'
      · injection h' with _ _ h''; subst h''; exact hm
    go_enter Tryd.func23, Tryd.ntmps23
    go_wp2_with fail
    go_loopw [1, 5] (fun u i wr => ∃ j : Nat, j ≤ zs.length ∧ i = .int .i64 j ∧ u = .int .i64 ((k : Int) + j) ∧ Hid (OwnS wr base (.slice (some ⟨g, 0, none⟩) zs.length cap) (midS k zs j)) ∧ Hid (w.grownBy wr (some g)) ∧ g < wr.heap.size) (fun _ i _ => zs.length - (intOf i).toNat)
    case atStart => exact ⟨0, Nat.zero_le _, rfl, by simp, by rw [midS_zero]; exact h, World.grownBy.refl _ _, hg2⟩
    case round =>
      obtain ⟨j, hj, rfl, rfl, hown, hgr, hgl⟩ := hrel
      have HML := Lib.hid (midS_len k zs j hj)
      by_cases hlt : j < zs.length
      · have k0 : (0 : Int) ≤ (j : Int) := by omega
        have k1 : (j : Int) < (zs.length : Int) := by omega
        obtain ⟨q, hq⟩ : ∃ q : Nat, k + j = q := ⟨_, rfl⟩
        have hkj : (k : Int) + (j : Int) = (q : Int) := by omega
        rw [hkj]
        have HQ := Lib.hid (And.intro hq hkj)
        have hq0 : 0 < q := by omega
        have hq1 : q ≤ 1000000000 := by omega
        clear hkj hq
        go_wp2_with fail
        refine (markText_c q _ hq0 hq1).mono ?_
        rintro e w2 ⟨rfl, b2⟩
        have hown2 := hown.out.below b2
        have hgr2 := grown_below hgr.out b2
        have hown' : w2.ownsRow base 9 1 (.slice (some ⟨g, 0, none⟩) zs.length cap) zs.length ((midS k zs j).map strV) := by
          have := hown2
          unfold OwnS at this
          rwa [HML.out] at this
        have hcj := World.ownsRow.cellAt hown' j (by omega)
        have hjm : j < (midS k zs j).length := by rw [HML.out]; omega
        rw [List.getElem?_map, List.getElem?_eq_getElem hjm] at hcj
        simp only [Option.map_some] at hcj
        generalize strV ((midS k zs j)[j]'hjm) = zj at hcj
        have hfz := World.ownsRow.frozenAt hown' j
        have hst := World.ownsRow.stored hown' j (strV (mkL q))
        have hst1 : OwnS (w2.setCell ⟨g, j, none⟩ (strV (mkL q))) base (.slice (some ⟨g, 0, none⟩) zs.length cap) (midS k zs (j + 1)) := by
          unfold OwnS
          rw [midS_len _ _ _ (by omega), ← midS_succ k zs j hlt, List.map_set, HQ.out.1]
          exact hst.1
        have hgr1 := only_trans hgr2 hst.2
        have HS1 := Lib.hid hst1
        have HG1 := Lib.hid hgr1
        have HZ := Lib.hid hst.2.size
        have hz2 := b2.size
        clear hst hst1 hgr1 hown hown' hgr hown2 hgr2 b2
        unfold strV at HS1 HG1 HZ
        go_wp2_with fail
        go_roundw
        case rel => exact ⟨j + 1, by omega, by go_num, by rw [← HQ.out.2]; go_num, HS1, HG1, by have := HZ.out; omega⟩
        case measure => simp [intOf]; omega
      · obtain rfl : j = zs.length := by omega
        go_wp2
        go_ret
        have ho := hown.out
        rw [midS_all] at ho
        exact ⟨ret_int (by omega), ho, hgr.out⟩

set_option maxHeartbeats 2000000 in
theorem heldStringS_c (k B : Nat) (v : Value) (n : Nat) (w : World) (h : ReadsS w B v (marksS k n)) (hB : B ≤ w.heap.size) (hl : n ≤ 1000000) (hk0 : 0 < k) (hk1 : k ≤ 1000000) :
    Calls Tryd.prog 24 #[v, .int .i64 (k : Int)] w fun e w' => e = .returned (.int .i64 ((k + n : Nat) : Int)) ∧ Below w.heap.size w w' := by
  obtain ⟨A, cap, rfl, ha⟩ := h
  rw [marksS_len]
  have HA := Lib.hid ha
  clear ha
  go_enter Tryd.func24, Tryd.ntmps24
  go_wp2_with fail
  go_loopw [1, 5] (fun u i wr => ∃ j : Nat, j ≤ n ∧ i = .int .i64 j ∧ u = .int .i64 ((k : Int) + j) ∧ Below w.heap.size w wr) (fun _ i _ => n - (intOf i).toNat)
  case atStart => exact ⟨0, Nat.zero_le _, rfl, by simp, Below.refl _ _⟩
  case round =>
    obtain ⟨j, hj, rfl, rfl, hbl⟩ := hrel
    by_cases hlt : j < n
    · obtain ⟨b, off, rfl, hbB, e1⟩ := HA.out j (by rw [marksS_len]; exact hlt)
      rw [marksS_get] at e1
      have e2 : wr.cell? ⟨b, off + j, none⟩ = some (.string (txt (mkL (k + j)))) := (hbl.cell (p := ⟨b, off + j, none⟩) (by show b < _; omega)).trans e1
      have q1 : ∀ s : Later wr, s.w.cell? ⟨b, off + j, none⟩ = some (.string (txt (mkL (k + j)))) := fun s => s.cell e2
      have k0 : (0 : Int) ≤ (j : Int) := by omega
      have k1 : (j : Int) < (n : Int) := by omega
      have hkj : (k : Int) + (j : Int) = ((k + j : Nat) : Int) := by omega
      have HM := Lib.hid (fun (s : Later wr) => later_of (s := s) (markText_c (k + j) s.w (by omega) (by omega)))
      generalize txt (mkL (k + j)) = z at *
      clear e1 e2
      rw [hkj]
      have HKJ := Lib.hid hkj
      clear hkj
      go_wp2_with fail
      refine wp_region_later (by kernel_rfl) (by kernel_rfl) ?_
      repeat (any_goals (first | go_big_quiet_step (((go_at_call 41; exact HM.out _))) | quiet_step (((go_at_call 41; exact HM.out _)))))
      refine wpQuiet_nil ?_
      rintro _ ⟨s, rfl⟩
      have hbs := andThen hbl s.h
      go_wp2_with fail
      go_roundw
      case rel => exact ⟨j + 1, by omega, by go_num, by go_num, hbs⟩
      case measure => simp [intOf]; omega
    · obtain rfl : j = n := by omega
      go_wp2
      go_ret
      exact ⟨ret_int (by omega), hbl⟩

end Go.Proofs.YtcibffmhlamcdaaDoor
