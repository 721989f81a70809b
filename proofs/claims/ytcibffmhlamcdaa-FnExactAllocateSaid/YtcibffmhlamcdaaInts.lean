/-
  eqIntS of two rows of the same numbers is true; markIntS writes rising numbers; heldIntS finds them. Conditions: the rows can be read, the marked one is the call's own.
-/
import Derived.Test.YtcibffmhlamcdaaPlaces
import Derived.Laws.OwnMore
namespace Go.Proofs.Ytcibffmhlamcdaa
open Go.RowKit
set_option linter.unusedVariables false
set_option maxRecDepth 4000

/-- The slice value v reads as the numbers zs, in blocks below L. -/
def ReadsInts (w : World) (L : Nat) (v : Value) (zs : List Int) : Prop :=
  ∃ (A : Option Addr) (cap : Nat), v = .slice A zs.length cap ∧ ∀ j (hj : j < zs.length), ∃ b off, A = some ⟨b, off, none⟩ ∧ b < L ∧ w.cell? ⟨b, off + j, none⟩ = some (.int .i64 zs[j])

theorem OwnInts.reads {w : World} {base : Nat} {v : Value} {zs : List Int} (h : OwnInts w base v zs) : ReadsInts w w.heap.size v zs := by
  rcases Nat.eq_zero_or_pos zs.length with h0 | h0
  · rcases h.2 with ⟨rfl, _⟩ | ⟨g, cap, cur, rfl, _⟩
    · exact ⟨none, 0, by rw [h0], fun j hj => by omega⟩
    · exact ⟨_, cap, rfl, fun j hj => by omega⟩
  · obtain ⟨g, cap, rfl, h1, h2, h3, h4⟩ := h.form h0
    exact ⟨_, cap, rfl, fun j hj => ⟨g, 0, rfl, h2, by simpa using h4 j hj⟩⟩
theorem ReadsInts.keep {w w' : World} {L : Nat} {v : Value} {zs : List Int} (h : ReadsInts w L v zs) (hb : Below L w w') : ReadsInts w' L v zs := by
  obtain ⟨A, cap, h1, h2⟩ := h
  refine ⟨A, cap, h1, fun j hj => ?_⟩
  obtain ⟨b, off, e1, e2, e3⟩ := h2 j hj
  exact ⟨b, off, e1, e2, (hb.cell (p := ⟨b, off + j, none⟩) e2).trans e3⟩
theorem ReadsInts.more {w : World} {L L' : Nat} {v : Value} {zs : List Int} (h : ReadsInts w L v zs) (hL : L ≤ L') : ReadsInts w L' v zs := by
  obtain ⟨A, cap, h1, h2⟩ := h
  refine ⟨A, cap, h1, fun j hj => ?_⟩
  obtain ⟨b, off, e1, e2, e3⟩ := h2 j hj
  exact ⟨b, off, e1, by omega, e3⟩

set_option maxHeartbeats 1000000 in
theorem eqIntS_c (L L' : Nat) (v v' : Value) (zs : List Int) (w : World) (h1 : ReadsInts w L v zs) (h2 : ReadsInts w L' v' zs) (hl : zs.length ≤ 1152921504606846976) :
    Calls Try.prog 11 #[v, v'] w fun e w' => e = .returned (.bool true) ∧ Drw w w' := by
  obtain ⟨A, cap, rfl, ha⟩ := h1
  obtain ⟨A', cap', rfl, ha'⟩ := h2
  have HA := Lib.hid ha
  have HA' := Lib.hid ha'
  clear ha ha'
  go_enter Try.func11, Try.ntmps11
  go_wp2_with fail
  go_loopw [5] (fun i wr => ∃ k : Nat, k ≤ zs.length ∧ i = .int .i64 k ∧ Drw w wr) (fun i _ => zs.length - (intOf i).toNat)
  case atStart => exact ⟨0, Nat.zero_le _, rfl, Drw.refl _⟩
  case round =>
    obtain ⟨k, hk, rfl, q, rfl⟩ := hrel
    by_cases hlt : k < zs.length
    · obtain ⟨b, off, rfl, _, e1⟩ := HA.out k hlt
      obtain ⟨b', off', rfl, _, e2⟩ := HA'.out k hlt
      generalize zs[k] = z at e1 e2
      have k0 : (0 : Int) ≤ (k : Int) := by omega
      have k1 : (k : Int) < (zs.length : Int) := by omega
      go_wp2_with fail
      go_quiet (fail)
      go_wp2_with fail
      go_roundw
      case rel => exact ⟨k + 1, by omega, by go_num, _, rfl⟩
      case measure => simp [intOf]; omega
    · go_wp2
      go_ret
      exact ⟨rfl, q, rfl⟩

def marks (k : Int) (n : Nat) : List Int := (List.range n).map fun (i : Nat) => k + (i : Int)
theorem marks_len (k : Int) (n : Nat) : (marks k n).length = n := by simp [marks]
theorem marks_get (k : Int) (n i : Nat) (h : i < (marks k n).length) : (marks k n)[i] = k + i := by simp [marks]

/-- The first i numbers are marked already. -/
def mid (k : Int) (zs : List Int) (i : Nat) : List Int := marks k i ++ zs.drop i
theorem mid_len (k : Int) (zs : List Int) (i : Nat) (h : i ≤ zs.length) : (mid k zs i).length = zs.length := by
  simp [mid, marks_len]; omega
theorem mid_zero (k : Int) (zs : List Int) : mid k zs 0 = zs := by simp [mid, marks]
theorem mid_all (k : Int) (zs : List Int) : mid k zs zs.length = marks k zs.length := by simp [mid]
theorem mid_succ (k : Int) (zs : List Int) (i : Nat) (h : i < zs.length) : (mid k zs i).set i (k + i) = mid k zs (i + 1) := by
  apply List.ext_getElem
  · rw [List.length_set, mid_len _ _ _ (by omega), mid_len _ _ _ (by omega)]
  · intro j h1 h2
    rw [List.getElem_set]
    simp only [mid, List.getElem_append, marks_len]
    rcases Nat.lt_trichotomy j i with hj | hj | hj
    · rw [if_neg (by omega), dif_pos hj, dif_pos (by omega), marks_get, marks_get]
    · subst hj; rw [if_pos rfl, dif_pos (by omega), marks_get]
    · rw [if_neg (by omega), dif_neg (by omega), dif_neg (by omega)]
      simp only [List.getElem_drop]
      congr 1; omega

/-- What markIntS leaves. -/
def MarkEnd (k : Int) (base : Nat) (v : Value) (n : Nat) (w : World) (e : Ending) (w' : World) : Prop :=
  e = .returned (.int .i64 (k + n)) ∧ OwnInts w' base v (marks k n) ∧ w.grownBy w' v.ownBlock

set_option maxHeartbeats 1000000 in
theorem markIntS_c (k : Int) (base : Nat) (v : Value) (zs : List Int) (w : World) (h : OwnInts w base v zs) (hl : zs.length ≤ 1099511627776) (hk0 : -1099511627776 ≤ k) (hk1 : k ≤ 1099511627776) :
    Calls Try.prog 12 #[v, .int .i64 k] w (MarkEnd k base v zs.length w) := by
  rcases Nat.eq_zero_or_pos zs.length with hz | hz
  · obtain rfl : zs = [] := List.eq_nil_of_length_eq_zero hz
    obtain ⟨A, cap, rfl, _⟩ := h.reads
    have HH := Lib.hid h
    clear h hz hl
    show Calls Try.prog 12 #[.slice A 0 cap, .int .i64 k] w (MarkEnd k base (.slice A 0 cap) 0 w)
    go_enter Try.func12, Try.ntmps12
    go_wp2_with fail
    refine wp_loop_rounds 1 ?_
    rw [rounds_succ]
    go_wp2
    go_ret
    exact ⟨ret_int (by simp), HH.out, World.grownBy.refl _ _⟩
  · obtain ⟨g, cap, rfl, hg1, hg2, hcap, hc⟩ := h.form hz
    have hmaxcap : cap ≤ 9223372036854775807 := by
      rcases h.2 with ⟨h', _⟩ | ⟨g', cap', cur, h', _, _, _, hm, _⟩
      · cases h'
      · injection h' with _ _ h''; subst h''; exact hm
    have hzs : zs.length ≤ 1099511627776 := hl
    go_enter Try.func12, Try.ntmps12
    go_wp2_with fail
    go_loopw [1, 5] (fun u i wr => ∃ j : Nat, j ≤ zs.length ∧ i = .int .i64 j ∧ u = .int .i64 (k + j) ∧ OwnInts wr base (.slice (some ⟨g, 0, none⟩) zs.length cap) (mid k zs j) ∧ w.grownBy wr (some g)) (fun _ i _ => zs.length - (intOf i).toNat)
    case atStart => exact ⟨0, Nat.zero_le _, rfl, by simp, by rw [mid_zero]; exact h, World.grownBy.refl _ _⟩
    case round =>
      obtain ⟨j, hj, rfl, rfl, hown, hgr⟩ := hrel
      have hml := mid_len k zs j hj
      by_cases hlt : j < zs.length
      · have hown' : wr.ownsRow base 3 1 (.slice (some ⟨g, 0, none⟩) zs.length cap) zs.length ((mid k zs j).map (Value.int .i64)) := by
          have := hown
          unfold OwnInts at this
          rwa [hml] at this
        have hcj := World.ownsRow.cellAt hown' j (by omega)
        rw [List.getElem?_map, List.getElem?_eq_getElem (show j < (mid k zs j).length by omega)] at hcj
        simp only [Option.map_some] at hcj
        generalize (mid k zs j)[j] = zj at hcj
        have hfz := World.ownsRow.frozenAt hown' j
        have hst := World.ownsRow.stored hown' j (.int .i64 (k + j))
        have hst1 : OwnInts (wr.setCell ⟨g, j, none⟩ (.int .i64 (k + j))) base (.slice (some ⟨g, 0, none⟩) zs.length cap) (mid k zs (j + 1)) := by
          unfold OwnInts
          rw [mid_len _ _ _ (by omega), ← mid_succ k zs j hlt, List.map_set]
          exact hst.1
        have hgr1 := only_trans hgr hst.2
        have HS1 := Lib.hid hst1
        have HG1 := Lib.hid hgr1
        have k0 : (0 : Int) ≤ (j : Int) := by omega
        have k1 : (j : Int) < (zs.length : Int) := by omega
        clear hst hst1 hgr1 hown hown' hgr hml
        go_wp2_with fail
        go_roundw
        case rel => exact ⟨j + 1, by omega, by go_num, by go_num, HS1.out, HG1.out⟩
        case measure => simp [intOf]; omega
      · obtain rfl : j = zs.length := by omega
        go_wp2
        go_ret
        rw [mid_all] at hown
        exact ⟨rfl, hown, hgr⟩

set_option maxHeartbeats 1000000 in
theorem heldIntS_c (k : Int) (L : Nat) (v : Value) (n : Nat) (w : World) (h : ReadsInts w L v (marks k n)) (hl : n ≤ 1099511627776) (hk0 : -1099511627776 ≤ k) (hk1 : k ≤ 1099511627776) :
    Calls Try.prog 13 #[v, .int .i64 k] w fun e w' => e = .returned (.int .i64 (k + n)) ∧ w = w' := by
  obtain ⟨A, cap, rfl, ha⟩ := h
  rw [marks_len]
  have HA := Lib.hid ha
  clear ha
  go_enter Try.func13, Try.ntmps13
  go_wp2_with fail
  go_loop [1, 5] (fun u i => ∃ j : Nat, j ≤ n ∧ i = .int .i64 j ∧ u = .int .i64 (k + j)) (fun _ i => n - (intOf i).toNat)
  case atStart => exact ⟨0, Nat.zero_le _, rfl, by simp⟩
  case round =>
    obtain ⟨j, hj, rfl, rfl⟩ := hrel
    by_cases hlt : j < n
    · obtain ⟨b, off, rfl, _, e1⟩ := HA.out j (by rw [marks_len]; exact hlt)
      rw [marks_get] at e1
      have k0 : (0 : Int) ≤ (j : Int) := by omega
      have k1 : (j : Int) < (n : Int) := by omega
      go_wp2_with fail
      go_round
      case rel => exact ⟨j + 1, by omega, by go_num, by go_num⟩
      case measure => simp [intOf]; omega
    · obtain rfl : j = n := by omega
      go_wp2
      go_ret
      exact ⟨rfl, rfl⟩

end Go.Proofs.Ytcibffmhlamcdaa
