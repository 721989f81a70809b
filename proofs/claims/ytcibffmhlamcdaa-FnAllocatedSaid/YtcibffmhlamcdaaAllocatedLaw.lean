/-
  The walk of the law FnAllocated. Conditions: none.
-/
import Derived.Test.YtcibffmhlamcdaaAllocate
import Derived.Test.YtcibffmhlamcdaaAllocSum
import Derived.Test.YtcibffmhlamcdaaDrawParts
namespace Go.Proofs.Ytcibffmhlamcdaa
open Go.RowKit
set_option linter.unusedVariables false
set_option maxRecDepth 4000

theorem ws_sum (zs : List Int) : ∀ k, k ≤ zs.length → ws zs k = (zs.take k).sum
  | 0, _ => rfl
  | k + 1, hk => by
    simp only [ws]
    rw [ws_sum zs k (by omega), List.take_succ_eq_append_getElem (by omega), List.sum_append, wAt_get (by omega)]
    simp
theorem parts_wts {zs : List Int} (h : Parts zs) : Wts zs := fun i hi => by
  rw [wAt_get hi]
  have := h.1 _ (List.getElem_mem hi)
  omega
theorem parts_50 {zs : List Int} (h : Parts zs) : ∀ i, i < zs.length → wAt zs i ≤ 50 := fun i hi => by
  rw [wAt_get hi]
  exact (h.1 _ (List.getElem_mem hi)).2
theorem parts_ok {T : Int} {zs : List Int} (h : Parts zs) (h0 : 0 ≤ T) (h1 : T < 100000) (n0 : 1 ≤ zs.length) (n1 : zs.length ≤ 7) : okA T zs = true := by
  refine okA_yes (inB_true h0 (by omega)) (inB_true (by omega) (by omega)) ?_ ?_
  · rw [List.all_eq_true]
    intro z hz
    have := h.1 z hz
    exact inB_true (by omega) (by omega)
  · rw [wsum_ws (parts_wts h) (by omega) _ (Nat.le_refl _), ws_sum _ _ (Nat.le_refl _), List.take_length]
    have := h.2
    simp
    omega
theorem ws_50 {zs : List Int} (h : Parts zs) : ∀ k, k ≤ zs.length → 0 ≤ ws zs k ∧ ws zs k ≤ 50 * k
  | 0, _ => by simp [ws]
  | k + 1, hk => by
    have := ws_50 h k (by omega)
    have := (parts_wts h k (by omega)).1
    have := parts_50 h k (by omega)
    simp only [ws]
    omega
theorem sumF_bound {f : Nat → Int} {n : Nat} (h : ∀ i, i < n → 0 ≤ f i ∧ f i ≤ 100001) : ∀ k, k ≤ n → 0 ≤ sumF f k ∧ sumF f k ≤ 100001 * k
  | 0, _ => by simp [sumF]
  | k + 1, hk => by
    have := sumF_bound h k (by omega)
    have := h k (by omega)
    simp only [sumF]
    omega

set_option maxHeartbeats 4000000 in
theorem walk_FnAllocated (w : World) (A : Option Addr) (n cap : Nat) (z : List Int) (hr : IsRow .u8 w A n cap z) :
    Calls Try.prog 5 #[.slice A n cap] w fun e w' => e = .returned (.bool true) ∧ Below w.heap.size w w' := by
  have hb := bytes0_of_row hr
  clear hr
  cases hbig : decide (1048576 < n)
  case true =>
    go_enter Try.func5, Try.ntmps5
    go_wp2_with (go_at_call 14; refine (big_c _ _ _ _).mono ?_; rintro e w' ⟨rfl, rfl⟩)
    go_ret
    exact ⟨rfl, Below.refl _ _⟩
  case false =>
    have hn : n ≤ 2000000 := by have := of_decide_eq_false hbig; omega
    have HB := Lib.hid hb
    clear hb
    go_enter Try.func5, Try.ntmps5
    go_wp2_with fail
    refine (big_c _ _ _ _).mono ?_
    rintro e w' ⟨rfl, rfl⟩
    go_wp2_with fail
    refine (drawParts_c _ _ _ _ HB.out hn).mono ?_
    rintro e w1 ⟨T, v, zs, rfl, ⟨hT0, hT1⟩, ⟨n0, n1⟩, hp, hown, hbel⟩
    have HOK := Lib.hid (parts_ok hp hT0 hT1 n0 n1)
    have HP := Lib.hid hp
    have HOWN := Lib.hid hown
    have HBEL := Lib.hid hbel
    clear hp hown hbel
    go_wp2_with fail
    refine (implAllocate_c T _ _ zs _ HOWN.out.reads (Nat.le_refl _) (by omega) (fun _ => sorts_of (stable_small (by omega)) (by omega))).mono ?_
    rintro e w2 ⟨b2, h2⟩
    rcases h2 with ⟨h2, _⟩ | ⟨_, vo, d, l, rfl, ho, hl, hln, hwp, hsr⟩
    · rw [HOK.out] at h2; cases h2
    obtain ⟨gi, capi, rfl, i1, i2, i3, i4, ni⟩ := own_split HOWN.out (by omega)
    have ci := fun i (hi : i < zs.length) => (b2.cell (p := ⟨gi, i, none⟩) i2).trans (ni.cell hi)
    have leno : ((List.range zs.length).map fun i => qf T (ws zs zs.length) zs i + incF d l i).length = zs.length := by simp
    obtain ⟨go, capo, hvo, o1, o2, o3, o4, no⟩ := own_split ho (by omega)
    rw [leno] at hvo no
    subst hvo
    have co := fun i (hi : i < zs.length) => (no.congr (d' := fun i => qf T (ws zs zs.length) zs i + incF d l i) fun i hi => range_getD _ hi).cell hi
    have hS := ws_50 HP.out zs.length (Nat.le_refl _)
    have hS1 : 0 < ws zs zs.length := by
      rw [ws_sum _ _ (Nat.le_refl _), List.take_length]
      have := HP.out.2
      omega
    have HW := Lib.hid (parts_wts HP.out)
    have HWS := Lib.hid (ws_50 HP.out)
    obtain ⟨l', hl', hln', hrl⟩ := left_ok (T := T) hS1 rfl n0
    have ell : l' = l := by have := hl'.symm.trans hl; omega
    subst ell
    have hq : ∀ i, i < zs.length → 0 ≤ qf T (ws zs zs.length) zs i + incF d l' i ∧ qf T (ws zs zs.length) zs i + incF d l' i ≤ 100001 := fun i hi => by
      have h1 := qf_bound (T := T) (S := ws zs zs.length) (zs := zs) hT0 hS1 (HW.out i hi).1 (wAt_le HW.out hi)
      rcases incF_01 (wp_inj hwp) l' (by omega) i with ⟨e, _⟩ | ⟨e, _⟩ <;> omega
    have HSH := Lib.hid (sum_share hwp hl hln)
    have HNR := Lib.hid (fun i => near (i := i) hS1 hwp hsr hrl hln)
    have HQ := Lib.hid hq
    have HQS := Lib.hid (sumF_bound hq)
    have HCI : Hid (∀ i, i < zs.length → w2.cell? ⟨gi, i, none⟩ = some (.int .i64 (wAt zs i))) := fun i hi => ci i hi
    have HCO := Lib.hid co
    have HB2 := Lib.hid (andThen HBEL.out b2)
    have HWR : Hid (∀ k, ws zs (k + 1) = ws zs k + wAt zs k) := fun k => rfl
    clear ci co ni no ho hl hln hwp hsr hl' hln' hrl hq b2 HOWN i1 i2 i4 o1 o2 o4 leno HBEL
    generalize hSv : ws zs zs.length = S at *
    have HSV := Lib.hid hSv
    clear hSv
    generalize hf : (fun i => qf T S zs i + incF d l' i) = f at *
    have hff : ∀ i, qf T S zs i + incF d l' i = f i := fun i => congrFun hf i
    have HFR : Hid (∀ k, sumF f (k + 1) = sumF f k + f k) := fun k => rfl
    simp only [hff] at HNR HQ HCO
    clear hff hf
    go_wp2_with fail
    go_loopw [6, 7, 8] (fun a b i wr => ∃ k : Nat, k ≤ zs.length ∧ i = .int .i64 k ∧ a = .int .i64 (sumF f k) ∧ b = .int .i64 (ws zs k) ∧ w2 = wr) (fun _ _ i _ => zs.length - (intOf i).toNat)
    case atStart => exact ⟨0, Nat.zero_le _, rfl, rfl, rfl, rfl⟩
    case round =>
      obtain ⟨k, hk, rfl, rfl, rfl, rfl⟩ := hrel
      by_cases hlt : k < zs.length
      · have c1 := HCI.out k hlt
        have c2 := HCO.out k hlt
        have hw1 := (HW.out k hlt)
        have hws := HWS.out k hk
        have hqs := HQS.out k hk
        have hq := HQ.out k hlt
        have E1 := Lib.hid (HWR.out k)
        have E2 := Lib.hid (HFR.out k)
        have k0 : (0 : Int) ≤ (k : Int) := by omega
        have k1 : (k : Int) < (zs.length : Int) := by omega
        generalize f k = fk at *
        generalize wAt zs k = wk at *
        generalize sumF f k = sf at *
        generalize ws zs k = sw at *
        go_wp2_with fail
        go_roundw
        case rel => exact ⟨k + 1, by omega, by go_num, by rw [E2.out], by rw [E1.out], trivial⟩
        case measure => simp [intOf]; omega
      · obtain rfl : k = zs.length := by omega
        rw [HSV.out, HSH.out]
        go_wp2_with fail
        go_loopw [9] (fun i wr => ∃ k : Nat, k ≤ zs.length ∧ i = .int .i64 k ∧ Drw w2 wr) (fun i _ => zs.length - (intOf i).toNat)
        case atStart => exact ⟨0, Nat.zero_le _, rfl, Drw.refl _⟩
        case round =>
          obtain ⟨k, hk, rfl, q, rfl⟩ := hrel
          by_cases hlt : k < zs.length
          · have c1 := HCI.out k hlt
            have c2 := HCO.out k hlt
            have hw1 := (HW.out k hlt)
            have hq := HQ.out k hlt
            have hnr := HNR.out k
            have k0 : (0 : Int) ≤ (k : Int) := by omega
            have k1 : (k : Int) < (zs.length : Int) := by omega
            have p0 := Int.mul_nonneg hT0 hw1.1
            have p1 : T * wAt zs k ≤ 100000 * 1000000 := Int.mul_le_mul (by omega) hw1.2 hw1.1 (by decide)
            have e1 : IntKind.i64.wrap (T * wAt zs k) = T * wAt zs k := IntWalk.i64_in _ ⟨by omega, by omega⟩
            have e2 : IntKind.i64.wrap (f k * S) = f k * S := IntWalk.i64_in _ ⟨by omega, by omega⟩
            have e3 : IntKind.i64.wrap (f k * S - T * wAt zs k) = f k * S - T * wAt zs k := IntWalk.i64_in _ ⟨by omega, by omega⟩
            have e4 : IntKind.i64.wrap (-S) = -S := IntWalk.i64_in _ ⟨by omega, by omega⟩
            have g1 : decide (f k * S - T * wAt zs k ≤ -S) = false := decide_eq_false (by omega)
            have g2 : decide (f k * S - T * wAt zs k ≥ S) = false := decide_eq_false (by omega)
            have g3 : decide (S ≤ f k * S - T * wAt zs k) = false := decide_eq_false (by omega)
            generalize f k = fk at *
            generalize wAt zs k = wk at *
            clear hq hw1
            go_wp2_with fail
            go_quiet (fail)
            go_wp2_with fail
            go_roundw
            case rel => exact ⟨k + 1, by omega, by go_num, _, rfl⟩
            case measure => simp [intOf]; omega
          · obtain rfl : k = zs.length := by omega
            go_wp2_with fail
            go_ret
            exact ⟨rfl, andDrewN HB2.out _⟩

end Go.Proofs.Ytcibffmhlamcdaa
