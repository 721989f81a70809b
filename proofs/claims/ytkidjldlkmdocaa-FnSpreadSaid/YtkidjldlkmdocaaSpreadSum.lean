/-
  The walk of the law FnSpread. Conditions: none.
-/
import Derived.Test.YtkidjldlkmdocaaSpread2
import Derived.Test.YtkidjldlkmdocaaInts
namespace Go.Proofs.Ytkidjldlkmdocaa
open Go.RowKit
set_option linter.unusedVariables false

theorem part_rng {t m : Int} (h0 : 0 ≤ t) (hm : 1 ≤ m) (i : Nat) : t / m ≤ part t m i ∧ part t m i ≤ t / m + 1 := by
  unfold part
  have e : ((i : Int) + 1) * t = (i : Int) * t + t := by rw [Int.add_mul, Int.one_mul]
  rw [e]
  generalize (i : Int) * t = a
  have h1 := Int.mul_ediv_add_emod (a + t) m
  have h2 := Int.mul_ediv_add_emod a m
  have h3 := Int.mul_ediv_add_emod t m
  have r1 := Int.emod_nonneg (a + t) (show m ≠ 0 by omega)
  have r2 := Int.emod_nonneg a (show m ≠ 0 by omega)
  have r3 := Int.emod_nonneg t (show m ≠ 0 by omega)
  have s1 := Int.emod_lt_of_pos (a + t) (show 0 < m by omega)
  have s2 := Int.emod_lt_of_pos a (show 0 < m by omega)
  have s3 := Int.emod_lt_of_pos t (show 0 < m by omega)
  generalize (a + t) / m = x at *
  generalize a / m = y at *
  generalize t / m = z at *
  have key : m * (x - y - z) = a % m + t % m - (a + t) % m := by
    rw [Int.mul_sub, Int.mul_sub]; omega
  have k1 : -m < m * (x - y - z) := by omega
  have k2 : m * (x - y - z) < m * 2 := by omega
  have k3 : -1 < x - y - z := by
    have : m * (-1) < m * (x - y - z) := by omega
    exact Int.lt_of_mul_lt_mul_left this (by omega)
  have k4 : x - y - z < 2 := Int.lt_of_mul_lt_mul_left k2 (by omega)
  omega

theorem part_sum {t m : Int} (k : Nat) : (k : Int) * t / m + part t m k = ((k + 1 : Nat) : Int) * t / m := by
  unfold part
  have : ((k + 1 : Nat) : Int) = (k : Int) + 1 := by omega
  rw [this]; omega

set_option maxHeartbeats 2000000 in
theorem walk_FnSpread (w : World) (A : Option Addr) (n cap : Nat) (z : List Int) (hr : IsRow .u8 w A n cap z) :
    Calls Try.prog 12 #[.slice A n cap] w fun e w' => e = .returned (.bool true) ∧ Below w.heap.size w w' := by
  have hb := bytes0_of_row hr
  clear hr
  cases hbig : decide (1048576 < n)
  case true =>
    go_enter Try.func12, Try.ntmps12
    go_wp2_with (go_at_call 36; refine (big_c _ _ _ _).mono ?_; rintro e w' ⟨rfl, rfl⟩)
    go_ret
    exact ⟨rfl, Below.refl _ _⟩
  case false =>
    have hn : n ≤ 2000000 := by have := of_decide_eq_false hbig; omega
    have HB := Lib.hid hb
    clear hb
    go_enter Try.func12, Try.ntmps12
    go_wp2_with fail
    refine (big_c _ _ _ _).mono ?_
    rintro e w' ⟨rfl, rfl⟩
    go_wp2_with fail
    refine (drawPlaces_c _ _ _ _ HB.out hn).mono ?_
    rintro e w1 ⟨v, zs, rfl, hl, hp, hown, hbel⟩
    obtain ⟨g, cp, rfl, hg1, hg2, hcp, hc⟩ := hown.form (by omega)
    have c0 := hc 0 (by omega)
    have c1 := hc 1 (by omega)
    have q0 := hp zs[0] (List.getElem_mem _)
    have q1 := hp zs[1] (List.getElem_mem _)
    generalize zs[0] = t at *
    generalize zs[1] = p1 at *
    obtain ⟨q00, q01⟩ := q0
    obtain ⟨q10, q11⟩ := q1
    rw [hl] at hcp ⊢
    clear hc hown hp hl
    have a0 := Int.emod_nonneg p1 (show (12 : Int) ≠ 0 by decide)
    have a1 := Int.emod_lt_of_pos p1 (show (0 : Int) < 12 by decide)
    go_wp2_with fail
    refine (implSpread_c _ _ _).mono ?_
    rintro e w2 ⟨vs, rfl, os, b2⟩
    obtain ⟨m, hm⟩ : ∃ m : Nat, 1 + p1 % 12 = (m : Int) := ⟨(1 + p1 % 12).toNat, by omega⟩
    have hm1 : 1 ≤ m := by omega
    have hm2 : m ≤ 12 := by omega
    rw [hm] at os ⊢
    clear hm a0 a1
    have hsp : spread t m = spr t m m := by
      unfold spread
      rw [inB_true (by omega) (by omega), inB_true (by omega) (by omega)]
      simp
    rw [hsp] at os
    have hlen := spr_len t m m
    obtain ⟨gs, cs, rfl, hs1, hs2, hs3, hcs⟩ := os.form (by rw [hlen]; omega)
    have hcell : ∀ j, j < m → w2.cell? ⟨gs, j, none⟩ = some (.int .i64 (part t m j)) := by
      intro j hj
      have := hcs j (by rw [hlen]; exact hj)
      rw [this]
      simp [spr]
    have HC := Lib.hid hcell
    have H0 := Lib.hid (hcell 0 (by omega))
    rw [hlen] at hs3 ⊢
    have d0 : w2.cell? ⟨g, 0, none⟩ = some (.int .i64 t) := cell_later b2 c0
    have hB : Below w.heap.size w w2 := andThen hbel b2
    clear c0 c1 hcs hcell os hsp b2 hbel hlen hs1 hs2
    have r0 := part_rng (t := t) (m := m) (by omega) (by omega) 0
    have rt := div_bd (a := t) (m := m) (by omega) (by omega) (by omega)
    have e0 := H0.out
    generalize part t m 0 = x0 at e0 r0
    clear H0
    have E0 := Lib.hid e0
    clear e0
    go_wp2_with fail
    go_loopw [6, 7] (fun s i wr => ∃ k : Nat, k ≤ m ∧ i = .int .i64 k ∧ s = .int .i64 ((k : Int) * t / m) ∧ Drw w2 wr) (fun _ i _ => m - (intOf i).toNat)
    case atStart => exact ⟨0, by omega, rfl, by simp, Drw.refl _⟩
    case round =>
      obtain ⟨k, hk, rfl, rfl, q, rfl⟩ := hrel
      obtain ⟨b0, b1⟩ := prod_bd (k := (k : Int)) (t := t) (by omega) (by omega) (by omega) (by omega)
      obtain ⟨b2, b3⟩ := div_bd (m := m) b0 b1 (by omega)
      by_cases hlt : k < m
      · have ek := HC.out k hlt
        have rk := part_rng (t := t) (m := m) (by omega) (by omega) k
        have HS := Lib.hid (part_sum (t := t) (m := m) k)
        generalize part t m k = xk at *
        have e0 := E0.out
        have k0 : (0 : Int) ≤ (k : Int) := by omega
        have k1 : (k : Int) < (m : Int) := by omega
        have k2 : (0 : Int) < (m : Int) := by omega
        obtain ⟨r1, r2⟩ := r0
        obtain ⟨r3, r4⟩ := rk
        obtain ⟨r5, r6⟩ := rt
        have i1 : IntKind.i64.wrap (xk - x0) = xk - x0 := IntWalk.i64_in _ ⟨by omega, by omega⟩
        have i2 : IntKind.i64.wrap (x0 - xk) = x0 - xk := IntWalk.i64_in _ ⟨by omega, by omega⟩
        have g1 : decide (1 < xk - x0) = false := decide_eq_false (by omega)
        have g2 : decide (1 < x0 - xk) = false := decide_eq_false (by omega)
        go_wp2_with fail
        go_quiet (fail)
        go_wp2_with fail
        go_roundw
        case rel => exact ⟨k + 1, by omega, by go_num, by rw [← HS.out], _, rfl⟩
        case measure => simp [intOf]; omega
      · obtain rfl : k = m := by omega
        have hv : (k : Int) * t / k = t := Int.mul_ediv_cancel_left _ (by omega)
        have HV : Hid ((k : Int) * t / k = t) := hv
        rw [hv]
        clear hv b2 b3
        go_wp2_with fail
        go_ret
        exact ⟨rfl, andDrewN hB _⟩

end Go.Proofs.Ytkidjldlkmdocaa
