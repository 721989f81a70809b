/-
  slices.symMergeCmpFunc at int, many elements, the middle in the right window. Conditions: as in XMerge.
-/
import Derived.Test.YtcibffmhlamcdaaMerge
namespace Go.Proofs.Ytcibffmhlamcdaa
open Go.RowKit
set_option linter.unusedVariables false
set_option maxRecDepth 4000

set_option maxHeartbeats 16000000 in
theorem symMerge_manyB (key : Nat → Int) (g N n cap a m b K : Nat) (d : Nat → Nat) (c0 c1 c2 : Value) (w : World) (hih : Merges key g N n cap c0 c1 c2 K) (hK : b - a ≤ K + 1) (hr : IntR w g N n d) (hd : ∀ p, p < n → d p < n) (hC : CmpOk w g n key c0 c1 c2) (hcase : ¬ (a + b) / 2 < m) (hma1 : a + 1 < m) (hmb1 : m + 1 < b) (hb : b ≤ n) (hn : n ≤ 40)
    (s1 : SR key d a m) (s2 : SR key d m b) (sx : SX key d a m b) :
    Calls Try.prog 35 #[.slice (some ⟨g, 0, none⟩) n cap, .int .i64 a, .int .i64 m, .int .i64 b, .func (.func 22) #[] #[c0, c1, c2]] w (MergesTo key g N n a b d w) := by
  have HIH := Lib.hid hih
  have HR := Lib.hid hr
  have HD := Lib.hid hd
  have HC := Lib.hid hC
  have HS1 := Lib.hid s1
  have HS2 := Lib.hid s2
  have HX := Lib.hid sx
  have hma : ((m : Int) - (a : Int) == 1) = false := by simp; omega
  have hbm : ((b : Int) - (m : Int) == 1) = false := by simp; omega
  obtain ⟨mid, hmid⟩ : ∃ h : Nat, (a + b) / 2 = h := ⟨_, rfl⟩
  have HMID : Hid (2 * mid ≤ a + b ∧ a + b < 2 * mid + 2) := by show _ ∧ _; omega
  have z1 : IntKind.u64.wrap ((a : Int) + (b : Int)) = (a : Int) + (b : Int) := by rw [IntKind.wrap_u64]; omega
  have z2 : ((a : Int) + (b : Int)) / 2 = (mid : Int) := by omega
  obtain ⟨nn, hnn⟩ : ∃ h : Nat, (mid : Int) + (m : Int) = (h : Int) := ⟨mid + m, by omega⟩
  have HNN : Hid (mid + m = nn) := by show _ = _; omega
  obtain ⟨P, hP⟩ : ∃ h : Nat, (nn : Int) - 1 = (h : Int) := ⟨nn - 1, by omega⟩
  have HP : Hid (mid + m - 1 = P) := by show _ = _; omega
  have nn80 : nn ≤ 80 := by omega
  have hmm : ¬ mid < m := by omega
  clear hih hr hd hC s1 s2 sx hmid hcase
  have t1 : ¬ (mid : Int) < (m : Int) := by omega
  have t2 : decide ((m : Int) > (mid : Int)) = false := decide_eq_false (by omega)
  have HLH : Hid ((mid < m ∧ a = mid + m - b ∧ m = mid) ∨ (m ≤ mid ∧ a = a ∧ m = m)) := .inr ⟨by omega, rfl, rfl⟩
  have RNG : Hid (∀ c, a ≤ c → c < m → a ≤ c ∧ c < m ∧ c ≤ P ∧ m ≤ P - c ∧ P - c < b) := fun c q1 q2 => by
    have h1 := HMID.out
    have h2 := HLH.out
    have h3 := HP.out
    omega
  have lohi : a ≤ m := by
    have h1 := HMID.out
    have h2 := HLH.out
    omega
  have hi40 : m ≤ 40 := by
    have h1 := HMID.out
    have h2 := HLH.out
    omega
  go_enter Try.func35, Try.ntmps35
  go_wp2_with fail
  go_loopw [20, 21] (fun x y wr => ∃ i j : Nat, a ≤ i ∧ i ≤ j ∧ j ≤ m ∧ x = .int .i64 (i : Int) ∧ y = .int .i64 (j : Int) ∧ Hid (∀ q, a ≤ q → q < i → key (d (P - q)) ≤ key (d q)) ∧ Hid (∀ q, j ≤ q → q < m → key (d q) < key (d (P - q))) ∧ Hid (IntR wr g N n d) ∧ Hid (w.grownBy wr (some g))) (fun x y _ => (intOf y - intOf x).toNat)
  case atStart => exact ⟨a, m, by omega, by omega, by omega, rfl, rfl, (show ∀ q, a ≤ q → q < a → key (d (P - q)) ≤ key (d q) from fun q h1 h2 => by omega), (show ∀ q, m ≤ q → q < m → key (d q) < key (d (P - q)) from fun q h1 h2 => by omega), HR, World.grownBy.refl _ _⟩
  case round =>
    obtain ⟨i, j, hi, hij, hj, rfl, rfl, H1, H2, HRk, HGk⟩ := hrel
    by_cases hlt : i < j
    · obtain ⟨h, hh⟩ : ∃ h : Nat, (i + j) / 2 = h := ⟨_, rfl⟩
      have h1 : i ≤ h := by omega
      have h2 : h < j := by omega
      obtain ⟨r1, r2, r3, r4, r5⟩ := RNG.out h (by omega) (by omega)
      obtain ⟨x, hx⟩ : ∃ x, P - h = x := ⟨_, rfl⟩
      have y0 : (P : Int) - (h : Int) = (x : Int) := by omega
      have HXX := Lib.hid hx
      have z3 : IntKind.u64.wrap ((i : Int) + (j : Int)) = (i : Int) + (j : Int) := by rw [IntKind.wrap_u64]; omega
      have z4 : ((i : Int) + (j : Int)) / 2 = (h : Int) := by omega
      have ij1 : (i : Int) < (j : Int) := by omega
      have p0 : (0 : Int) ≤ (h : Int) := by omega
      have p1 : (h : Int) < (n : Int) := by omega
      have p2 : (x : Int) < (n : Int) := by omega
      have p3 : (0 : Int) ≤ (x : Int) := by omega
      have e1 := HRk.out.cell (i := h) (by omega)
      have e2 := HRk.out.cell (i := x) (by omega)
      have HQ := Lib.hid (fun q => HC.out (wr.drewN q) (only_drewN HGk.out q) (d x) (d h) (HD.out x (by omega)) (HD.out h (by omega)))
      have HR2 := Lib.hid (fun q => HRk.out.drewN q)
      have HG2 := Lib.hid (fun q => only_drewN HGk.out q)
      clear HRk HGk hx
      have hiff := cmpOf_neg (key (d h)) (key (d x))
      by_cases hk : key (d h) < key (d x)
      · have HN2 : Hid (∀ q, h ≤ q → q < m → key (d q) < key (d (P - q))) := fun q q1 q2 => by
          by_cases c : q = h
          · rw [c, HXX.out]; exact hk
          · obtain ⟨s1, s2, s3, s4, s5⟩ := RNG.out q (by omega) q2
            have hx := HXX.out
            have a1 := (HS1.out h q (by omega) (by omega) s2).le
            have a2 := (HS2.out (P - q) x s4 (by omega) (by omega)).le
            omega
        have hc := hiff.2 hk
        clear hk hiff H2
        generalize cmpOf (key (d h)) (key (d x)) = c at *
        have hcd : decide (c < 0) = true := decide_eq_true hc
        go_wp2_with fail
        go_quiet ((go_at_call 22; exact q_drw (HQ.out _)))
        go_wp2_with fail
        go_roundw
        case rel => exact ⟨i, h, by omega, by omega, by omega, rfl, rfl, H1, HN2, HR2.out _, HG2.out _⟩
        case measure => simp [intOf]; omega
      · have HN1 : Hid (∀ q, a ≤ q → q < h + 1 → key (d (P - q)) ≤ key (d q)) := fun q q1 q2 => by
          by_cases c : q = h
          · rw [c, HXX.out]; omega
          · obtain ⟨s1, s2, s3, s4, s5⟩ := RNG.out q q1 (by omega)
            have hx := HXX.out
            have a1 := (HS1.out q h s1 (by omega) (by omega)).le
            have a2 := (HS2.out x (P - q) (by omega) (by omega) s5).le
            omega
        have hc : ¬ cmpOf (key (d h)) (key (d x)) < 0 := fun e => hk (hiff.1 e)
        clear hk hiff H1
        generalize cmpOf (key (d h)) (key (d x)) = c at *
        have hcd : decide (c < 0) = false := decide_eq_false hc
        go_wp2_with fail
        go_quiet ((go_at_call 22; exact q_drw (HQ.out _)))
        go_wp2_with fail
        go_roundw
        case rel => exact ⟨h + 1, j, by omega, by omega, by omega, by go_num, rfl, HN1, H2, HR2.out _, HG2.out _⟩
        case measure => simp [intOf]; omega
    · obtain rfl : i = j := by omega
      obtain ⟨e, he⟩ : ∃ e : Nat, (nn : Int) - (i : Int) = (e : Int) := ⟨nn - i, by have := HNN.out; have := HMID.out; have := HLH.out; omega⟩
      obtain ⟨g1, g2, g3, g4, g5, g6, hcut⟩ := cut_of (e := e) (s := i) HS1.out HS2.out HX.out (by omega) (by omega) HMID.out.1 HMID.out.2 (by have := HLH.out; omega) hi hj (by have := HNN.out; omega) (fun c q1 q2 => by rw [HP.out]; exact Int.not_lt.mpr (H1.out c q1 q2)) (fun c q1 q2 => by rw [HP.out]; exact H2.out c q1 q2)
      have HCUT := Lib.hid hcut
      have HES : Hid (e + i = mid + m) := by show _ = _; have := HNN.out; omega
      have HWD := Lib.hid (wp_rotD d g1 g2 g3 g4)
      have HDD := Lib.hid (HWD.out.lt hb HD.out)
      clear H1 H2 hcut
      by_cases u1 : i < m ∧ m < e
      · have f0 := u1
        obtain ⟨c1a, c1b⟩ := u1
        have f1 : (i : Int) < (m : Int) := by have := HES.out; omega
        have f2 : (m : Int) < (e : Int) := by have := HES.out; omega
        have f4 : (i : Int) < (mid : Int) := by have := HES.out; omega
        have f5 : (mid : Int) < (e : Int) := by have := HES.out; omega
        by_cases u2 : a < i
        · have f3 : (a : Int) < (i : Int) := by have := HES.out; omega
          by_cases u3 : e < b
          · clear f0
            have f6 : (e : Int) < (b : Int) := by have := HES.out; omega
            have HRT := Lib.hid (rotate_c g N n cap i m e d (.func (.func 22) #[] #[c0, c1, c2]) wr HRk.out (by omega) (by omega) (by omega) hn)
            clear HRk
            go_wp2_with fail
            refine HRT.out.mono ?_
            rintro x w1 ⟨rfl, h1, h2⟩
            have R1 := Lib.hid h1
            have G1 := Lib.hid (only_trans HGk.out h2)
            clear h1 h2 HGk HRT
            have HLC := Lib.hid (HIH.out a i mid (rotD d i m e) w1 (by omega) (by omega) (by omega) (by omega) R1.out HDD.out (HC.out.keep G1.out) HCUT.out.l1 HCUT.out.l2 HCUT.out.lx)
            clear R1
            go_wp2_with fail
            refine HLC.out.mono ?_
            rintro x w2 ⟨rfl, d2, h1, h2, h3, h4⟩
            have R2 := Lib.hid h1
            have L2 := Lib.hid (And.intro h3 h2)
            have G2 := Lib.hid (only_trans G1.out h4)
            clear h1 h2 h3 h4 G1 HLC
            have HPR := Lib.hid (right_pre HCUT.out L2.out.2 (by omega) (by omega))
            have HD2 := Lib.hid (L2.out.2.lt (n := n) (by omega) HDD.out)
            have HRC := Lib.hid (HIH.out mid e b d2 w2 (by omega) (by omega) (by omega) hb R2.out HD2.out (HC.out.keep G2.out) HPR.out.1 HPR.out.2.1 HPR.out.2.2)
            clear R2
            go_wp2_with fail
            refine HRC.out.mono ?_
            rintro x w3 ⟨rfl, d3, h1, h2, h3, h4⟩
            have R3 := Lib.hid h1
            have L3 := Lib.hid (And.intro h3 h2)
            have G3 := Lib.hid (only_trans G2.out h4)
            clear h1 h2 h3 h4 G2 HRC
            go_wp2_with fail
            go_end0
            have HEND := merge_end HCUT.out g1 g2 g3 g4 g5 g6 L2.out L3.out
            exact ⟨rfl, _, R3.out, HEND.1, HEND.2, G3.out⟩
          · clear f0
            have f6 : ¬ (e : Int) < (b : Int) := by have := HES.out; omega
            have HRT := Lib.hid (rotate_c g N n cap i m e d (.func (.func 22) #[] #[c0, c1, c2]) wr HRk.out (by omega) (by omega) (by omega) hn)
            clear HRk
            go_wp2_with fail
            refine HRT.out.mono ?_
            rintro x w1 ⟨rfl, h1, h2⟩
            have R1 := Lib.hid h1
            have G1 := Lib.hid (only_trans HGk.out h2)
            clear h1 h2 HGk HRT
            have HLC := Lib.hid (HIH.out a i mid (rotD d i m e) w1 (by omega) (by omega) (by omega) (by omega) R1.out HDD.out (HC.out.keep G1.out) HCUT.out.l1 HCUT.out.l2 HCUT.out.lx)
            clear R1
            go_wp2_with fail
            refine HLC.out.mono ?_
            rintro x w2 ⟨rfl, d2, h1, h2, h3, h4⟩
            have R2 := Lib.hid h1
            have L2 := Lib.hid (And.intro h3 h2)
            have G2 := Lib.hid (only_trans G1.out h4)
            clear h1 h2 h3 h4 G1 HLC
            have R3 := R2
            have L3 := Lib.hid (right_skip HCUT.out L2.out.2 (by omega))
            have G3 := G2
            clear R2 G2
            go_wp2_with fail
            go_end0
            have HEND := merge_end HCUT.out g1 g2 g3 g4 g5 g6 L2.out L3.out
            exact ⟨rfl, _, R3.out, HEND.1, HEND.2, G3.out⟩
        · have f3 : ¬ (a : Int) < (i : Int) := by have := HES.out; omega
          by_cases u3 : e < b
          · clear f0
            have f6 : (e : Int) < (b : Int) := by have := HES.out; omega
            have HRT := Lib.hid (rotate_c g N n cap i m e d (.func (.func 22) #[] #[c0, c1, c2]) wr HRk.out (by omega) (by omega) (by omega) hn)
            clear HRk
            go_wp2_with fail
            refine HRT.out.mono ?_
            rintro x w1 ⟨rfl, h1, h2⟩
            have R1 := Lib.hid h1
            have G1 := Lib.hid (only_trans HGk.out h2)
            clear h1 h2 HGk HRT
            have R2 := R1
            have L2 := Lib.hid (left_skip HCUT.out (by omega))
            have G2 := G1
            clear R1 G1
            have HPR := Lib.hid (right_pre HCUT.out L2.out.2 (by omega) (by omega))
            have HD2 := Lib.hid (L2.out.2.lt (n := n) (by omega) HDD.out)
            have HRC := Lib.hid (HIH.out mid e b (rotD d i m e) w1 (by omega) (by omega) (by omega) hb R2.out HD2.out (HC.out.keep G2.out) HPR.out.1 HPR.out.2.1 HPR.out.2.2)
            clear R2
            go_wp2_with fail
            refine HRC.out.mono ?_
            rintro x w3 ⟨rfl, d3, h1, h2, h3, h4⟩
            have R3 := Lib.hid h1
            have L3 := Lib.hid (And.intro h3 h2)
            have G3 := Lib.hid (only_trans G2.out h4)
            clear h1 h2 h3 h4 G2 HRC
            go_wp2_with fail
            go_end0
            have HEND := merge_end HCUT.out g1 g2 g3 g4 g5 g6 L2.out L3.out
            exact ⟨rfl, _, R3.out, HEND.1, HEND.2, G3.out⟩
          · clear f0
            have f6 : ¬ (e : Int) < (b : Int) := by have := HES.out; omega
            have HRT := Lib.hid (rotate_c g N n cap i m e d (.func (.func 22) #[] #[c0, c1, c2]) wr HRk.out (by omega) (by omega) (by omega) hn)
            clear HRk
            go_wp2_with fail
            refine HRT.out.mono ?_
            rintro x w1 ⟨rfl, h1, h2⟩
            have R1 := Lib.hid h1
            have G1 := Lib.hid (only_trans HGk.out h2)
            clear h1 h2 HGk HRT
            have R2 := R1
            have L2 := Lib.hid (left_skip HCUT.out (by omega))
            have G2 := G1
            clear R1 G1
            have R3 := R2
            have L3 := Lib.hid (right_skip HCUT.out L2.out.2 (by omega))
            have G3 := G2
            clear R2 G2
            go_wp2_with fail
            go_end0
            have HEND := merge_end HCUT.out g1 g2 g3 g4 g5 g6 L2.out L3.out
            exact ⟨rfl, _, R3.out, HEND.1, HEND.2, G3.out⟩
      · by_cases u2 : m ≤ i
        · have ee : e ≤ mid := by have := HES.out; omega
          have f1 : ¬ (i : Int) < (m : Int) := by have := HES.out; omega
          have f3 : (a : Int) < (i : Int) := by have := HES.out; omega
          have f5 : ¬ (mid : Int) < (e : Int) := by have := HES.out; omega
          by_cases u3 : m < mid
          · have f4 : (i : Int) < (mid : Int) := by have := HES.out; omega
            have hnone : rotD d i m e = d := rotD_none d (by omega)
            have R1 : Hid (IntR wr g N n (rotD d i m e)) := by rw [hnone]; exact HRk
            have G1 := HGk
            clear HRk HGk hnone
            have HLC := Lib.hid (HIH.out a i mid (rotD d i m e) wr (by omega) (by omega) (by omega) (by omega) R1.out HDD.out (HC.out.keep G1.out) HCUT.out.l1 HCUT.out.l2 HCUT.out.lx)
            clear R1
            go_wp2_with fail
            refine HLC.out.mono ?_
            rintro x w2 ⟨rfl, d2, h1, h2, h3, h4⟩
            have R2 := Lib.hid h1
            have L2 := Lib.hid (And.intro h3 h2)
            have G2 := Lib.hid (only_trans G1.out h4)
            clear h1 h2 h3 h4 G1 HLC
            have R3 := R2
            have L3 := Lib.hid (right_skip HCUT.out L2.out.2 (by omega))
            have G3 := G2
            clear R2 G2
            go_wp2_with fail
            go_end0
            have HEND := merge_end HCUT.out g1 g2 g3 g4 g5 g6 L2.out L3.out
            exact ⟨rfl, _, R3.out, HEND.1, HEND.2, G3.out⟩
          · have f4 : ¬ (i : Int) < (mid : Int) := by have := HES.out; omega
            have hnone : rotD d i m e = d := rotD_none d (by omega)
            have R1 : Hid (IntR wr g N n (rotD d i m e)) := by rw [hnone]; exact HRk
            have G1 := HGk
            clear HRk HGk hnone
            have R2 := R1
            have L2 := Lib.hid (left_skip HCUT.out (by omega))
            have G2 := G1
            clear R1 G1
            have R3 := R2
            have L3 := Lib.hid (right_skip HCUT.out L2.out.2 (by omega))
            have G3 := G2
            clear R2 G2
            go_wp2_with fail
            go_end0
            have HEND := merge_end HCUT.out g1 g2 g3 g4 g5 g6 L2.out L3.out
            exact ⟨rfl, _, R3.out, HEND.1, HEND.2, G3.out⟩
        · exact absurd HES.out (by omega)

end Go.Proofs.Ytcibffmhlamcdaa
