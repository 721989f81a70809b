/-
  DrawPay returns a store and a series of at most seven points, the first for month 0 and known from the start, all values from 9000 to 13000. Conditions: the slice of bytes can be read, at most 2000000 of them.
-/
import Derived.Test.YtlpaicpjadkceaaAddSpecF
import Derived.Test.YtlpaicpjadkceaaPubSpec
import Derived.Test.YtlpaicpjadkceaaDrawSeries
import Derived.Deep.RegionLaw
namespace Go.Proofs.Ytlpaicpjadkceaa
open Go.RowKit
set_option linter.unusedVariables false
set_option maxRecDepth 4000

/-- The series drawn: its first point and its values. -/
def payP (F : Nat → Nat → Int) (n : Nat) : Prop := 0 < n ∧ F 0 0 = 0 ∧ F 0 1 = 0 ∧ ∀ i, i < n → 9000 ≤ F i 2 ∧ F i 2 ≤ 13000
theorem payP_add {F : Nat → Nat → Int} {n : Nat} {x0 x1 x2 : Int} (h : payP F n) (h2 : 9000 ≤ x2) (h3 : x2 ≤ 13000) : payP (addRow F n (oneF x0 x1 x2)) (addLen n F (oneF x0 x1 x2)) := by
  obtain ⟨a, b, c, d⟩ := h
  have hl : n ≤ addLen n F (oneF x0 x1 x2) := by unfold addLen; split <;> omega
  have hu := addLen_le n F (oneF x0 x1 x2)
  refine ⟨by omega, by rw [addRow_old a]; exact b, by rw [addRow_old a]; exact c, fun i hi => ?_⟩
  rcases Nat.lt_or_ge i n with hlt | hge
  · rw [addRow_old hlt]; exact d i hlt
  · obtain rfl : i = n := by omega
    rw [addRow_new]
    exact ⟨h2, h3⟩
theorem payP_one {F : Nat → Nat → Int} {x2 : Int} (h2 : 9000 ≤ x2) (h3 : x2 ≤ 13000) : addLen 0 F (oneF 0 0 x2) = 1 ∧ addOk 0 F (oneF 0 0 x2) = true ∧ payP (addRow F 0 (oneF 0 0 x2)) 1 := by
  have hd : drawnP F 0 0 := fun i hi => by omega
  have hs : seriesB 0 F = true := seriesB_drawn hd (by omega) (show (0 : Int) ≤ 3599 by omega)
  have hs2 : seriesB 1 (addRow F 0 (oneF 0 0 x2)) = true := seriesB_drawn (drawnP_add hd (Int.le_refl 0) (Int.le_refl 0) (Int.le_refl 0) h2 h3) (by omega) (show (0 : Int) ≤ 3599 by omega)
  have hok : addOk 0 F (oneF 0 0 x2) = true := by unfold addOk; rw [hs, hs2]; rfl
  refine ⟨by unfold addLen; rw [hok]; rfl, hok, by omega, by rw [addRow_new]; rfl, by rw [addRow_new]; rfl, fun i hi => ?_⟩
  obtain rfl : i = 0 := by omega
  rw [addRow_new]
  exact ⟨h2, h3⟩

/-- What a walk knows while both are drawn. -/
def PaySt (w : World) (B bS bX : Nat) (As : Option Addr) (ns cs : Nat) (Fs : Nat → Nat → Int) (Ax : Option Addr) (nx cx : Nat) (Fx : Nat → Nat → Int) (W : World) : Prop :=
  Blk W w.heap.size 61 #[.slice none 0 0] ∧ Blk W (w.heap.size + 1) 30 #[.slice none 0 0] ∧ Blk W bS 61 #[.slice As ns cs] ∧ Blk W bX 30 #[.slice Ax nx cx] ∧
  OwnV 5 102 W (B + 1) (.slice As ns cs) ns Fs ∧ OwnV 3 46 W (B + 1) (.slice Ax nx cx) nx Fx ∧ Cur W w.heap.size B ∧ Below w.heap.size w W ∧ (w.heap.size + 1 < B ∧ B < bS ∧ B < bX ∧ bS ≠ bX)
section
variable {w W W' : World} {B bS bX : Nat} {As : Option Addr} {ns cs : Nat} {Fs : Nat → Nat → Int} {Ax : Option Addr} {nx cx : Nat} {Fx : Nat → Nat → Int}
theorem PaySt.step (h : PaySt w B bS bX As ns cs Fs Ax nx cx Fx W) (hc : Cur W' w.heap.size B) (hg : W.grownBy W' (some B)) : PaySt w B bS bX As ns cs Fs Ax nx cx Fx W' := by
  obtain ⟨h1, h2, h3, h4, h5, h6, h7, h8, h9, h10, h11, h12⟩ := h
  exact ⟨h1.grown hg (fun e => by injection e with e; omega), h2.grown hg (fun e => by injection e with e; omega), h3.grown hg (fun e => by injection e with e; omega), h4.grown hg (fun e => by injection e with e; omega),
    h5.grown hg (fun j e => by cases e; omega), h6.grown hg (fun j e => by cases e; omega), hc, below_only h8 hg (by omega), h9, h10, h11, h12⟩
theorem PaySt.later (h : PaySt w B bS bX As ns cs Fs Ax nx cx Fx W) (hb : Below W.heap.size W W') : PaySt w B bS bX As ns cs Fs Ax nx cx Fx W' := by
  obtain ⟨h1, h2, h3, h4, h5, h6, h7, h8, h9⟩ := h
  exact ⟨h1.later' hb, h2.later' hb, h3.later' hb, h4.later' hb, h5.below hb, h6.below hb, h7.below hb, andThen h8 hb, h9⟩
theorem PaySt.drew (h : PaySt w B bS bX As ns cs Fs Ax nx cx Fx W) : PaySt w B bS bX As ns cs Fs Ax nx cx Fx W.drew := h.later (Below.drew (Below.refl _ _))
theorem PaySt.cur (h : PaySt w B bS bX As ns cs Fs Ax nx cx Fx W) : Cur W w.heap.size B := h.2.2.2.2.2.2.1
theorem PaySt.bel (h : PaySt w B bS bX As ns cs Fs Ax nx cx Fx W) : Below w.heap.size w W := h.2.2.2.2.2.2.2.1
theorem PaySt.cellS (h : PaySt w B bS bX As ns cs Fs Ax nx cx Fx W) : W.cell? ⟨bS, 0, none⟩ = some (.slice As ns cs) := h.2.2.1.cell 0
theorem PaySt.cellX (h : PaySt w B bS bX As ns cs Fs Ax nx cx Fx W) : W.cell? ⟨bX, 0, none⟩ = some (.slice Ax nx cx) := h.2.2.2.1.cell 0
theorem PaySt.fzS (h : PaySt w B bS bX As ns cs Fs Ax nx cx Fx W) : W.frozen? ⟨bS, 0, none⟩ = false := h.2.2.1.frozen 0
theorem PaySt.fzX (h : PaySt w B bS bX As ns cs Fs Ax nx cx Fx W) : W.frozen? ⟨bX, 0, none⟩ = false := h.2.2.2.1.frozen 0
theorem PaySt.lt (h : PaySt w B bS bX As ns cs Fs Ax nx cx Fx W) : B < W.heap.size := h.cur.lt
theorem PaySt.tabS (h : PaySt w B bS bX As ns cs Fs Ax nx cx Fx W) : Tab 5 W W.heap.size As ns Fs := by
  obtain ⟨A', c', e, t⟩ := h.2.2.2.2.1.tab
  injection e with x y z
  subst x
  exact t
theorem PaySt.tabX (h : PaySt w B bS bX As ns cs Fs Ax nx cx Fx W) : Tab 3 W W.heap.size Ax nx Fx := by
  obtain ⟨A', c', e, t⟩ := h.2.2.2.2.2.1.tab
  injection e with x y z
  subst x
  exact t
theorem PaySt.putS (h : PaySt w B bS bX As ns cs Fs Ax nx cx Fx W) {A : Option Addr} {n c : Nat} {F : Nat → Nat → Int} (ho : OwnV 5 102 W (B + 1) (.slice A n c) n F) :
    PaySt w B bS bX A n c F Ax nx cx Fx (W.setCell ⟨bS, 0, none⟩ (.slice A n c)) := by
  obtain ⟨h1, h2, h3, h4, h5, h6, h7, h8, h9, h10, h11, h12⟩ := h
  exact ⟨h1.far (by show w.heap.size ≠ bS; omega) _, h2.far (by show w.heap.size + 1 ≠ bS; omega) _, h3.set1 _, h4.far (by show bX ≠ bS; omega) _, ho.setOther (ho.apart h3 (by decide)) _, h6.setOther (h6.apart h3 (by decide)) _, h7.set (by omega) 0 _,
    h8.setCell (by show w.heap.size ≤ bS; omega) _, h9, h10, h11, h12⟩
theorem PaySt.putX (h : PaySt w B bS bX As ns cs Fs Ax nx cx Fx W) {A : Option Addr} {n c : Nat} {F : Nat → Nat → Int} (ho : OwnV 3 46 W (B + 1) (.slice A n c) n F) :
    PaySt w B bS bX As ns cs Fs A n c F (W.setCell ⟨bX, 0, none⟩ (.slice A n c)) := by
  obtain ⟨h1, h2, h3, h4, h5, h6, h7, h8, h9, h10, h11, h12⟩ := h
  exact ⟨h1.far (by show w.heap.size ≠ bX; omega) _, h2.far (by show w.heap.size + 1 ≠ bX; omega) _, h3.far (by show bS ≠ bX; omega) _, h4.set1 _, h5.setOther (h5.apart h4 (by decide)) _, ho.setOther (ho.apart h4 (by decide)) _, h7.set (by omega) 0 _,
    h8.setCell (by show w.heap.size ≤ bX; omega) _, h9, h10, h11, h12⟩
end

/-- What DrawPay leaves. -/
def PayEnd (w : World) (e : Ending) (w' : World) : Prop :=
  ∃ (As : Option Addr) (ns cs : Nat) (A : Option Addr) (n c : Nat) (F : Nat → Nat → Int), e = .returned (.tuple #[.agg #[.slice As ns cs], .agg #[.slice A n c]]) ∧ n ≤ 7 ∧ payP F n ∧ OwnV 3 46 w' w.heap.size (.slice A n c) n F ∧ Below w.heap.size w w'

set_option maxHeartbeats 16000000 in
theorem drawPay_c (A : Option Addr) (n cap : Nat) (w : World) (hb : Bytes w w.heap.size A n) (hn : n ≤ 2000000) :
    Calls Try.prog 37 #[.slice A n cap] w (PayEnd w) := by
  have HB := Lib.hid hb
  clear hb
  have R0 : Blk ((w.alloc (.cells #[.slice none 0 0] 61)).alloc (.cells #[.slice none 0 0] 30)) w.heap.size 61 #[.slice none 0 0] := (Blk.new _ _ _).alloc _
  have R0' : Blk ((w.alloc (.cells #[.slice none 0 0] 61)).alloc (.cells #[.slice none 0 0] 30)) (w.heap.size + 1) 30 #[.slice none 0 0] := by
    have := Blk.new (w.alloc (.cells #[.slice none 0 0] 61)) 30 #[.slice none 0 0]
    rwa [World.size_alloc] at this
  have L0 : Below w.heap.size w ((w.alloc (.cells #[.slice none 0 0] 61)).alloc (.cells #[.slice none 0 0] 30)) := andAlloc (andAlloc (Below.refl _ _) _) _
  have Z0 : ((w.alloc (.cells #[.slice none 0 0] 61)).alloc (.cells #[.slice none 0 0] 30)).heap.size = w.heap.size + 1 + 1 := by simp
  have HC := Lib.hid (l01New_c w.heap.size A n cap _ (HB.out.below L0) hn L0.size)
  go_enter Try.func37, Try.ntmps37
  go_wp2_with fail
  refine HC.out.mono ?_
  rintro e w1 ⟨B, rfl, hB, hcur, hbel⟩
  clear HC
  rw [Z0] at hB
  have R1 := R0.later' hbel
  have R1' := R0'.later' hbel
  have L1 := andThen L0 hbel
  clear R0 R0' L0 Z0 hbel
  go_wp2_with fail
  refine (l01Below_c w.heap.size B 1000 _ hcur (by omega)).mono ?_
  rintro e w2 ⟨x, ⟨x0, x1⟩, rfl, c2, h2⟩
  have R2 := R1.grown h2 (fun e => by injection e with e; omega)
  have R2' := R1'.grown h2 (fun e => by injection e with e; omega)
  have L2 := below_only L1 h2 (by omega)
  have k1 : IntKind.i64.wrap (x * 100) = x * 100 := IntWalk.i64_in _ ⟨by omega, by omega⟩
  have k2 : IntKind.i64.wrap (100000 + x * 100) = 100000 + x * 100 := IntWalk.i64_in _ ⟨by omega, by omega⟩
  have T0 : Tab 5 w2 w2.heap.size none 0 (fun _ _ => 0) := fun i hi => by omega
  have hI0 : I64 1 ∧ I64 0 ∧ I64 60 ∧ I64 0 ∧ I64 (100000 + x * 100) := by refine ⟨⟨?_, ?_⟩, ⟨?_, ?_⟩, ⟨?_, ?_⟩, ⟨?_, ?_⟩, ⟨?_, ?_⟩⟩ <;> omega
  have hlt2 := c2.lt
  clear R1 R1' L1 hcur h2
  go_wp2_with fail
  refine (specAddFact_c _ none 0 0 _ 1 0 60 0 (100000 + x * 100) hI0 _ T0 (Nat.le_refl _) (by omega)).mono ?_
  rintro e w3 ⟨As, cs, rfl, o3, b3⟩
  have hl3 := addLen_lef 0 (fun _ _ => (0 : Int)) (oneFf 1 0 60 0 (100000 + x * 100))
  generalize addLenf 0 (fun _ _ => (0 : Int)) (oneFf 1 0 60 0 (100000 + x * 100)) = ns at *
  generalize addOkf 0 (fun _ _ => (0 : Int)) (oneFf 1 0 60 0 (100000 + x * 100)) = ok3
  generalize addRow (fun _ _ => (0 : Int)) 0 (oneFf 1 0 60 0 (100000 + x * 100)) = Fs at *
  have BS3 := Blk.new w3 61 #[.slice As ns cs]
  have l3 := andAlloc (Below.refl w3.heap.size w3) (.cells #[.slice As ns cs] 61)
  have R3 := (R2.later' b3).later' l3
  have R3' := (R2'.later' b3).later' l3
  have L3 := andThen (andThen L2 b3) l3
  have O3 := (o3.more (b := B + 1) (by omega)).below l3
  have c3 := (c2.below b3).below l3
  have z3 := b3.size
  have zz3 : (w3.alloc (.cells #[.slice As ns cs] 61)).heap.size = w3.heap.size + 1 := by simp
  clear R2 R2' L2 c2 o3 b3 l3 T0 hI0 k1 k2
  go_wp2_with fail
  generalize w3.alloc (.cells #[.slice As ns cs] 61) = W3 at *
  refine (l01Below_c w.heap.size B 2000 _ c3 (by omega)).mono ?_
  rintro e w4 ⟨y, ⟨y0, y1⟩, rfl, c4, h4⟩
  have R4 := R3.grown h4 (fun e => by injection e with e; omega)
  have R4' := R3'.grown h4 (fun e => by injection e with e; omega)
  have BS4 := BS3.grown h4 (fun e => by injection e with e; omega)
  have O4 := O3.grown h4 (fun j e => by cases e; omega)
  have L4 := below_only L3 h4 (by omega)
  have z4 := h4.size
  have k2 : IntKind.i64.wrap (9000 + y) = 9000 + y := IntWalk.i64_in _ ⟨by omega, by omega⟩
  have T0 : Tab 3 w4 w4.heap.size none 0 (fun _ _ => 0) := fun i hi => by omega
  have hI0 : I64 0 ∧ I64 0 ∧ I64 (9000 + y) := by refine ⟨⟨?_, ?_⟩, ⟨?_, ?_⟩, ⟨?_, ?_⟩⟩ <;> omega
  clear R3 R3' L3 c3 BS3 O3 h4
  go_wp2_with fail
  refine (specPublish_c _ none 0 0 _ 0 0 (9000 + y) hI0 _ T0 (Nat.le_refl _) (by omega)).mono ?_
  rintro e w5 ⟨Ax, cx, rfl, o5, b5⟩
  obtain ⟨hl5, hok5, hp5⟩ := payP_one (F := fun _ _ => (0 : Int)) (x2 := 9000 + y) (by omega) (by omega)
  rw [hl5] at o5
  rw [hl5, hok5]
  have HP5 := Lib.hid hp5
  clear hp5 hl5 hok5
  generalize addRow (fun _ _ => (0 : Int)) 0 (oneF 0 0 (9000 + y)) = Fx at *
  have BX5 := Blk.new w5 30 #[.slice Ax 1 cx]
  have l5 := andAlloc (Below.refl w5.heap.size w5) (.cells #[.slice Ax 1 cx] 30)
  have z5 := b5.size
  have ST : Hid (PaySt w B w3.heap.size w5.heap.size As ns cs Fs Ax 1 cx Fx (w5.alloc (.cells #[.slice Ax 1 cx] 30))) :=
    ⟨(R4.later' b5).later' l5, (R4'.later' b5).later' l5, (BS4.later' b5).later' l5, BX5, (O4.below b5).below l5, (o5.more (b := B + 1) (by omega)).below l5, (c4.below b5).below l5, andThen (andThen L4 b5) l5, by omega, by omega, by omega, by omega⟩
  have HZ := Lib.hid (And.intro z3 (And.intro zz3 (And.intro z4 (And.intro z5 (And.intro hB hlt2)))))
  clear R4 R4' BS4 O4 o5 c4 L4 b5 l5 BX5 k2 T0 hI0 zz3
  go_wp2_with fail
  generalize w5.alloc (.cells #[.slice Ax 1 cx] 30) = W5 at *
  generalize w3.heap.size = bS at *
  generalize w5.heap.size = bX at *
  clear z3 z4 z5 hB hlt2 HZ
  go_loopw [9] (fun i wr => ∃ (k : Nat) (As : Option Addr) (ns cs : Nat) (Fs : Nat → Nat → Int) (Ax : Option Addr) (nx cx : Nat) (Fx : Nat → Nat → Int), k ≤ 6 ∧ i = .int .i64 (k : Int) ∧ ns ≤ k + 1 ∧ nx ≤ k + 1 ∧ Hid (payP Fx nx) ∧ Hid (PaySt w B bS bX As ns cs Fs Ax nx cx Fx wr)) (fun i _ => 6 - (intOf i).toNat)
  case atStart => exact ⟨0, As, ns, cs, Fs, Ax, 1, cx, Fx, by omega, rfl, by omega, by omega, HP5, ST⟩
  case round =>
    clear ST HP5
    obtain ⟨k, As, ns, cs, Fs, Ax, nx, cx, Fx, hk, rfl, hns, hnx, hp, hst⟩ := hrel
    go_wp2_with fail
    refine (l01Below_c w.heap.size B 6 _ hst.out.cur (by omega)).mono ?_
    rintro e w6 ⟨x, ⟨x0, x1⟩, rfl, c6, h6⟩
    have S6 := Lib.hid (hst.out.step c6 h6)
    clear hst c6 h6
    by_cases hlt : (k : Int) < x
    · have hk5 : k ≤ 5 := by omega
      go_wp2_with fail
      refine (l01Below_c w.heap.size B 50 _ S6.out.cur (by omega)).mono ?_
      rintro e w7 ⟨f, ⟨f0, f1⟩, rfl, c7, h7⟩
      have S7 := Lib.hid (S6.out.step c7 h7)
      have S8 := Lib.hid S7.out.drew
      have e8 := S8.out.cellS
      have k1 : IntKind.i64.wrap (f + 1) = f + 1 := IntWalk.i64_in _ ⟨by omega, by omega⟩
      have k2 : IntKind.i64.wrap (10 * (k : Int)) = 10 * (k : Int) := IntWalk.i64_in _ ⟨by omega, by omega⟩
      have h10 : (0 : Int) < 10 := by omega
      have h1000 : (0 : Int) < 1000 := by omega
      have h4000 : (0 : Int) < 4000 := by omega
      clear S6 c7 h7 S7
      go_upto_region 8 with fail
      go_region_law (first
        | ((try go_simp); go_at_call 67; have hst := (by assumption : Hid (PaySt w B bS bX As ns cs Fs Ax nx cx Fx _)); (with_reducible refine (l01Below_c w.heap.size B 10 _ hst.out.cur h10).mono ?_); rintro e w9 ⟨p, ⟨p0, p1⟩, rfl, c9, h9⟩; have S9 := Lib.hid (hst.out.step c9 h9); have e9 := S9.out.cellS; have k3 : IntKind.i64.wrap (f + 1 + p) = f + 1 + p := IntWalk.i64_in _ ⟨by omega, by omega⟩; clear c9 h9)
        | ((try go_simp); go_at_call 67; have hst := (by assumption : Hid (PaySt w B bS bX As ns cs Fs Ax nx cx Fx _)); (with_reducible refine (l01Below_c w.heap.size B 1000 _ hst.out.cur h1000).mono ?_); rintro e w9' ⟨v, ⟨v0, v1⟩, rfl, c9', h9'⟩; have S9' := Lib.hid (hst.out.step c9' h9'); have e9' := S9'.out.cellS; have k4 : IntKind.i64.wrap (v * 100) = v * 100 := IntWalk.i64_in _ ⟨by omega, by omega⟩; have k5 : IntKind.i64.wrap (100000 + v * 100) = 100000 + v * 100 := IntWalk.i64_in _ ⟨by omega, by omega⟩; clear c9' h9')
        | ((try go_simp); go_at_call 70; have hst := (by assumption : Hid (PaySt w B bS bX As ns cs Fs Ax nx cx Fx _)); refine (specAddFact_c _ As ns cs Fs 1 f (f + 1 + p) (10 * (k : Int)) (100000 + v * 100) ⟨⟨by omega, by omega⟩, ⟨by omega, by omega⟩, ⟨by omega, by omega⟩, ⟨by omega, by omega⟩, ⟨by omega, by omega⟩⟩ _ hst.out.tabS (Nat.le_refl _) (by omega)).mono ?_; rintro e w10 ⟨A10, c10, rfl, o10, b10⟩; have hlt10 := hst.out.lt; have S10 := Lib.hid (hst.out.later b10); have O10 := Lib.hid (o10.more (b := B + 1) (by omega)); have e10 := S10.out.cellS; have f10 := S10.out.fzS; clear o10 b10 hlt10)
        | fail)
      all_goals
        have S11 := Lib.hid (S10.out.putS O10.out)
        have hl10 := addLen_lef ns Fs (oneFf 1 f (f + 1 + p) (10 * (k : Int)) (100000 + v * 100))
        generalize addLenf ns Fs (oneFf 1 f (f + 1 + p) (10 * (k : Int)) (100000 + v * 100)) = ns' at *
        generalize addOkf ns Fs (oneFf 1 f (f + 1 + p) (10 * (k : Int)) (100000 + v * 100)) = ok' at *
        generalize addRow Fs ns (oneFf 1 f (f + 1 + p) (10 * (k : Int)) (100000 + v * 100)) = Fs' at *
        clear S10 O10 e10 f10
        have S12 := Lib.hid S11.out.drew
        have e12 := S12.out.cellX
        clear S11
        go_upto_region 9 with fail
        go_region_law (first
          | ((try go_simp); go_at_call 67; have hst := (by assumption : Hid (PaySt w B bS bX A10 ns' c10 Fs' Ax nx cx Fx _)); (with_reducible refine (l01Below_c w.heap.size B 4000 _ hst.out.cur h4000).mono ?_); rintro e w12 ⟨u, ⟨u0', u1'⟩, rfl, c12, h12⟩; have S13 := Lib.hid (hst.out.step c12 h12); have e13 := S13.out.cellX; have k6 : IntKind.i64.wrap (9000 + u) = 9000 + u := IntWalk.i64_in _ ⟨by omega, by omega⟩; clear c12 h12)
          | ((try go_simp); go_at_call 27; have hst := (by assumption : Hid (PaySt w B bS bX A10 ns' c10 Fs' Ax nx cx Fx _)); refine (specPublish_c _ Ax nx cx Fx (10 * (k : Int)) (10 * (k : Int)) (9000 + u) ⟨⟨by omega, by omega⟩, ⟨by omega, by omega⟩, ⟨by omega, by omega⟩⟩ _ hst.out.tabX (Nat.le_refl _) (by omega)).mono ?_; rintro e w14 ⟨A14, c14, rfl, o14, b14⟩; have hlt14 := hst.out.lt; have S14 := Lib.hid (hst.out.later b14); have O14 := Lib.hid (o14.more (b := B + 1) (by omega)); have e14 := S14.out.cellX; have f14 := S14.out.fzX; clear o14 b14 hlt14)
          | fail)
        all_goals
          have S15 := Lib.hid (S14.out.putX O14.out)
          have hl14 := addLen_le nx Fx (oneF (10 * (k : Int)) (10 * (k : Int)) (9000 + u))
          have HP := Lib.hid (payP_add (x0 := 10 * (k : Int)) (x1 := 10 * (k : Int)) (x2 := 9000 + u) hp.out (by omega) (by omega))
          generalize addLen nx Fx (oneF (10 * (k : Int)) (10 * (k : Int)) (9000 + u)) = nx' at *
          generalize addOk nx Fx (oneF (10 * (k : Int)) (10 * (k : Int)) (9000 + u)) = okx at *
          generalize addRow Fx nx (oneF (10 * (k : Int)) (10 * (k : Int)) (9000 + u)) = Fx' at *
          clear S14 O14 e14 f14
          go_wp2_with fail
          go_roundw
          case rel => exact ⟨k + 1, A10, ns', c10, Fs', A14, nx', c14, Fx', by omega, by go_num, by omega, by omega, HP, S15⟩
          case measure => simp [intOf]; omega
    · have eS := S6.out.cellS
      have eX := S6.out.cellX
      have q0 : w6.cell? ⟨w.heap.size, 0, none⟩ = some (.slice none 0 0) := S6.out.1.cell 0
      have q1 : w6.cell? ⟨w.heap.size + 1, 0, none⟩ = some (.slice none 0 0) := S6.out.2.1.cell 0
      have g0 := S6.out.1.frozen 0
      have g1 := S6.out.2.1.frozen 0
      have hBB := S6.out.2.2.2.2.2.2.2.2
      have hV := S6.out.2.2.2.2.2.1
      have hL := S6.out.bel
      have n01 : (⟨w.heap.size, 0, none⟩ : Addr) ≠ ⟨w.heap.size + 1, 0, none⟩ := by intro e; injection e with e; omega
      have HV1 : Hid (OwnV 3 46 ((w6.setCell ⟨w.heap.size, 0, none⟩ (.slice As ns cs)).setCell ⟨w.heap.size + 1, 0, none⟩ (.slice Ax nx cx)) w.heap.size (.slice Ax nx cx) nx Fx ∧ Below w.heap.size w ((w6.setCell ⟨w.heap.size, 0, none⟩ (.slice As ns cs)).setCell ⟨w.heap.size + 1, 0, none⟩ (.slice Ax nx cx))) :=
        ⟨((hV.set (p := ⟨w.heap.size, 0, none⟩) (by show w.heap.size < _; omega) _).set (p := ⟨w.heap.size + 1, 0, none⟩) (by show w.heap.size + 1 < _; omega) _).more (by omega), below_put (below_put hL (Nat.le_refl _) _ _) (by omega) _ _⟩
      have HV2 : Hid (OwnV 3 46 ((w6.setCell ⟨w.heap.size + 1, 0, none⟩ (.slice Ax nx cx)).setCell ⟨w.heap.size, 0, none⟩ (.slice As ns cs)) w.heap.size (.slice Ax nx cx) nx Fx ∧ Below w.heap.size w ((w6.setCell ⟨w.heap.size + 1, 0, none⟩ (.slice Ax nx cx)).setCell ⟨w.heap.size, 0, none⟩ (.slice As ns cs))) :=
        ⟨((hV.set (p := ⟨w.heap.size + 1, 0, none⟩) (by show w.heap.size + 1 < _; omega) _).set (p := ⟨w.heap.size, 0, none⟩) (by show w.heap.size < _; omega) _).more (by omega), below_put (below_put hL (by omega) _ _) (Nat.le_refl _) _ _⟩
      have ra0 : ((w6.setCell ⟨w.heap.size, 0, none⟩ (.slice As ns cs)).setCell ⟨w.heap.size + 1, 0, none⟩ (.slice Ax nx cx)).cell? ⟨w.heap.size, 0, none⟩ = some (.slice As ns cs) := by
        rw [World.cell?_setCell_far _ _ _ _ (by show w.heap.size + 1 ≠ w.heap.size; omega)]
        exact World.cell?_setCell_same' _ _ _ (by rw [q0]; rfl)
      have ra1 : ((w6.setCell ⟨w.heap.size, 0, none⟩ (.slice As ns cs)).setCell ⟨w.heap.size + 1, 0, none⟩ (.slice Ax nx cx)).cell? ⟨w.heap.size + 1, 0, none⟩ = some (.slice Ax nx cx) :=
        World.cell?_setCell_same' _ _ _ (by rw [World.cell?_setCell_far _ _ _ _ (by show w.heap.size ≠ w.heap.size + 1; omega), q1]; rfl)
      have rb1 : ((w6.setCell ⟨w.heap.size + 1, 0, none⟩ (.slice Ax nx cx)).setCell ⟨w.heap.size, 0, none⟩ (.slice As ns cs)).cell? ⟨w.heap.size + 1, 0, none⟩ = some (.slice Ax nx cx) := by
        rw [World.cell?_setCell_far _ _ _ _ (by show w.heap.size ≠ w.heap.size + 1; omega)]
        exact World.cell?_setCell_same' _ _ _ (by rw [q1]; rfl)
      have rb0 : ((w6.setCell ⟨w.heap.size + 1, 0, none⟩ (.slice Ax nx cx)).setCell ⟨w.heap.size, 0, none⟩ (.slice As ns cs)).cell? ⟨w.heap.size, 0, none⟩ = some (.slice As ns cs) :=
        World.cell?_setCell_same' _ _ _ (by rw [World.cell?_setCell_far _ _ _ _ (by show w.heap.size + 1 ≠ w.heap.size; omega), q0]; rfl)
      have hx1 : (w6.setCell ⟨w.heap.size, 0, none⟩ (.slice As ns cs)).cell? ⟨bX, 0, none⟩ = some (.slice Ax nx cx) := by rw [World.cell?_setCell_far _ _ _ _ (by show w.heap.size ≠ bX; omega)]; exact eX
      have hx2 : (w6.setCell ⟨w.heap.size + 1, 0, none⟩ (.slice Ax nx cx)).cell? ⟨bS, 0, none⟩ = some (.slice As ns cs) := by rw [World.cell?_setCell_far _ _ _ _ (by show w.heap.size + 1 ≠ bS; omega)]; exact eS
      clear S6 hV hL hBB
      go_upto_region 10 with fail
      go_region
      all_goals
        go_wp2_with fail
        first
          | (refine bodyPost_ret (v := .tuple #[.agg #[.slice As ns cs], .agg #[.slice Ax nx cx]]) (by simp [results, Try.results37, go_sem, ra0, ra1]) rfl ?_; exact ⟨As, ns, cs, Ax, nx, cx, Fx, rfl, by omega, hp.out, HV1.out.1, Below.drew HV1.out.2⟩)
          | (refine bodyPost_ret (v := .tuple #[.agg #[.slice As ns cs], .agg #[.slice Ax nx cx]]) (by simp [results, Try.results37, go_sem, rb0, rb1]) rfl ?_; exact ⟨As, ns, cs, Ax, nx, cx, Fx, rfl, by omega, hp.out, HV2.out.1, Below.drew HV2.out.2⟩)

end Go.Proofs.Ytlpaicpjadkceaa
