/-
  impl.ValueAt, a range over slices.Backward, computes the same plain function. Conditions: the facts can be read.
-/
import Derived.Test.YtmehfclhmbhjaaaValueAt
import Derived.RangeFuncNested
import Derived.RangeFuncBound
import Derived.RangeFuncCalls
import Derived.RangeFuncLeaves
import Derived.Shelf.Abstract
import Derived.Shelf.RegionOpen
import Derived.OwnWalkIn
import Derived.TacticsInMore
import Derived.LoopNIn
import Derived.LoopIn
namespace Go.Proofs.Ytmehfclhmbhjaaa
open Go.RowKit Go.Shelf
set_option linter.unusedVariables false
attribute [local go_sem] Oper.semAt_some

/-- The first k indexes, from the last one down. -/
def dn (n k : Nat) : List Nat := (List.range k).map fun j => n - 1 - j
theorem dn_succ (n k : Nat) : dn n (k + 1) = dn n k ++ [n - 1 - k] := by simp [dn, List.range_succ]
theorem dn_length (n k : Nat) : (dn n k).length = k := by simp [dn]
theorem dn_mem {n k i : Nat} (hk : k ≤ n) (h1 : n - k ≤ i) (h2 : i < n) : i ∈ dn n k := by
  unfold dn
  rw [List.mem_map]
  exact ⟨n - 1 - i, by rw [List.mem_range]; omega, by omega⟩

theorem blk_own {β : Type} (B : Nat) (t : TypeId) (f : β → Array Value) : Own (fun s W => Blk W B t (f s)) := fun s X Y row hs hg hrow =>
  Blk.grown hs hg (fun e' => by obtain ⟨o, ho, hc⟩ := hrow B e'.symm; rw [show X.heap[B]? = _ from hs] at ho; cases ho; cases hc)

def factV (G : Nat → Nat → Int) (i : Nat) : Value := .agg #[.int .i64 (G i 0), .int .i64 (G i 1), .int .i64 (G i 2), .int .i64 (G i 3), .int .i64 (G i 4)]

set_option maxRecDepth 100000 in
set_option maxHeartbeats 2000000 in
/-- slices.Backward's closure, for every loop body that keeps what lay below n₀. -/
theorem bk1_in (Fe : Fence) (q : Nat) (h80 : Fe.fn 80) (hro : Fe.round = none) (hq : 1 ≤ q) (l Bs n₀ n cap : Nat) (A : Option Addr) (G : Nat → Nat → Int) (hn : n ≤ 1048577) (J Jx : List Nat → World → Prop)
    (hY : ∀ (pre : List Nat) (x : Nat) W, J pre W → pre.length < n → YieldAt Fe (q - 1) Try.prog l #[.int .i64 (x : Int), .agg #[.int .i64 (G x 0), .int .i64 (G x 1), .int .i64 (G x 2), .int .i64 (G x 3), .int .i64 (G x 4)]] W fun e W' =>
      (e = .returned (.bool true) ∧ J (pre ++ [x]) W' ∧ Below n₀ W W') ∨ (e = .returned (.bool false) ∧ Jx (pre ++ [x]) W'))
    (W : World) (hBn : Bs < n₀) (hBs : W.cell? ⟨Bs, 0, none⟩ = some (.slice A n cap)) (hc : Tab 5 W n₀ A n G) (h0 : J [] W) :
    CallsIn Fe q Try.prog 80 #[.func (.yield l) #[] #[], .pointer (some ⟨Bs, 0, none⟩)] W fun e W' => (∃ v, e = .returned v) ∧
      ((∃ ys, ys = dn n n ∧ J ys W') ∨ (∃ pre, (∃ k, k ≤ n ∧ pre = dn n k) ∧ Jx pre W')) := by
  have HC := Lib.hid hc
  clear hc
  refine callsIn_of_wp Try.func80 rfl h80 ?_ hro
  simp only [Try.ntmps80, List.size_toArray, List.length_cons, List.length_nil, Nat.reduceAdd, Nat.reduceSub, Array.replicate_succ, Array.replicate_zero, List.push_toArray, List.append_toArray, List.nil_append, List.cons_append]
  gi_wp2
  gi_loopw [3] (fun i wr => ∃ k : Nat, k ≤ n ∧ i = .int .i64 ((n : Int) - 1 - (k : Int)) ∧ J (dn n k) wr ∧ Below n₀ W wr)
    (fun i _ => (intOf i + 1).toNat)
  case atStart => exact ⟨0, Nat.zero_le _, by simp, h0, Below.refl _ _⟩
  case round =>
    obtain ⟨k, hk, rfl, hJs, hnx⟩ := hrel
    have hBr := (hnx.cell (p := ⟨Bs, 0, none⟩) hBn).trans hBs
    by_cases hlt : k < n
    · obtain ⟨j, hj⟩ : ∃ j : Nat, n - 1 - k = j := ⟨_, rfl⟩
      have hjn : j < n := by omega
      have ej : (n : Int) - 1 - (k : Int) = (j : Int) := by omega
      have ej2 : (n : Int) - 1 - ((k + 1 : Nat) : Int) = (j : Int) - 1 := by omega
      have HJ2 := Lib.hid ej2
      have HS := Lib.hid (dn_succ n k)
      rw [hj] at HS
      rw [ej]
      obtain ⟨b, off, rfl, hb, ⟨c0, c1, c2, c3, c4⟩, _⟩ := (HC.out.keep hnx).at5 hjn
      obtain ⟨fn, tmps, assign, body, hy, hR⟩ := hY _ j wr hJs (by rw [dn_length]; exact hlt)
      have k0 : (0 : Int) ≤ (j : Int) := by omega
      have k1 : (j : Int) < (n : Int) := by omega
      clear ej ej2 hj
      gi_wp2
      refine hR.mono ?_
      rintro e W3 (⟨rfl, hJ3, hk3⟩ | ⟨rfl, hJx3⟩)
      · gi_wp2
        go_roundw
        case rel => exact ⟨k + 1, by omega, by rw [HJ2.out], by rw [HS.out]; exact hJ3, hnx.trans hk3⟩
        case measure => simp [intOf] <;> omega
      · gi_wp2
        refine bodyPost_ret (results_none rfl _ _ _) rfl ?_
        exact ⟨⟨_, rfl⟩, .inr ⟨_, ⟨k + 1, by omega, HS.out.symm⟩, hJx3⟩⟩
    · obtain rfl : k = n := by omega
      have ej : (k : Int) - 1 - (k : Int) = -1 := by omega
      rw [ej]
      clear ej
      gi_wp2
      go_end0
      exact ⟨⟨_, rfl⟩, .inl ⟨_, rfl, hJs⟩⟩

set_option maxHeartbeats 1000000 in
/-- slices.Backward boxes the slice value; the function value captures the box. -/
theorem bk_in (Fe : Fence) (q : Nat) (h60 : Fe.fn 60) (hro : Fe.round = none) (A : Option Addr) (n cap : Nat) (w : World) :
    CallsIn Fe q Try.prog 60 #[.slice A n cap] w fun e w' => e = .returned (.func (.func 80) #[] #[.pointer (some ⟨w.heap.size, 0, none⟩)]) ∧ w' = w.alloc (.cells #[.slice A n cap] 36) := by
  refine callsIn_of_wp Try.func60 rfl h60 ?_ hro
  simp only [Try.ntmps60, List.size_toArray, List.length_cons, List.length_nil, Nat.reduceAdd, Nat.reduceSub, Array.replicate_succ, Array.replicate_zero, List.push_toArray, List.append_toArray, List.nil_append, List.cons_append]
  gi_wp2
  go_ret
  exact ⟨rfl, rfl⟩

theorem bk_stops (Fe : Fence) (q : Nat) (h80 : Fe.fn 80) (hro : Fe.round = none) (hq : 1 ≤ q) (Bs n₀ n cap : Nat) (A : Option Addr) (G : Nat → Nat → Int) (hn : n ≤ 1048577) (w : World) (hBn : Bs < n₀) (hn₀ : n₀ ≤ w.heap.size)
    (hc : w.cell? ⟨Bs, 0, none⟩ = some (.slice A n cap)) (hT : Tab 5 w n₀ A n G) :
    SeqStopsK Fe q Try.prog 80 #[.pointer (some ⟨Bs, 0, none⟩)] (fun x : Nat => #[.int .i64 (x : Int), .agg #[.int .i64 (G x 0), .int .i64 (G x 1), .int .i64 (G x 2), .int .i64 (G x 3), .int .i64 (G x 4)]]) (Below n₀) (fun ys => ys = dn n n) (fun pre => ∃ k, k ≤ n ∧ pre = dn n k) n w := fun l J Jx W hW _ _ hY h0 =>
  bk1_in Fe q h80 hro hq l Bs n₀ n cap A G hn J Jx hY W hBn ((hW.cell (p := ⟨Bs, 0, none⟩) (Nat.lt_of_lt_of_le hBn hn₀)).trans hc) (hT.keep (hW.mono hn₀)) h0

def VaEnd (F : Nat → Nat → Int) (key m kn : Int) (n : Nat) (w : World) (e : Ending) (w' : World) : Prop :=
  e = .returned (.tuple #[.int .i64 (valueAt F key m kn n).1, .bool (valueAt F key m kn n).2]) ∧ Below w.heap.size w w'

set_option maxRecDepth 100000 in
set_option maxHeartbeats 4000000 in
theorem implValueAt_in (Fe : Fence) (q : Nat) (h28 : Fe.fn 28) (h60 : Fe.fn 60) (h80 : Fe.fn 80) (hro : Fe.round = none) (hq : 3 ≤ q)
    (L : Nat) (A : Option Addr) (n cap : Nat) (F : Nat → Nat → Int) (key m kn : Int) (w : World) (h1 : Tab 5 w L A n F) (hL : L ≤ w.heap.size) (hn : n ≤ 1048577) :
    CallsIn Fe q Try.prog 28 #[.agg #[.slice A n cap], .int .i64 key, .int .i64 m, .int .i64 kn] w (VaEnd F key m kn n w) := by
  have hq1 : 1 ≤ q := by omega
  have hB0 : Below w.heap.size w (((((((w.alloc (.cells #[.slice A n cap] 38)).alloc (.cells #[.int .i64 key] 3)).alloc (.cells #[.int .i64 m] 3)).alloc (.cells #[.int .i64 kn] 3)).alloc (.cells #[.int .i64 0] 3)).alloc (.cells #[.bool false] 4)).alloc (.cells #[.slice A n cap] 36)) := andAlloc (andAlloc (andAlloc (andAlloc (andAlloc (andAlloc (andAlloc (Below.refl _ _) _) _) _) _) _) _) _
  have b1 : Boxed (((((((w.alloc (.cells #[.slice A n cap] 38)).alloc (.cells #[.int .i64 key] 3)).alloc (.cells #[.int .i64 m] 3)).alloc (.cells #[.int .i64 kn] 3)).alloc (.cells #[.int .i64 0] 3)).alloc (.cells #[.bool false] 4)).alloc (.cells #[.slice A n cap] 36)) (w.heap.size + 1) 3 (.int .i64 key) := by
    have := (Boxed.new (w.alloc (.cells #[.slice A n cap] 38)) 3 (.int .i64 key))
    rw [World.size_alloc] at this
    exact ((((this.alloc _).alloc _).alloc _).alloc _).alloc _
  have b2 : Boxed (((((((w.alloc (.cells #[.slice A n cap] 38)).alloc (.cells #[.int .i64 key] 3)).alloc (.cells #[.int .i64 m] 3)).alloc (.cells #[.int .i64 kn] 3)).alloc (.cells #[.int .i64 0] 3)).alloc (.cells #[.bool false] 4)).alloc (.cells #[.slice A n cap] 36)) (w.heap.size + 1 + 1) 3 (.int .i64 m) := by
    have := (Boxed.new ((w.alloc (.cells #[.slice A n cap] 38)).alloc (.cells #[.int .i64 key] 3)) 3 (.int .i64 m))
    rw [World.size_alloc, World.size_alloc] at this
    exact (((this.alloc _).alloc _).alloc _).alloc _
  have b3 : Boxed (((((((w.alloc (.cells #[.slice A n cap] 38)).alloc (.cells #[.int .i64 key] 3)).alloc (.cells #[.int .i64 m] 3)).alloc (.cells #[.int .i64 kn] 3)).alloc (.cells #[.int .i64 0] 3)).alloc (.cells #[.bool false] 4)).alloc (.cells #[.slice A n cap] 36)) (w.heap.size + 1 + 1 + 1) 3 (.int .i64 kn) := by
    have := (Boxed.new (((w.alloc (.cells #[.slice A n cap] 38)).alloc (.cells #[.int .i64 key] 3)).alloc (.cells #[.int .i64 m] 3)) 3 (.int .i64 kn))
    rw [World.size_alloc, World.size_alloc, World.size_alloc] at this
    exact ((this.alloc _).alloc _).alloc _
  have b4 : Boxed (((((((w.alloc (.cells #[.slice A n cap] 38)).alloc (.cells #[.int .i64 key] 3)).alloc (.cells #[.int .i64 m] 3)).alloc (.cells #[.int .i64 kn] 3)).alloc (.cells #[.int .i64 0] 3)).alloc (.cells #[.bool false] 4)).alloc (.cells #[.slice A n cap] 36)) (w.heap.size + 1 + 1 + 1 + 1) 3 (.int .i64 0) := by
    have := (Boxed.new ((((w.alloc (.cells #[.slice A n cap] 38)).alloc (.cells #[.int .i64 key] 3)).alloc (.cells #[.int .i64 m] 3)).alloc (.cells #[.int .i64 kn] 3)) 3 (.int .i64 0))
    rw [World.size_alloc, World.size_alloc, World.size_alloc, World.size_alloc] at this
    exact (this.alloc _).alloc _
  have b5 : Boxed (((((((w.alloc (.cells #[.slice A n cap] 38)).alloc (.cells #[.int .i64 key] 3)).alloc (.cells #[.int .i64 m] 3)).alloc (.cells #[.int .i64 kn] 3)).alloc (.cells #[.int .i64 0] 3)).alloc (.cells #[.bool false] 4)).alloc (.cells #[.slice A n cap] 36)) (w.heap.size + 1 + 1 + 1 + 1 + 1) 4 (.bool false) := by
    have := (Boxed.new (((((w.alloc (.cells #[.slice A n cap] 38)).alloc (.cells #[.int .i64 key] 3)).alloc (.cells #[.int .i64 m] 3)).alloc (.cells #[.int .i64 kn] 3)).alloc (.cells #[.int .i64 0] 3)) 4 (.bool false))
    rw [World.size_alloc, World.size_alloc, World.size_alloc, World.size_alloc, World.size_alloc] at this
    exact this.alloc _
  have b6 : Boxed (((((((w.alloc (.cells #[.slice A n cap] 38)).alloc (.cells #[.int .i64 key] 3)).alloc (.cells #[.int .i64 m] 3)).alloc (.cells #[.int .i64 kn] 3)).alloc (.cells #[.int .i64 0] 3)).alloc (.cells #[.bool false] 4)).alloc (.cells #[.slice A n cap] 36)) (w.heap.size + 1 + 1 + 1 + 1 + 1 + 1) 36 (.slice A n cap) := by
    have := (Boxed.new ((((((w.alloc (.cells #[.slice A n cap] 38)).alloc (.cells #[.int .i64 key] 3)).alloc (.cells #[.int .i64 m] 3)).alloc (.cells #[.int .i64 kn] 3)).alloc (.cells #[.int .i64 0] 3)).alloc (.cells #[.bool false] 4)) 36 (.slice A n cap))
    rw [World.size_alloc, World.size_alloc, World.size_alloc, World.size_alloc, World.size_alloc, World.size_alloc] at this
    exact this
  have H1 := Lib.hid (h1.keep (hB0.mono hL))
  clear h1
  refine callsIn_of_wp_marks Try.func28 rfl h28 ?_ hro
  simp only [Try.ntmps28, List.size_toArray, List.length_cons, List.length_nil, Nat.reduceAdd, Nat.reduceSub, Array.replicate_succ, Array.replicate_zero, List.push_toArray, List.append_toArray, List.nil_append, List.cons_append]
  gi_wp2_with (gi_at_call 60; refine (bk_in Fe (q - 1) h60 hro _ _ _ _).mono ?_; rintro e w' ⟨rfl, rfl⟩)
  have hsz : (((((((w.alloc (.cells #[.slice A n cap] 38)).alloc (.cells #[.int .i64 key] 3)).alloc (.cells #[.int .i64 m] 3)).alloc (.cells #[.int .i64 kn] 3)).alloc (.cells #[.int .i64 0] 3)).alloc (.cells #[.bool false] 4)).alloc (.cells #[.slice A n cap] 36)).heap.size = w.heap.size + 1 + 1 + 1 + 1 + 1 + 1 + 1 := by simp
  generalize (((((((w.alloc (.cells #[.slice A n cap] 38)).alloc (.cells #[.int .i64 key] 3)).alloc (.cells #[.int .i64 m] 3)).alloc (.cells #[.int .i64 kn] 3)).alloc (.cells #[.int .i64 0] 3)).alloc (.cells #[.bool false] 4)).alloc (.cells #[.slice A n cap] 36)) = W0 at hB0 b1 b2 b3 b4 b5 b6 H1 hsz ⊢
  refine wpIn_rangeFunc_ownH hro hq1 (gf := 80) (lb := #[.pointer (some ⟨w.heap.size + 1 + 1 + 1 + 1 + 1 + 1, 0, none⟩)]) rfl h80 (enters_of Try.func80 (by kernel_rfl) rfl)
    (bk_stops Fe (q - 1) h80 hro (by omega) (w.heap.size + 1 + 1 + 1 + 1 + 1 + 1) (w.heap.size + 1 + 1 + 1 + 1 + 1 + 1 + 1) n cap A F hn W0 (by omega) (by omega) b6.cell (H1.out.more (by omega))) belowK_t (belowK_b (by omega)) (Below.refl _ _) (fun _ => rfl)
    (fun pre W => ((∀ i ∈ pre, vaB F key m kn i = false) ∧ (Boxed W (w.heap.size + 1) 3 (.int .i64 key) ∧ Boxed W (w.heap.size + 1 + 1) 3 (.int .i64 m) ∧ Boxed W (w.heap.size + 1 + 1 + 1) 3 (.int .i64 kn)) ∧ (Boxed W (w.heap.size + 1 + 1 + 1 + 1) 3 (.int .i64 0) ∧ Boxed W (w.heap.size + 1 + 1 + 1 + 1 + 1) 4 (.bool false) ∧ Boxed W (w.heap.size + 1 + 1 + 1 + 1 + 1 + 1) 36 (.slice A n cap))) ∧ Below w.heap.size w W)
    (fun c pre W => (c = .ret ∧ ∃ ini last, pre = ini ++ [last] ∧ (∀ i ∈ ini, vaB F key m kn i = false) ∧ vaB F key m kn last = true ∧ W.cell? ⟨w.heap.size + 1 + 1 + 1 + 1, 0, none⟩ = some (.int .i64 (F last 4)) ∧ W.cell? ⟨w.heap.size + 1 + 1 + 1 + 1 + 1, 0, none⟩ = some (.bool true)) ∧ Below w.heap.size w W)
    (OwnFrom.and (Own.from (fun s X Y row hs hg hr => ⟨hs.1, ⟨boxed_own _ _ (fun (_ : List Nat) => _) s X Y row hs.2.1.1 hg hr, boxed_own _ _ (fun (_ : List Nat) => _) s X Y row hs.2.1.2.1 hg hr, boxed_own _ _ (fun (_ : List Nat) => _) s X Y row hs.2.1.2.2 hg hr⟩, boxed_own _ _ (fun (_ : List Nat) => _) s X Y row hs.2.2.1 hg hr, boxed_own _ _ (fun (_ : List Nat) => _) s X Y row hs.2.2.2.1 hg hr, boxed_own _ _ (fun (_ : List Nat) => _) s X Y row hs.2.2.2.2 hg hr⟩) _) (ownFrom_below (Nat.le_refl _) (by omega)))
    (fun c => OwnFrom.and (Own.from (fun s X Y row hs hg hr => by obtain ⟨hc, ini, last, e1, e2, e3, e4, e5⟩ := hs; exact ⟨hc, ini, last, e1, e2, e3, cell_kept e4 hg hr, cell_kept e5 hg hr⟩) _) (ownFrom_below (Nat.le_refl _) (by omega)))
    ⟨⟨(fun i hi => by cases hi), ⟨b1, b2, b3⟩, b4, b5, b6⟩, hB0⟩
    (fun x a' W => ∃ Bx, w.heap.size + 1 + 1 + 1 + 1 + 1 < Bx ∧ Blk W Bx 54 #[.int .i64 (F x 0), .int .i64 (F x 1), .int .i64 (F x 2), .int .i64 (F x 3), .int .i64 (F x 4)] ∧ a' = { tmps := #[.agg #[.slice A n cap], .int .i64 key, .int .i64 m, .int .i64 kn, .pointer (some ⟨w.heap.size, 0, none⟩), .pointer (some ⟨w.heap.size + 1, 0, none⟩), .pointer (some ⟨w.heap.size + 1 + 1, 0, none⟩), .pointer (some ⟨w.heap.size + 1 + 1 + 1, 0, none⟩), .pointer (some ⟨w.heap.size + 1 + 1 + 1 + 1, 0, none⟩), .pointer (some ⟨w.heap.size + 1 + 1 + 1 + 1 + 1, 0, none⟩), undef, .pointer (some ⟨Bx, 0, none⟩), .pointer (some ⟨w.heap.size, 0, none⟩), .slice A n cap, .func (.func 80) #[] #[.pointer (some ⟨w.heap.size + 1 + 1 + 1 + 1 + 1 + 1, 0, none⟩)], .int .i64 (x : Int), .agg #[.int .i64 (F x 0), .int .i64 (F x 1), .int .i64 (F x 2), .int .i64 (F x 3), .int .i64 (F x 4)], undef, undef, undef, undef, undef, undef, undef, undef, undef, undef, undef, undef, undef, undef, undef, undef, undef, undef, undef, undef, undef, undef, undef, undef], defers := [] })
    (fun x a' _ X Y row hs hg hr => by obtain ⟨Bx, h1, h2, h3⟩ := hs; exact ⟨Bx, h1, blk_own Bx 54 (fun (_ : Unit) => _) () X Y row h2 hg (fun r e => (hr r e).2), h3⟩)
    ?assign ?body ?done ?stop
  case assign =>
    rintro l pre x W K ⟨⟨hp, ⟨c1, c2, c3⟩, c4, c5, c6⟩, hB⟩ hK
    gi_wp2
    exact hK _ _ ((KeepsOthers.alloc _ _).from _) ((Below.refl _ W).alloc (by have := c6.lt; omega) _) ⟨⟨hp, ⟨c1.alloc _, c2.alloc _, c3.alloc _⟩, c4.alloc _, c5.alloc _, c6.alloc _⟩, hB.alloc hB.size _⟩ ⟨W.heap.size, c5.lt, Blk.new W 54 _, rfl⟩
  case body =>
    rintro l pre x a' W hl ⟨r, hr⟩ ⟨⟨hp, ⟨c1, c2, c3⟩, c4, c5, c6⟩, hB⟩ ⟨Bx, hBx, bX, rfl⟩ hlt
    have k1 := c1.cell
    have k2 := c2.cell
    have k3 := c3.cell
    have k4 := c4.cell
    have k5 := c5.cell
    have f4 := c4.frozen
    have f5 := c5.frozen
    have x0 : W.cell? ⟨Bx, 0, none⟩ = some (.int .i64 (F x 0)) := bX.cell 0
    have x1 : W.cell? ⟨Bx, 1, none⟩ = some (.int .i64 (F x 1)) := bX.cell 1
    have x2 : W.cell? ⟨Bx, 2, none⟩ = some (.int .i64 (F x 2)) := bX.cell 2
    have x3 : W.cell? ⟨Bx, 3, none⟩ = some (.int .i64 (F x 3)) := bX.cell 3
    have x4 : W.cell? ⟨Bx, 4, none⟩ = some (.int .i64 (F x 4)) := bX.cell 4
    cases hva : vaB F key m kn x
    case true =>
      have HV := Lib.hid hva
      unfold vaB at hva
      simp only [Bool.and_eq_true] at hva
      obtain ⟨g0, g1, g2, g3⟩ := hva
      gi_wp2
      exact ⟨((KeepsOthers.setCell _ _ _).trans (KeepsOthers.setCell _ _ _)).from _, ⟨rfl, pre, x, rfl, hp, HV.out, by go_simp, by go_simp⟩, (hB.setCell (p := ⟨w.heap.size + 1 + 1 + 1 + 1, 0, none⟩) (by show w.heap.size ≤ w.heap.size + 1 + 1 + 1 + 1; omega) _).setCell (p := ⟨w.heap.size + 1 + 1 + 1 + 1 + 1, 0, none⟩) (by show w.heap.size ≤ w.heap.size + 1 + 1 + 1 + 1 + 1; omega) _⟩
    case false =>
      have HP : ∀ i ∈ pre ++ [x], vaB F key m kn i = false := fun i hi => by
        rcases List.mem_append.1 hi with h | h
        · exact hp i h
        · simp at h; subst h; exact hva
      have HP := Lib.hid HP
      unfold vaB at hva
      cases g0 : (F x 0 == key) <;> cases g1 : decide (F x 1 ≤ m) <;> cases g2 : decide (m < F x 2) <;> cases g3 : decide (F x 3 ≤ kn)
      case true.true.true.true => rw [g0, g1, g2, g3] at hva; cases hva
      all_goals
        clear hva
        gi_wp2
        exact ⟨KeepsFrom.refl _ _, Below.refl _ _, ⟨HP.out, ⟨c1, c2, c3⟩, c4, c5, c6⟩, hB⟩
  case done =>
    rintro D ys W hD rfl ⟨⟨hp, ⟨c1, c2, c3⟩, c4, c5, c6⟩, hB⟩ hK
    have HI : Hid (valueAt F key m kn n = (0, false)) := by
      show _ = _
      rw [valueAt_skip (k := 0) n (by omega) fun i _ h2 => hp i (dn_mem (Nat.le_refl _) (by omega) h2)]
      rfl
    have k4 := c4.cell
    have k5 := c5.cell
    have f4 := c4.frozen
    have f5 := c5.frozen
    gi_wp2
    have hK' := ((KeepsOthers.setCell W ⟨w.heap.size + 1 + 1 + 1 + 1, 0, none⟩ (.int .i64 0)).trans (KeepsOthers.setCell _ ⟨w.heap.size + 1 + 1 + 1 + 1 + 1, 0, none⟩ (.bool false))).same D _ hK rfl
    refine ⟨by simp, .inl ⟨_, _, rfl, run_takeDeferred hK', ?_⟩⟩
    have r4 : ((W.setCell ⟨w.heap.size + 1 + 1 + 1 + 1, 0, none⟩ (.int .i64 0)).setCell ⟨w.heap.size + 1 + 1 + 1 + 1 + 1, 0, none⟩ (.bool false)).cell? ⟨w.heap.size + 1 + 1 + 1 + 1, 0, none⟩ = some (.int .i64 0) := by go_simp
    have r5 : ((W.setCell ⟨w.heap.size + 1 + 1 + 1 + 1, 0, none⟩ (.int .i64 0)).setCell ⟨w.heap.size + 1 + 1 + 1 + 1 + 1, 0, none⟩ (.bool false)).cell? ⟨w.heap.size + 1 + 1 + 1 + 1 + 1, 0, none⟩ = some (.bool false) := by go_simp
    have q4 := cell_kept r4 (grownBy_putObj' _ D (.deferred none)) (fun r e => by cases e; exact ⟨_, hK', rfl⟩)
    have q5 := cell_kept r5 (grownBy_putObj' _ D (.deferred none)) (fun r e => by cases e; exact ⟨_, hK', rfl⟩)
    refine ⟨.tuple #[.int .i64 0, .bool false], ?_, by rw [HI.out], ((hB.setCell (p := ⟨w.heap.size + 1 + 1 + 1 + 1, 0, none⟩) (by show w.heap.size ≤ w.heap.size + 1 + 1 + 1 + 1; omega) _).setCell (p := ⟨w.heap.size + 1 + 1 + 1 + 1 + 1, 0, none⟩) (by show w.heap.size ≤ w.heap.size + 1 + 1 + 1 + 1 + 1; omega) _).trans (belowK_b (w := w) (Nat.le_refl _) _ D _ _ (by omega) hK' rfl rfl)⟩
    simp [results, Try.f28, go_sem, q4, q5]
  case stop =>
    rintro D c pre W hD ⟨k, hk, rfl⟩ ⟨⟨rfl, ini, last, e1, e2, e3, r4, r5⟩, hB⟩ hK
    gi_wp2
    refine ⟨by simp, .inl ⟨_, _, rfl, run_takeDeferred hK, ?_⟩⟩
    have q4 := cell_kept r4 (grownBy_putObj' _ D (.deferred none)) (fun r e => by cases e; exact ⟨_, hK, rfl⟩)
    have q5 := cell_kept r5 (grownBy_putObj' _ D (.deferred none)) (fun r e => by cases e; exact ⟨_, hK, rfl⟩)
    have HI : valueAt F key m kn n = (F last 4, true) := by
      obtain ⟨k', rfl⟩ : ∃ k', k = k' + 1 := by
        cases k with
        | zero => simp [dn] at e1
        | succ k' => exact ⟨k', rfl⟩
      rw [dn_succ] at e1
      obtain ⟨rfl, e5⟩ := List.append_inj' e1 rfl
      obtain rfl : n - 1 - k' = last := by simpa using e5
      rw [valueAt_skip (k := n - 1 - k' + 1) n (by omega) fun i h1 h2 => e2 i (dn_mem (by omega) (by omega) h2)]
      exact valueAt_yes e3
    refine ⟨.tuple #[.int .i64 (F last 4), .bool true], ?_, by rw [HI], hB.trans (belowK_b (w := w) (Nat.le_refl _) W D _ _ (by omega) hK rfl rfl)⟩
    simp [results, Try.f28, go_sem, q4, q5]

theorem implValueAt_c (L : Nat) (A : Option Addr) (n cap : Nat) (F : Nat → Nat → Int) (key m kn : Int) (w : World) (h1 : Tab 5 w L A n F) (hL : L ≤ w.heap.size) (hn : n ≤ 1048577) :
    Calls Try.prog 28 #[.agg #[.slice A n cap], .int .i64 key, .int .i64 m, .int .i64 kn] w fun e w' => e = .returned (.tuple #[.int .i64 (valueAt F key m kn n).1, .bool (valueAt F key m kn n).2]) ∧ Below w.heap.size w w' :=
  callsIn_wide.1 (implValueAt_in Fence.wide 3 trivial trivial trivial rfl (Nat.le_refl _) L A n cap F key m kn w h1 hL hn)

end Go.Proofs.Ytmehfclhmbhjaaa
