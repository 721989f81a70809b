/-
  The cursor of the draws: l01Byte returns some number from 0 to 255, l01Below some number from 0 to n-1, l01Once some bool; only the cursor's block has turned. Conditions: the cursor is well formed ('Cur').
-/
import Derived.Test.YtcibffmhlamcdaaPure
import Derived.Deep.Draws
import Derived.Laws.OwnMore
import Derived.Laws.Rows
import Derived.Laws.AppendOwn
import Derived.Laws.BitsAllLaws
import Derived.Laws.BitsLemmas
import Derived.Deep.RegionHeld3
namespace Go.Proofs.Ytcibffmhlamcdaa
open Go.RowKit
set_option linter.unusedVariables false

/-- Block g is just the cells cs of element type t, none frozen. -/
def Blk (w : World) (g : Nat) (t : TypeId) (cs : Array Value) : Prop := w.heap[g]? = some (.cells cs t (0, 0))

section
variable {w w' : World} {g : Nat} {t : TypeId} {cs : Array Value}
theorem Blk.lt (h : Blk w g t cs) : g < w.heap.size := by
  rcases Nat.lt_or_ge g w.heap.size with hlt | hge
  · exact hlt
  · unfold Blk at h; rw [Array.getElem?_eq_none hge] at h; cases h
theorem Blk.cell (h : Blk w g t cs) (i : Nat) : w.cell? ⟨g, i, none⟩ = cs[i]? := cell_of_row w g i cs t (0, 0) h
theorem Blk.frozen (h : Blk w g t cs) (i : Nat) : w.frozen? ⟨g, i, none⟩ = false := by
  unfold Blk at h
  simp [World.frozen?, h]
theorem Blk.new (w : World) (t : TypeId) (cs : Array Value) : Blk (w.alloc (.cells cs t)) w.heap.size t cs := heap_alloc_new w _
theorem Blk.drewN (h : Blk w g t cs) (n : Nat) : Blk (w.drewN n) g t cs := h
theorem Blk.alloc (h : Blk w g t cs) (o : Obj) : Blk (w.alloc o) g t cs := (Below.heap_alloc w o g h.lt).trans h
theorem Blk.set_ (h : Blk w g t cs) (i : Nat) (u : Value) : Blk (w.setCell ⟨g, i, none⟩ u) g t (cs.setIfInBounds i u) := by
  unfold Blk at h ⊢
  simp [World.setCell, Array.getElem?_modify, h]
theorem Blk.far (h : Blk w g t cs) {p : Addr} (hp : g ≠ p.block) (u : Value) : Blk (w.setCell p u) g t cs := (Below.heap_setCell w p u g hp).trans h
theorem Blk.below {B : Nat} (h : Blk w g t cs) (hb : Below B w w') (hg : g < B) : Blk w' g t cs := (hb.block g hg).trans h
theorem Blk.grown {row : Option Nat} (h : Blk w g t cs) (hb : w.grownBy w' row) (hg : some g ≠ row) : Blk w' g t cs := (hb.block g h.lt hg).trans h
end

theorem only_refl (w : World) (row : Option Nat) : w.grownBy w row := World.grownBy.refl w row
theorem only_drewN {a w : World} {row : Option Nat} (h : a.grownBy w row) (n : Nat) : a.grownBy (w.drewN n) row := ⟨h.os, h.tape, h.output, h.size, h.block⟩
theorem only_alloc {a w : World} {row : Option Nat} (h : a.grownBy w row) (o : Obj) : a.grownBy (w.alloc o) row :=
  ⟨h.os, h.tape, h.output, Nat.le_trans h.size (by simp), fun i hi hne => (Below.heap_alloc w o i (Nat.lt_of_lt_of_le hi h.size)).trans (h.block i hi hne)⟩
theorem only_setCell {a w : World} {g : Nat} (h : a.grownBy w (some g)) {p : Addr} (hp : p.block = g ∨ a.heap.size ≤ p.block) (u : Value) : a.grownBy (w.setCell p u) (some g) :=
  ⟨h.os, h.tape, h.output, by simpa [World.setCell] using h.size, fun i hi hne => (Below.heap_setCell w p u i (by
    rintro rfl
    rcases hp with hp | hp
    · exact hne (by rw [hp])
    · omega)).trans (h.block i hi hne)⟩
theorem only_trans {a b c : World} {row : Option Nat} (h : a.grownBy b row) (k : b.grownBy c row) : a.grownBy c row :=
  ⟨k.os.trans h.os, k.tape.trans h.tape, k.output.trans h.output, Nat.le_trans h.size k.size, fun i hi hne => (k.block i (Nat.lt_of_lt_of_le hi h.size) hne).trans (h.block i hi hne)⟩
theorem only_below {a w w' : World} {B : Nat} (h : a.grownBy w (some B)) (k : Below w.heap.size w w') : a.grownBy w' (some B) :=
  ⟨k.os.trans h.os, k.tape.trans h.tape, k.output.trans h.output, Nat.le_trans h.size k.size, fun i hi hne => (k.block i (Nat.lt_of_lt_of_le hi h.size)).trans (h.block i hi hne)⟩
theorem below_only {a w w' : World} {B : Nat} (h : Below a.heap.size a w) (k : w.grownBy w' (some B)) (hB : a.heap.size ≤ B) : Below a.heap.size a w' :=
  h.grown k h.size (fun j hj => by cases hj; exact hB)

/-- The bytes of a draw lie at the slice (A, n), below block number base. -/
def Bytes (w : World) (base : Nat) (A : Option Addr) (n : Nat) : Prop :=
  ∀ j, j < n → ∃ (b off : Nat) (y : Int), A = some ⟨b, off, none⟩ ∧ b < base ∧ w.cell? ⟨b, off + j, none⟩ = some (.int .u8 y) ∧ 0 ≤ y ∧ y ≤ 255

/-- Block B is a cursor over bytes that lie below base. -/
def Cur (w : World) (base B : Nat) : Prop :=
  ∃ (A : Option Addr) (n cap : Nat) (i h : Int), Blk w B 50 #[.slice A n cap, .int .i64 i, .int .i64 h] ∧ 0 ≤ i ∧ i ≤ n ∧ n ≤ 2000000 ∧ base ≤ B ∧ Bytes w base A n

theorem Bytes.below {w w' : World} {base : Nat} {A : Option Addr} {n : Nat} (h : Bytes w base A n) (hb : Below base w w') : Bytes w' base A n := by
  intro j hj
  obtain ⟨b, off, y, h1, h2, h3, h4⟩ := h j hj
  exact ⟨b, off, y, h1, h2, (hb.cell (p := ⟨b, off + j, none⟩) h2).trans h3, h4⟩
theorem Cur.lt {w : World} {base B : Nat} (h : Cur w base B) : B < w.heap.size := by
  obtain ⟨A, n, cap, i, hh, hb, _⟩ := h
  exact hb.lt
theorem Cur.le {w : World} {base B : Nat} (h : Cur w base B) : base ≤ B := by
  obtain ⟨A, n, cap, i, hh, hb, h1, h2, h3, h4, h5⟩ := h
  exact h4
theorem Cur.keep {w w' : World} {base B : Nat} (h : Cur w base B) (hB : w'.heap[B]? = w.heap[B]?) (hb : Below base w w') : Cur w' base B := by
  obtain ⟨A, n, cap, i, hh, h1, h2, h3, h4, h5, h6⟩ := h
  exact ⟨A, n, cap, i, hh, hB.trans h1, h2, h3, h4, h5, h6.below hb⟩
theorem Cur.below {w w' : World} {base B : Nat} (h : Cur w base B) (hb : Below w.heap.size w w') : Cur w' base B :=
  h.keep (hb.block B h.lt) (hb.mono (Nat.le_of_lt (Nat.lt_of_le_of_lt h.le h.lt)))
theorem Cur.grown {w w' : World} {base B : Nat} {row : Option Nat} (h : Cur w base B) (hg : w.grownBy w' row) (h1 : row ≠ some B) (h2 : ∀ k, row = some k → base ≤ k) : Cur w' base B :=
  h.keep (hg.block B h.lt (fun e => h1 e.symm)) ((Below.refl base w).grown hg (Nat.le_of_lt (Nat.lt_of_le_of_lt h.le h.lt)) h2)
/-- A row of integers of the call's own is not the cursor's block. -/
theorem Cur.apart {w : World} {base base' B : Nat} {e : TypeId} {size n : Nat} {v : Value} {xs : List Value} (h : Cur w base B) (ho : w.ownsRow base' e size v n xs) (hne : e ≠ 50) : v.ownBlock ≠ some B := by
  obtain ⟨A, m, cap, i, hh, h1, _⟩ := h
  rcases ho.2 with ⟨rfl, _⟩ | ⟨g', cap', cur, rfl, _, hh', _⟩
  · simp [Value.ownBlock]
  · intro he
    have : g' = B := by simpa [Value.ownBlock] using he
    subst this
    unfold Blk at h1
    rw [h1] at hh'
    injection hh' with hh'
    injection hh' with _ ht
    exact hne ht.symm

/-- What a draw of a number leaves: some number of which P holds; only the cursor has turned. -/
def Drawn (P : Int → Prop) (base B : Nat) (w : World) (e : Ending) (w' : World) : Prop := ∃ x : Int, P x ∧ e = .returned (.int .i64 x) ∧ Cur w' base B ∧ w.grownBy w' (some B)

theorem and_255 (a : Int) : 0 ≤ bits .and .i64 a 255 ∧ bits .and .i64 a 255 ≤ 255 := by
  have h : (BitVec.ofInt 64 a &&& BitVec.ofInt 64 255).toNat ≤ 255 := by
    rw [BitVec.toNat_and]
    exact Nat.and_le_right
  show 0 ≤ IntKind.i64.wrap ((BitVec.ofInt 64 a &&& BitVec.ofInt 64 255).toNat : Int) ∧ IntKind.i64.wrap ((BitVec.ofInt 64 a &&& BitVec.ofInt 64 255).toNat : Int) ≤ 255
  generalize (BitVec.ofInt 64 a &&& BitVec.ofInt 64 255).toNat = k at *
  rw [IntKind.wrap_i64]
  omega

/-- What l01Byte leaves: a byte; the fields i and h of the cursor written. -/
def ByteEnd (B : Nat) (i : Int) (w : World) (e : Ending) (w' : World) : Prop :=
  ∃ (x h : Int) (k : Nat), 0 ≤ x ∧ x ≤ 255 ∧ e = .returned (.int .i64 x) ∧ w' = ((w.setCell ⟨B, 2, none⟩ (.int .i64 h)).setCell ⟨B, 1, none⟩ (.int .i64 i)).drewN k
def ByteEnd0 (B : Nat) (w : World) (e : Ending) (w' : World) : Prop :=
  ∃ (x h : Int) (k : Nat), 0 ≤ x ∧ x ≤ 255 ∧ e = .returned (.int .i64 x) ∧ w' = (w.setCell ⟨B, 2, none⟩ (.int .i64 h)).drewN k

set_option maxHeartbeats 1000000 in
theorem l01Byte_out (B : Nat) (A : Option Addr) (n cap : Nat) (i h : Int) (w : World) (c0 : w.cell? ⟨B, 0, none⟩ = some (.slice A n cap)) (c1 : w.cell? ⟨B, 1, none⟩ = some (.int .i64 i)) (c2 : w.cell? ⟨B, 2, none⟩ = some (.int .i64 h))
    (f1 : w.frozen? ⟨B, 1, none⟩ = false) (f2 : w.frozen? ⟨B, 2, none⟩ = false) (hi : (n : Int) ≤ i) :
    Calls Try.prog 32 #[.pointer (some ⟨B, 0, none⟩)] w (ByteEnd0 B w) := by
  go_enter Try.func32, Try.ntmps32
  go_wp2_with fail
  go_quiet (fail)
  go_wp2_with fail
  go_quiet (fail)
  go_wp2_with fail
  go_ret
  exact ⟨_, _, _, (and_255 _).1, (and_255 _).2, rfl, World.drewN_drewN ..⟩

set_option maxHeartbeats 1000000 in
theorem l01Byte_in (B b off : Nat) (n cap : Nat) (i : Nat) (h y : Int) (w : World) (c0 : w.cell? ⟨B, 0, none⟩ = some (.slice (some ⟨b, off, none⟩) n cap)) (c1 : w.cell? ⟨B, 1, none⟩ = some (.int .i64 i)) (c2 : w.cell? ⟨B, 2, none⟩ = some (.int .i64 h))
    (f1 : w.frozen? ⟨B, 1, none⟩ = false) (f2 : w.frozen? ⟨B, 2, none⟩ = false) (hi : (i : Int) < n) (hb : b ≠ B) (cy : w.cell? ⟨b, off + i, none⟩ = some (.int .u8 y)) (hy0 : 0 ≤ y) (hy1 : y ≤ 255) (hn : n ≤ 2000000) :
    Calls Try.prog 32 #[.pointer (some ⟨B, 0, none⟩)] w (ByteEnd B (i + 1) w) := by
  have hB : ¬ B = b := fun e => hb e.symm
  have hi0 : (0 : Int) ≤ (i : Int) := by omega
  go_enter Try.func32, Try.ntmps32
  go_wp2_with fail
  go_quiet (fail)
  go_wp2_with fail
  go_quiet (fail)
  go_wp2_with fail
  go_quiet (fail)
  go_wp2_with fail
  go_ret
  exact ⟨_, _, _, (and_255 _).1, (and_255 _).2, rfl, rfl⟩

theorem blk3_2 {w : World} {B : Nat} {t : TypeId} {a b c : Value} (h : Blk w B t #[a, b, c]) (c' : Value) : Blk (w.setCell ⟨B, 2, none⟩ c') B t #[a, b, c'] := by
  have := h.set_ 2 c'
  simpa using this
theorem blk3_1 {w : World} {B : Nat} {t : TypeId} {a b c : Value} (h : Blk w B t #[a, b, c]) (b' : Value) : Blk (w.setCell ⟨B, 1, none⟩ b') B t #[a, b', c] := by
  have := h.set_ 1 b'
  simpa using this

def isByte (x : Int) : Prop := 0 ≤ x ∧ x ≤ 255

theorem l01Byte_c (base B : Nat) (w : World) (hc : Cur w base B) : Calls Try.prog 32 #[.pointer (some ⟨B, 0, none⟩)] w (Drawn isByte base B w) := by
  obtain ⟨A, n, cap, i, h, hb, h0, h1, h2, h4, h3⟩ := hc
  have c0 := hb.cell 0
  have c1 := hb.cell 1
  have c2 := hb.cell 2
  have hl := hb.lt
  rcases Int.lt_or_le i n with hi | hi
  · obtain ⟨m, rfl⟩ := Int.eq_ofNat_of_zero_le h0
    obtain ⟨b, off, y, rfl, e1, e3, e4, e5⟩ := h3 m (by omega)
    refine (l01Byte_in B b off n cap m h y w (by simpa using c0) (by simpa using c1) (by simpa using c2) (hb.frozen 1) (hb.frozen 2) hi (by omega) e3 e4 e5 h2).mono ?_
    rintro e w' ⟨x, h', k, x0, x1, rfl, rfl⟩
    have g1 := only_setCell (p := ⟨B, 2, none⟩) (only_refl w (some B)) (Or.inl rfl) (.int .i64 h')
    have g2 := only_setCell (p := ⟨B, 1, none⟩) g1 (Or.inl rfl) (.int .i64 ((m : Int) + 1))
    have g := only_drewN g2 k
    have hb' := Blk.drewN (blk3_1 (blk3_2 hb (.int .i64 h')) (.int .i64 ((m : Int) + 1))) k
    have hB := (Below.refl base w).grown g (by omega) (fun j hj => by cases hj; exact h4)
    exact ⟨x, ⟨x0, x1⟩, rfl, ⟨_, n, cap, (m : Int) + 1, h', hb', by omega, by omega, h2, h4, h3.below hB⟩, g⟩
  · refine (l01Byte_out B A n cap i h w (by simpa using c0) (by simpa using c1) (by simpa using c2) (hb.frozen 1) (hb.frozen 2) hi).mono ?_
    rintro e w' ⟨x, h', k, x0, x1, rfl, rfl⟩
    have g1 := only_setCell (p := ⟨B, 2, none⟩) (only_refl w (some B)) (Or.inl rfl) (.int .i64 h')
    have g := only_drewN g1 k
    have hb' := Blk.drewN (blk3_2 hb (.int .i64 h')) k
    have hB := (Below.refl base w).grown g (by omega) (fun j hj => by cases hj; exact h4)
    exact ⟨x, ⟨x0, x1⟩, rfl, ⟨A, n, cap, i, h', hb', h0, h1, h2, h4, h3.below hB⟩, g⟩

/-- l01Below of a number that is above 0. -/
def isBelow (n : Int) (x : Int) : Prop := 0 ≤ x ∧ x < n

set_option maxHeartbeats 1000000 in
theorem l01Below_small (base B : Nat) (n : Int) (w : World) (hc : Cur w base B) (h0 : 0 < n) (h1 : n ≤ 256) : Calls Try.prog 25 #[.pointer (some ⟨B, 0, none⟩), .int .i64 n] w (Drawn (isBelow n) base B w) := by
  go_enter Try.func25, Try.ntmps25
  go_wp2_with fail
  refine (l01Byte_c base B _ hc).mono ?_
  rintro e w1 ⟨x, ⟨hx0, hx1⟩, rfl, hc1, hg⟩
  go_wp2_with fail
  go_ret
  exact ⟨_, ⟨Int.emod_nonneg _ (by omega), Int.emod_lt_of_pos _ (by omega)⟩, rfl, hc1, hg⟩

set_option maxHeartbeats 1000000 in
theorem l01Below_big (base B : Nat) (n : Int) (w : World) (hc : Cur w base B) (h0 : 256 < n) : Calls Try.prog 25 #[.pointer (some ⟨B, 0, none⟩), .int .i64 n] w (Drawn (isBelow n) base B w) := by
  go_enter Try.func25, Try.ntmps25
  go_wp2_with fail
  refine (l01Byte_c base B _ hc).mono ?_
  rintro e w1 ⟨x, ⟨hx0, hx1⟩, rfl, hc1, hg1⟩
  go_wp2_with fail
  refine (l01Byte_c base B _ hc1).mono ?_
  rintro e w2 ⟨y, ⟨hy0, hy1⟩, rfl, hc2, hg2⟩
  go_wp2_with fail
  refine (l01Byte_c base B _ hc2).mono ?_
  rintro e w3 ⟨z, ⟨hz0, hz1⟩, rfl, hc3, hg3⟩
  go_wp2_with fail
  refine (l01Byte_c base B _ hc3).mono ?_
  rintro e w4 ⟨u, ⟨hu0, hu1⟩, rfl, hc4, hg4⟩
  go_wp2_with fail
  go_ret
  exact ⟨_, ⟨Int.emod_nonneg _ (by omega), Int.emod_lt_of_pos _ (by omega)⟩, rfl, hc4, only_trans (only_trans (only_trans hg1 hg2) hg3) hg4⟩

theorem l01Below_c (base B : Nat) (n : Int) (w : World) (hc : Cur w base B) (h0 : 0 < n) : Calls Try.prog 25 #[.pointer (some ⟨B, 0, none⟩), .int .i64 n] w (Drawn (isBelow n) base B w) := by
  rcases Int.lt_or_le 256 n with h | h
  · exact l01Below_big base B n w hc h
  · exact l01Below_small base B n w hc h0 h

end Go.Proofs.Ytcibffmhlamcdaa
