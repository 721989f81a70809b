/-
  Slices of structs of integers of the call's own, with room behind them or without: read, carried on, appended to. Conditions: none.
-/
import Derived.Test.YtlpaicpjadkceaaTab
import Derived.Deep.AppendLies
namespace Go.Proofs.Ytlpaicpjadkceaa
open Go.RowKit
set_option linter.unusedVariables false

/-- v is a slice of n elements of k integers each: element i's field j is F i j; it has no element and no room, or it is a row of the call's own from block base on. -/
def OwnV (k : Nat) (t : TypeId) (w : World) (base : Nat) (v : Value) (n : Nat) (F : Nat → Nat → Int) : Prop :=
  ∃ (A : Option Addr) (cap : Nat), v = .slice A n cap ∧
    ((A = none ∧ n = 0 ∧ cap = 0) ∨ ∃ g, A = some ⟨g, 0, none⟩ ∧ base ≤ g ∧ n ≤ cap ∧ cap ≤ maxLen ∧ ∃ f, OwnC t w g (cap * k) f ∧ ∀ i, i < n → ∀ j, j < k → f (i * k + j) = .int .i64 (F i j) ∧ I64 (F i j))

section
variable {k : Nat} {t : TypeId} {w w' : World} {base : Nat} {v : Value} {n : Nat} {F : Nat → Nat → Int}
theorem OwnV.more (h : OwnV k t w base v n F) {b : Nat} (hb : b ≤ base) : OwnV k t w b v n F := by
  obtain ⟨A, cap, rfl, h | ⟨g, rfl, h1, h2⟩⟩ := h
  · exact ⟨A, cap, rfl, .inl h⟩
  · exact ⟨_, cap, rfl, .inr ⟨g, rfl, by omega, h2⟩⟩
theorem OwnV.congr (h : OwnV k t w base v n F) {F' : Nat → Nat → Int} (hF : ∀ i, i < n → ∀ j, j < k → F i j = F' i j) : OwnV k t w base v n F' := by
  obtain ⟨A, cap, rfl, h | ⟨g, rfl, h1, h2, h3, f, h4, h5⟩⟩ := h
  · exact ⟨A, cap, rfl, .inl h⟩
  · exact ⟨_, cap, rfl, .inr ⟨g, rfl, h1, h2, h3, f, h4, fun i hi j hj => by rw [← hF i hi j hj]; exact h5 i hi j hj⟩⟩
theorem OwnV.below (h : OwnV k t w base v n F) (hb : Below w.heap.size w w') : OwnV k t w' base v n F := by
  obtain ⟨A, cap, rfl, h | ⟨g, rfl, h1, h2, h3, f, h4, h5⟩⟩ := h
  · exact ⟨A, cap, rfl, .inl h⟩
  · exact ⟨_, cap, rfl, .inr ⟨g, rfl, h1, h2, h3, f, h4.later hb, h5⟩⟩
theorem OwnV.alloc (h : OwnV k t w base v n F) (o : Obj) : OwnV k t (w.alloc o) base v n F := h.below ((Below.refl _ _).alloc (Nat.le_refl _) _)
theorem OwnV.drew (h : OwnV k t w base v n F) : OwnV k t w.drew base v n F := h
theorem OwnV.drewN (h : OwnV k t w base v n F) (q : Nat) : OwnV k t (w.drewN q) base v n F := h
/-- Only block 'row' has turned, and it is none of the call's own. -/
theorem OwnV.grown {row : Option Nat} (h : OwnV k t w base v n F) (hg : w.grownBy w' row) (hne : ∀ j, row = some j → j < base) : OwnV k t w' base v n F := by
  obtain ⟨A, cap, rfl, h | ⟨g, rfl, h1, h2, h3, f, h4, h5⟩⟩ := h
  · exact ⟨A, cap, rfl, .inl h⟩
  · refine ⟨_, cap, rfl, .inr ⟨g, rfl, h1, h2, h3, f, h4.grown hg (fun e => ?_), h5⟩⟩
    have := hne g e.symm
    omega
/-- Only block 'row' has turned, and it is another than v's. -/
theorem OwnV.other {row : Option Nat} (h : OwnV k t w base v n F) (hg : w.grownBy w' row) (hne : ∀ j, row = some j → v.ownBlock ≠ some j) : OwnV k t w' base v n F := by
  obtain ⟨A, cap, rfl, h | ⟨g, rfl, h1, h2, h3, f, h4, h5⟩⟩ := h
  · exact ⟨A, cap, rfl, .inl h⟩
  · exact ⟨_, cap, rfl, .inr ⟨g, rfl, h1, h2, h3, f, h4.grown hg (fun e => hne g e.symm rfl), h5⟩⟩
theorem OwnV.set {p : Addr} (h : OwnV k t w base v n F) (hp : p.block < base) (u : Value) : OwnV k t (w.setCell p u) base v n F := by
  obtain ⟨A, cap, rfl, h | ⟨g, rfl, h1, h2, h3, f, h4, h5⟩⟩ := h
  · exact ⟨A, cap, rfl, .inl h⟩
  · exact ⟨_, cap, rfl, .inr ⟨g, rfl, h1, h2, h3, f, h4.far (show g ≠ p.block by omega) u, h5⟩⟩
/-- How it reads. -/
theorem OwnV.tab (h : OwnV k t w base v n F) : ∃ A cap, v = .slice A n cap ∧ Tab k w w.heap.size A n F := by
  obtain ⟨A, cap, rfl, ⟨_, rfl, _⟩ | ⟨g, rfl, h1, h2, h3, f, h4, h5⟩⟩ := h
  · exact ⟨A, cap, rfl, fun i hi => by omega⟩
  · refine ⟨_, cap, rfl, fun i hi => ⟨g, 0, rfl, h4.lt, fun j hj => ?_⟩⟩
    obtain ⟨e1, e2⟩ := h5 i hi j hj
    have := at_lt (k := k) (Nat.lt_of_lt_of_le hi h2) hj
    exact ⟨by rw [Nat.zero_add, h4.cell _ this, e1], e2⟩
theorem OwnV.lt (h : OwnV k t w base v n F) (hn : 0 < n) : ∃ g, v.ownBlock = some g ∧ base ≤ g ∧ g < w.heap.size := by
  obtain ⟨A, cap, rfl, ⟨_, rfl, _⟩ | ⟨g, rfl, h1, h2, h3, f, h4, h5⟩⟩ := h
  · omega
  · exact ⟨g, rfl, h1, h4.lt⟩
theorem OwnV.own_lt (h : OwnV k t w base v n F) {j : Nat} (hj : v.ownBlock = some j) : base ≤ j ∧ j < w.heap.size := by
  obtain ⟨A, cap, rfl, ⟨rfl, _⟩ | ⟨g, rfl, h1, h2, h3, f, h4, h5⟩⟩ := h
  · cases hj
  · cases hj; exact ⟨h1, h4.lt⟩
theorem OwnV.len_le (h : OwnV k t w base v n F) : ∃ A cap, v = .slice A n cap ∧ n ≤ cap := by
  obtain ⟨A, cap, rfl, ⟨_, h1, h2⟩ | ⟨g, rfl, h1, h2, _⟩⟩ := h
  · exact ⟨A, cap, rfl, by omega⟩
  · exact ⟨_, cap, rfl, h2⟩
theorem ownV_none : OwnV k t w base (.slice none 0 0) 0 F := ⟨none, 0, rfl, .inl ⟨rfl, rfl, rfl⟩⟩
theorem ownV_lit {g : Nat} (hb : base ≤ g) (hg : w.heap[g]? = some (.cells #[] t (0, 0))) : OwnV k t w base (.slice (some ⟨g, 0, none⟩) 0 0) 0 F :=
  ⟨_, 0, rfl, .inr ⟨g, rfl, hb, Nat.le_refl _, by unfold maxLen; omega, fun _ => .bool false, ⟨#[], hg, by simp, fun i hi => by omega⟩, fun i hi => by omega⟩⟩
theorem OwnR.ownV {g : Nat} (h : OwnR k t w g n F) (hb : base ≤ g) (hn : n ≤ maxLen) : OwnV k t w base (.slice (some ⟨g, 0, none⟩) n n) n F := by
  obtain ⟨f, h1, h2⟩ := h
  exact ⟨_, n, rfl, .inr ⟨g, rfl, hb, Nat.le_refl _, hn, f, h1, h2⟩⟩
theorem ownV_of_owns {xs : List Value} (h : w.ownsRow base t k v n xs) (hx : ∀ i, i < n → ∀ j, j < k → xs[i * k + j]? = some (.int .i64 (F i j)) ∧ I64 (F i j)) : OwnV k t w base v n F := by
  obtain ⟨hl, ⟨rfl, rfl⟩ | ⟨g, cap, cur, rfl, hb, hh, hc, hm, hs, ht⟩⟩ := id h
  · exact ownV_none
  · obtain ⟨f, hf, hk⟩ := ownC_of_owns h
    refine ⟨_, cap, rfl, .inr ⟨g, rfl, hb, hc, hm, f, hf, fun i hi j hj => ?_⟩⟩
    obtain ⟨e1, e2⟩ := hx i hi j hj
    have := hk (i * k + j) (at_lt hi hj)
    rw [e1] at this
    exact ⟨by injection this with this; exact this.symm, e2⟩
theorem OwnV.owns (h : OwnV k t w base v n F) : (v = .slice none 0 0 ∧ n = 0) ∨ ∃ xs, w.ownsRow base t k v n xs ∧ ∀ i, i < n → ∀ j, j < k → xs[i * k + j]? = some (.int .i64 (F i j)) ∧ I64 (F i j) := by
  obtain ⟨A, cap, rfl, ⟨rfl, rfl, rfl⟩ | ⟨g, rfl, h1, h2, h3, f, ⟨cs, h4, h5, h6⟩, h7⟩⟩ := h
  · exact .inl ⟨rfl, rfl⟩
  · have hle : n * k ≤ cap * k := Nat.mul_le_mul_right _ h2
    refine .inr ⟨cs.toList.take (n * k), ⟨by rw [List.length_take, Array.length_toList, h5]; omega, .inr ⟨g, cap, cs, rfl, h1, h4, h2, h3, h5, rfl⟩⟩, fun i hi j hj => ?_⟩
    obtain ⟨e1, e2⟩ := h7 i hi j hj
    have hlt := at_lt (k := k) hi hj
    refine ⟨?_, e2⟩
    rw [List.getElem?_take, if_pos hlt, Array.getElem?_toList, h6 _ (by omega), e1]
end

section
variable {P : Program} {k : Nat} {t : TypeId} {w : World} {base : Nat} {v : Value} {n : Nat} {F : Nat → Nat → Int}

theorem news_at {m : Nat} {news : List Value} (hl : news.length = m * k) {xs : List Value} (hx : xs.length = n * k) (hxs : ∀ i, i < n → ∀ j, j < k → xs[i * k + j]? = some (.int .i64 (F i j)) ∧ I64 (F i j))
    (hnews : ∀ i, i < m → ∀ j, j < k → news[i * k + j]? = some (.int .i64 (F (n + i) j)) ∧ I64 (F (n + i) j)) :
    ∀ i, i < n + m → ∀ j, j < k → (xs ++ news)[i * k + j]? = some (.int .i64 (F i j)) ∧ I64 (F i j) := by
  intro i hi j hj
  rcases Nat.lt_or_ge i n with h | h
  · rw [List.getElem?_append_left (by rw [hx]; exact at_lt h hj)]
    exact hxs i h j hj
  · obtain ⟨q, rfl⟩ : ∃ q, i = n + q := ⟨i - n, by omega⟩
    have e : (n + q) * k + j = n * k + (q * k + j) := by rw [Nat.add_mul]; omega
    rw [e, List.getElem?_append_right (by rw [hx]; omega), hx, show n * k + (q * k + j) - n * k = q * k + j by omega]
    exact hnews q (by omega) j hj

/-- append of m elements to such a slice. -/
theorem run_append_ownV (ty ts : TypeId) (i : TypeInfo) (z : Value) (bytes : Nat) (ht : P.underlying ts = some (.slice t)) (hi : P.info? t = some i) (hz : i.zero = some z)
    (hsize : i.size = k) (hby : i.bytes = bytes) (hzs : z.cells.size = k) (hsz : 0 < k)
    (hown : OwnV k t w base v n F) (ad : Addr) (m c : Nat) (news : List Value) (hl : news.length = m * k) (hnews : ∀ j u, news[j]? = some u → w.cell? (ad.add j) = some u) (h1 : ∀ u ∈ news, u.oneCell' = true)
    (hF : ∀ i, i < m → ∀ j, j < k → news[i * k + j]? = some (.int .i64 (F (n + i) j)) ∧ I64 (F (n + i) j))
    (h63 : n + m ≤ maxLen) (hbytes : (n + m) * bytes ≤ 140737488355328) (hbase : base ≤ w.heap.size) :
    ∃ A cap w', (Builtin.append_ #[ts, ts] ty #[v, .slice (some ad) m c]).run P w = .ok (.slice A (n + m) cap) w' ∧ OwnV k t w' base (.slice A (n + m) cap) (n + m) F ∧
      (∃ row, w.grownBy w' row ∧ ∀ j, row = some j → base ≤ j ∧ v.ownBlock = some j) := by
  subst hsize
  subst hby
  rcases hown.owns with ⟨rfl, rfl⟩ | ⟨xs, hx, hxs⟩
  · obtain ⟨v', w', hr, h2, h3, h4⟩ := run_append_own (P := P) w base ts ty t i z i.size i.bytes ht hi hz rfl rfl hzs hsz (.slice none 0 0) 0 [] (World.ownsRow_nil _ _ _ _) ad m c news hl hnews h1 h63 hbytes hbase
    have h2' := ownV_of_owns (F := F) h2 (by
      have := news_at (F := F) (n := 0) (xs := []) hl (by simp) (fun i hi => by omega) hF
      exact this)
    obtain ⟨A, cap, rfl, h5⟩ := id h2'
    exact ⟨A, cap, w', hr, h2', none, h3, fun j hj => by cases hj⟩
  · obtain ⟨v', w', hr, h2, h3, h4⟩ := run_append_own (P := P) w base ts ty t i z i.size i.bytes ht hi hz rfl rfl hzs hsz v n xs hx ad m c news hl hnews h1 h63 hbytes hbase
    have h2' := ownV_of_owns (F := F) h2 (news_at hl hx.1 hxs hF)
    obtain ⟨A, cap, rfl, h5⟩ := id h2'
    exact ⟨A, cap, w', hr, h2', v.ownBlock, h3, fun j hj => ⟨(World.ownsRow.lt hx j hj).1, hj⟩⟩

/-- What an append leaves for those who follow. -/
def Grew (w w' : World) (base : Nat) (v : Value) : Prop := ∃ row, w.grownBy w' row ∧ ∀ j, row = some j → base ≤ j ∧ v.ownBlock = some j
theorem Grew.refl : Grew w w base v := ⟨none, World.grownBy.refl _ _, fun j hj => by cases hj⟩
theorem Grew.alloc {w' : World} {o : Obj} (h : Grew (w.alloc o) w' base v) : Grew w w' base v := by
  obtain ⟨row, h1, h2⟩ := h
  exact ⟨row, only_trans (only_alloc (only_refl w row) o) h1, h2⟩
theorem Grew.drew {w' : World} (h : Grew w.drew w' base v) : Grew w w' base v := by
  obtain ⟨row, h1, h2⟩ := h
  exact ⟨row, ⟨h1.os, h1.tape, h1.output, h1.size, h1.block⟩, h2⟩
theorem OwnV.grew {w' : World} {base' : Nat} {v' : Value} (h : OwnV k t w base v n F) (hg : Grew w w' base' v') (hne : ∀ j, v'.ownBlock = some j → j < base) : OwnV k t w' base v n F := by
  obtain ⟨row, h1, h2⟩ := hg
  exact h.grown h1 fun j hj => hne j (h2 j hj).2
theorem Grew.cell {w' : World} (h : Grew w w' base v) {p : Addr} {u : Value} (hc : w.cell? p = some u) (hne : ∀ j, v.ownBlock = some j → p.block ≠ j) : w'.cell? p = some u := by
  obtain ⟨row, h1, h2⟩ := h
  exact h1.cell hc fun e => hne p.block (h2 p.block e.symm).2 rfl
theorem Grew.low {w' : World} (h : Grew w w' base v) {p : Addr} {u : Value} (hp : p.block < base) (hc : w.cell? p = some u) : w'.cell? p = some u := by
  obtain ⟨row, h1, h2⟩ := h
  exact h1.cell hc fun e => by have := (h2 p.block e.symm).1; omega
theorem Grew.lowf {w' : World} (h : Grew w w' base v) {p : Addr} (hp : p.block < base) (hw : p.block < w.heap.size) (hc : w.frozen? p = false) : w'.frozen? p = false := by
  obtain ⟨row, h1, h2⟩ := h
  exact (h1.frozen_far p hw fun e => by have := (h2 p.block e.symm).1; omega).trans hc
theorem Grew.block {w' : World} (h : Grew w w' base v) {g : Nat} (hg : g < w.heap.size) (hb : g < base) : w'.heap[g]? = w.heap[g]? := by
  obtain ⟨row, h1, h2⟩ := h
  exact h1.block g hg fun e => by have := (h2 g e.symm).1; omega
theorem Grew.size {w' : World} (h : Grew w w' base v) : w.heap.size ≤ w'.heap.size := by
  obtain ⟨row, h1, h2⟩ := h
  exact h1.size
theorem Grew.below {w' : World} (h : Grew w w' base v) {W : World} {B : Nat} (hb : Below B W w) (hB : B ≤ base) (hw : B ≤ w.heap.size) : Below B W w' := by
  obtain ⟨row, h1, h2⟩ := h
  rcases row with _ | j
  · exact hb.grown h1 hw (fun j hj => by cases hj)
  · exact hb.grown h1 hw (fun j' hj => by have := (h2 j' hj).1; omega)

/-- What is appended: m elements, the first is to be element n. -/
def NewsT (k : Nat) (w : World) (A : Option Addr) (m n : Nat) (F : Nat → Nat → Int) : Prop :=
  m = 0 ∨ ∃ (ad : Addr) (news : List Value), A = some ad ∧ news.length = m * k ∧ (∀ j u, news[j]? = some u → w.cell? (ad.add j) = some u) ∧ (∀ u ∈ news, u.oneCell' = true) ∧
    ∀ i, i < m → ∀ j, j < k → news[i * k + j]? = some (.int .i64 (F (n + i) j)) ∧ I64 (F (n + i) j)

theorem run_append_newsV (ty ts : TypeId) (i : TypeInfo) (z : Value) (bytes : Nat) (ht : P.underlying ts = some (.slice t)) (hi : P.info? t = some i) (hz : i.zero = some z)
    (hsize : i.size = k) (hby : i.bytes = bytes) (hzs : z.cells.size = k) (hsz : 0 < k) (hown : OwnV k t w base v n F) (A : Option Addr) (m c : Nat) (hnews : NewsT k w A m n F)
    (h63 : n + m ≤ maxLen) (hbytes : (n + m) * bytes ≤ 140737488355328) (hbase : base ≤ w.heap.size) :
    ∃ A' cap w', (Builtin.append_ #[ts, ts] ty #[v, .slice A m c]).run P w = .ok (.slice A' (n + m) cap) w' ∧ OwnV k t w' base (.slice A' (n + m) cap) (n + m) F ∧ Grew w w' base v := by
  rcases hnews with rfl | ⟨ad, news, rfl, n1, n2, n3, n4⟩
  · obtain ⟨A', cap', rfl, hor⟩ := id hown
    have hle : n ≤ cap' := by
      rcases hor with ⟨_, h1, h2⟩ | ⟨g, _, _, h3, _⟩ <;> omega
    refine ⟨A', cap', w, ?_, hown, Grew.refl⟩
    have hf : (Builtin.firstCells i.size 0 (.slice A 0 c)).run P w = .ok #[] w := by
      rcases A with _ | a
      · exact run_firstCells_none (P := P) w i.size 0 0 c
      · exact run_firstCells_some (P := P) w i.size 0 a 0 c [] (by simp) (by intro _ _ h'; simp at h')
    cases A' <;> simp [Builtin.append_, run_underlying ht, sizeOf, typeInfo, hi, Builtin.lenOf, hf, storeCells, hle]
  · exact run_append_ownV ty ts i z bytes ht hi hz hsize hby hzs hsz hown ad m c news n1 n2 n3 n4 h63 hbytes hbase

theorem wp_append_ownV {o : Oper} {a : Act} {K : Act → World → Prop} {Q : Exit → Act → World → Prop} (s x : Operand) (ts : TypeId)
    (ho : o.op = .call { callee := .builtin .append, args := #[s, x], argTypes := #[ts, ts] })
    (i : TypeInfo) (z : Value) (bytes : Nat) (ht : P.underlying ts = some (.slice t)) (hi : P.info? t = some i) (hz : i.zero = some z)
    (hsize : i.size = k) (hby : i.bytes = bytes) (hzs : z.cells.size = k) (hsz : 0 < k)
    (hs : a.eval s = v) (hown : OwnV k t w base v n F) (A : Option Addr) (m c : Nat) (hx : a.eval x = .slice A m c) (hnews : NewsT k w A m n F)
    (h63 : n + m ≤ maxLen) (hbytes : (n + m) * bytes ≤ 140737488355328) (hbase : base ≤ w.heap.size)
    (h : ∀ A' cap w', OwnV k t w' base (.slice A' (n + m) cap) (n + m) F → Grew w w' base v → K (a.put o.dst (.slice A' (n + m) cap)) w') : o.wp P a w K Q := by
  obtain ⟨A', cap, w', hr, h2, h3⟩ := run_append_newsV (P := P) o.type ts i z bytes ht hi hz hsize hby hzs hsz hown A m c hnews h63 hbytes hbase
  unfold Oper.wp execOp
  simp only [ho, resolve, invoke, builtin, Sem.run_bind, Sem.run_pure, Result.andThen_ok, List.map_toArray, List.map_cons, List.map_nil, hs, hx, hr]
  exact h A' cap w' h2 h3
theorem wpList_append_ownV {ops : Array Oper} {rest : List Oper} {o : Oper} {a : Act} {Q : Exit → Act → World → Prop} (hgd : o.guard = none) (s x : Operand) (ts : TypeId)
    (ho : o.op = .call { callee := .builtin .append, args := #[s, x], argTypes := #[ts, ts] })
    (i : TypeInfo) (z : Value) (bytes : Nat) (ht : P.underlying ts = some (.slice t)) (hi : P.info? t = some i) (hz : i.zero = some z)
    (hsize : i.size = k) (hby : i.bytes = bytes) (hzs : z.cells.size = k) (hsz : 0 < k)
    (hs : a.eval s = v) (hown : OwnV k t w base v n F) (A : Option Addr) (m c : Nat) (hx : a.eval x = .slice A m c) (hnews : NewsT k w A m n F)
    (h63 : n + m ≤ maxLen) (hbytes : (n + m) * bytes ≤ 140737488355328) (hbase : base ≤ w.heap.size)
    (h : ∀ A' cap w', OwnV k t w' base (.slice A' (n + m) cap) (n + m) F → Grew w w' base v → wpList P ops Q rest (a.put o.dst (.slice A' (n + m) cap)) w') : wpList P ops Q (o :: rest) a w :=
  wpList_plain hgd fun _ hK => wp_append_ownV s x ts ho i z bytes ht hi hz hsize hby hzs hsz hs hown A m c hx hnews h63 hbytes hbase fun A' cap w' h2 h3 => hK _ _ (h A' cap w' h2 h3)
theorem step_append_ownV {ops : Array Oper} {o : Oper} {a : Act} {K : Act → World → Prop} {Q : Exit → Act → World → Prop} {E : Prop} (hgd : o.guard = none) (s x : Operand) (ts : TypeId)
    (ho : o.op = .call { callee := .builtin .append, args := #[s, x], argTypes := #[ts, ts] })
    (i : TypeInfo) (z : Value) (bytes : Nat) (ht : P.underlying ts = some (.slice t)) (hi : P.info? t = some i) (hz : i.zero = some z)
    (hsize : i.size = k) (hby : i.bytes = bytes) (hzs : z.cells.size = k) (hsz : 0 < k)
    (hs : a.eval s = v) (hown : OwnV k t w base v n F) (A : Option Addr) (m c : Nat) (hx : a.eval x = .slice A m c) (hnews : NewsT k w A m n F)
    (h63 : n + m ≤ maxLen) (hbytes : (n + m) * bytes ≤ 140737488355328) (hbase : base ≤ w.heap.size)
    (h : ∀ A' cap w', OwnV k t w' base (.slice A' (n + m) cap) (n + m) F → Grew w w' base v → K (a.put o.dst (.slice A' (n + m) cap)) w') :
    if Region.wanted o (yielded ops a.tmps) = true then Oper.wp P o a w K Q else E := by
  have hw : Region.wanted o (yielded ops a.tmps) = true := by simp [Region.wanted, hgd]
  rw [if_pos hw]
  exact wp_append_ownV s x ts ho i z bytes ht hi hz hsize hby hzs hsz hs hown A m c hx hnews h63 hbytes hbase h
end

/-- A table's cells as a list: what a clone appends. -/
theorem tab_news {k : Nat} {w : World} {L b off n : Nat} {F : Nat → Nat → Int} (h : Tab k w L (some ⟨b, off, none⟩) n F) (hk : 0 < k) :
    ∃ news : List Value, news.length = n * k ∧ (∀ j u, news[j]? = some u → w.cell? ((⟨b, off, none⟩ : Addr).add j) = some u) ∧ (∀ u ∈ news, u.oneCell' = true) ∧ ∀ i, i < n → ∀ j, j < k → news[i * k + j]? = some (.int .i64 (F i j)) ∧ I64 (F i j) := by
  have e : ∀ x, (Addr.add ⟨b, off, none⟩ x) = ⟨b, off + x, none⟩ := by
    intro x
    unfold Addr.add
    split
    · rename_i h; subst h; rfl
    · rfl
  refine ⟨(List.range (n * k)).map fun j => .int .i64 (F (j / k) (j % k)), by simp, ?_, ?_, ?_⟩
  · intro j u hu
    obtain ⟨hj, e1⟩ := List.getElem?_eq_some_iff.1 hu
    simp only [List.length_map, List.length_range] at hj
    simp only [List.getElem_map, List.getElem_range] at e1
    subst e1
    have hq : j / k < n := Nat.div_lt_of_lt_mul (by rw [Nat.mul_comm]; exact hj)
    obtain ⟨b', off', e2, _, hc⟩ := h (j / k) hq
    simp only [Option.some.injEq, Addr.mk.injEq, and_true] at e2
    obtain ⟨rfl, rfl⟩ := e2
    have := (hc (j % k) (Nat.mod_lt _ hk)).1
    rw [show j / k * k + j % k = j by rw [Nat.mul_comm]; exact Nat.div_add_mod j k] at this
    exact (congrArg w.cell? (e j)).trans this
  · intro u hu
    simp only [List.mem_map] at hu
    obtain ⟨j, _, rfl⟩ := hu
    rfl
  · intro i hi j hj
    have hlt := at_lt (k := k) hi hj
    rw [List.getElem?_map, List.getElem?_range hlt]
    simp only [Option.map_some]
    have e1 : (i * k + j) / k = i := by rw [Nat.mul_comm, Nat.mul_add_div hk, Nat.div_eq_of_lt hj]; rfl
    have e2 : (i * k + j) % k = j := by rw [Nat.mul_comm, Nat.mul_add_mod, Nat.mod_eq_of_lt hj]
    obtain ⟨b', off', _, _, hc⟩ := h i hi
    exact ⟨by rw [e1, e2], (hc j hj).2⟩

theorem Tab.news {k : Nat} {w : World} {L n : Nat} {A : Option Addr} {F : Nat → Nat → Int} (h : Tab k w L A n F) (hk : 0 < k) : NewsT k w A n 0 F := by
  rcases Nat.eq_zero_or_pos n with rfl | hpos
  · exact .inl rfl
  · obtain ⟨b, off, rfl, _⟩ := h 0 hpos
    obtain ⟨news, n1, n2, n3, n4⟩ := tab_news h hk
    exact .inr ⟨_, news, rfl, n1, n2, n3, fun i hi j hj => by rw [Nat.zero_add]; exact n4 i hi j hj⟩
/-- One element in a block of its own. -/
theorem one_row (w : World) (cs : List Value) (t : TypeId) : ∀ j u, cs[j]? = some u → (w.alloc (.cells cs.toArray t)).cell? ((⟨w.heap.size, 0, none⟩ : Addr).add j) = some u :=
  World.news_of_block (B := w.heap.size) (cs := cs.toArray) (heap_alloc_new w _)
theorem news_one {k : Nat} {w : World} {g : Nat} {t : TypeId} {n : Nat} {F : Nat → Nat → Int} (cs : List Value) (hb : w.heap[g]? = some (.cells cs.toArray t (0, 0))) (hl : cs.length = k) (hF : ∀ j, j < k → cs[j]? = some (.int .i64 (F n j)) ∧ I64 (F n j)) : NewsT k w (some ⟨g, 0, none⟩) 1 n F := by
  refine .inr ⟨_, cs, rfl, by omega, World.news_of_block (B := g) (cs := cs.toArray) hb, fun u hu => ?_, fun i hi j hj => ?_⟩
  · obtain ⟨j, hj, rfl⟩ := List.mem_iff_getElem.1 hu
    have := (hF j (by omega)).1
    rw [List.getElem?_eq_getElem hj] at this
    injection this with this
    rw [this]; rfl
  · obtain rfl : i = 0 := by omega
    rw [Nat.zero_mul, Nat.zero_add, Nat.add_zero]
    exact hF j hj
/-- A row beside one more element. -/
def addRow (F : Nat → Nat → Int) (n : Nat) (G : Nat → Int) (i j : Nat) : Int := if i < n then F i j else G j
theorem addRow_old {F : Nat → Nat → Int} {n : Nat} {G : Nat → Int} {i j : Nat} (h : i < n) : addRow F n G i j = F i j := if_pos h
theorem addRow_new {F : Nat → Nat → Int} {n : Nat} {G : Nat → Int} {j : Nat} : addRow F n G n j = G j := if_neg (by omega)
theorem OwnV.addRow {k : Nat} {t : TypeId} {w : World} {base : Nat} {v : Value} {n : Nat} {F : Nat → Nat → Int} (h : OwnV k t w base v n F) (G : Nat → Int) : OwnV k t w base v n (addRow F n G) :=
  h.congr fun i hi j _ => (addRow_old hi).symm
end Go.Proofs.Ytlpaicpjadkceaa
