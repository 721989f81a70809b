/-
  Two drawn fractions, the second of the code with a byte ahead: append of bytes to a row of the call's own; '==' of two fractions. Conditions: written out.
-/
import Derived.Test.YtlkkbekfkgliaaaFracPlain2
import Derived.Test.YtlkkbekfkgliaaaFracCmp
import Derived.Test.YtlkkbekfkgliaaaFracAdd
import Derived.Test.YtlkkbekfkgliaaaFracMul
import Derived.Laws.StructEq
import Derived.Laws.AppendOwnNone
import Derived.Maps.AppendAt
namespace Go.Proofs.Ytlkkbekfkgliaaa
open Go.RowKit
set_option linter.unusedVariables false

theorem eqFracIn (a b c d : Int) (w : World) : (Op.equalIn 10000 23 (.agg #[.int .i64 a, .int .i64 b]) (.agg #[.int .i64 c, .int .i64 d])).run Try.prog w = .ok (a == c && b == d) w := by
  have u3 : Try.prog.underlying 3 = some (.int .i64) := by kernel_rfl
  have hS : Try.prog.underlying 23 = some (.struct (Try.prog.fieldsOf 23)) := by kernel_rfl
  have hp : Try.prog.stoodInHeld 23 = false := by kernel_rfl
  rw [show (10000 : Nat) = 9999 + 1 from rfl, run_equalIn_agg w 9999 23 _ _ hS hp]
  simp only [Program.fieldsOf, Try.underlying23]
  go_simp
  by_cases h1 : a = c <;> by_cases h2 : b = d <;> simp [h1, h2]
theorem eqFrac (a b c d : Int) (w : World) : (binOp .eql 23 (.agg #[.int .i64 a, .int .i64 b]) (.agg #[.int .i64 c, .int .i64 d])).run Try.prog w = .ok (.bool (a == c && b == d)) w := by
  rw [run_eql_struct, eqFracIn]; rfl
theorem neFrac (a b c d : Int) (w : World) : (binOp .neq 23 (.agg #[.int .i64 a, .int .i64 b]) (.agg #[.int .i64 c, .int .i64 d])).run Try.prog w = .ok (.bool (!(a == c && b == d))) w := by
  rw [run_neq_struct, eqFracIn]; rfl
theorem guardFrac (op : BinOp) (x y : Operand) (xs ys : Array Value) (w : World) : (eqGuard op 23 x y (.agg xs) (.agg ys)).run Try.prog w = .ok () w :=
  run_eqGuard_agg w op 23 x y xs ys (by kernel_rfl)

theorem info_u8 : (Try.prog.info? 5).map (fun i => (i.zero, i.size, i.bytes)) = some (some (.int .u8 0), 1, 1) := by kernel_rfl

theorem Bytes.at {w : World} {base : Nat} {ad : Addr} {m : Nat} (h : Bytes w base (some ad) m) (j : Nat) (hj : j < m) : ∃ y : Int, w.cell? (ad.add j) = some (.int .u8 y) ∧ 0 ≤ y ∧ y ≤ 255 := by
  obtain ⟨b, off, y, h1, h2, h3, h4⟩ := h j hj
  injection h1 with h1
  subst h1
  have e : (Addr.add ⟨b, off, none⟩ j) = ⟨b, off + j, none⟩ := by
    unfold Addr.add
    split
    · rename_i h; subst h; rfl
    · rfl
  exact ⟨y, by rw [e]; exact h3, h4⟩

theorem wpList_append_bytes {w : World} {ops : Array Oper} {rest : List Oper} {o : Oper} {a : Act} {Q : Exit → Act → World → Prop} (hgd : o.guard = none) (s x : Operand)
    (ho : o.op = .call { callee := .builtin .append, args := #[s, x], argTypes := #[38, 38] })
    (base : Nat) (v : Value) (hs : a.eval s = v) (hown : w.ownsRow base 5 1 v 1 [.int .u8 3]) (A : Option Addr) (n cap : Nat) (hx : a.eval x = .slice A n cap) (hb : Bytes w base A n) (hn : n ≤ 2000000) (h0 : A = none → cap = 0)
    (hbase : base ≤ w.heap.size)
    (h : ∀ A' cap' w', Bytes w' w'.heap.size A' (1 + n) → Below base w w' → wpList Try.prog ops Q rest (a.put o.dst (.slice A' (1 + n) cap')) w') : wpList Try.prog ops Q (o :: rest) a w := by
  obtain ⟨i0, hi, hz0, hz1, hz2⟩ := info_parts info_u8
  have key : ∀ (v' : Value) (w' : World) (news : List Value), news.length = n → w'.ownsRow base 5 1 v' (1 + n) ([.int .u8 3] ++ news) → (∀ j (hj : j < n), ∃ y : Int, news[j]? = some (.int .u8 y) ∧ 0 ≤ y ∧ y ≤ 255) → Below base w w' →
      ∃ A' cap', v' = .slice A' (1 + n) cap' ∧ Bytes w' w'.heap.size A' (1 + n) := by
    intro v' w' news hl ho' hv hbel
    rcases ho'.2 with ⟨rfl, h0⟩ | ⟨g, c', cur, rfl, hg, hh, hc, hm, hs', ht⟩
    · omega
    · refine ⟨_, _, rfl, ?_⟩
      intro j hj
      have hc1 := World.ownsRow.cellAt (g := g) (cap := c') ho' j (by omega)
      obtain ⟨y, hy, y0, y1⟩ : ∃ y : Int, ([Value.int .u8 3] ++ news)[j]? = some (.int .u8 y) ∧ 0 ≤ y ∧ y ≤ 255 := by
        rcases j with _ | j
        · exact ⟨3, rfl, by omega, by omega⟩
        · obtain ⟨y, hy, hy'⟩ := hv j (by omega)
          exact ⟨y, by simpa using hy, hy'⟩
      have hc2 := hc1.trans hy
      exact ⟨g, 0, y, rfl, World.block_lt_of_cell? _ _ hc2, by simpa using hc2, y0, y1⟩
  rcases A with _ | ad
  · have hn0 : n = 0 := by
      rcases Nat.eq_zero_or_pos n with h | h
      · exact h
      · obtain ⟨b, off, y, h1, _⟩ := hb 0 h; cases h1
    subst hn0
    obtain rfl := h0 rfl
    refine wpList_append_own_none hgd s x 38 ho base 5 i0 1 Try.underlying38 hi v 1 [.int .u8 3] hs hown hx ?_
    obtain ⟨A', cap', rfl, hB⟩ := key v w [] rfl hown (fun j hj => by omega) (Below.refl _ _)
    exact h A' cap' w hB (Below.refl _ _)
  · have hat := hb.at
    refine wpList_append_own w hgd s x 38 ho base 5 i0 (.int .u8 0) 1 1 Try.underlying38 hi hz0 hz1 hz2 rfl (by decide) v 1 [.int .u8 3] hs hown ad n cap ((List.range n).map fun j => (w.cell? (ad.add j)).getD (.int .u8 0)) hx (by simp) ?_ ?_ (by unfold maxLen; omega) (by omega) hbase ?_
    · intro j u hu
      rw [List.getElem?_map] at hu
      rcases Nat.lt_or_ge j n with hj | hj
      · obtain ⟨y, hy, _⟩ := hat j hj
        rw [List.getElem?_range hj] at hu
        simp [hy] at hu
        rw [hy, hu]
      · rw [List.getElem?_eq_none (by simpa using hj)] at hu
        cases hu
    · intro u hu
      obtain ⟨j, hj, rfl⟩ := List.mem_map.1 hu
      obtain ⟨y, hy, _⟩ := hat j (by simpa using hj)
      rw [hy]
      rfl
    · intro v' w' hown' hg' _
      have hbel : Below base w w' := (Below.refl base w).grown hg' hbase (fun j hj => (World.ownsRow.lt hown j hj).1)
      obtain ⟨A', cap', rfl, hB⟩ := key v' w' _ (by simp) hown' (by
        intro j hj
        obtain ⟨y, hy, hy'⟩ := hat j hj
        exact ⟨y, by rw [List.getElem?_map, List.getElem?_range hj]; simp [hy], hy'⟩) hbel
      exact h A' cap' w' hB hbel

theorem Bytes.mono {w : World} {base base' : Nat} {A : Option Addr} {n : Nat} (h : Bytes w base A n) (hb : base ≤ base') : Bytes w base' A n := by
  intro j hj
  obtain ⟨b, off, y, h1, h2, h3⟩ := h j hj
  exact ⟨b, off, y, h1, by omega, h3⟩
theorem andAlloc' {B : Nat} {w w1 : World} (h : Below B w w1) (hs : B ≤ w1.heap.size) (o : Obj) : Below B w (w1.alloc o) := h.alloc hs o
theorem row_none {w : World} {A : Option Addr} {n cap : Nat} {zs : List Int} (h : IsRow .u8 w A n cap zs) : A = none → cap = 0 := by
  rintro rfl
  rcases h with ⟨_, _, h, _⟩ | ⟨x, h, _⟩
  · exact h
  · cases h

end Go.Proofs.Ytlkkbekfkgliaaa
