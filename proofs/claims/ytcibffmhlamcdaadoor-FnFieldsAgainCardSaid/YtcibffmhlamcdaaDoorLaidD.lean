/-
  What the rows' listed variables give a walk: the table of powers of ten, the table of ASCII's white space, and that the library's error variables hold errors. Conditions: written out.
-/
import Derived.Test.YtcibffmhlamcdaaDoorRows
import Derived.Lib.LaidTab
import Derived.Lib.ItoaNum
import Derived.Lib.Space
import Derived.Stop.LaidErr
import Derived.MakeChecks
import Derived.Lib.SmallJoins
namespace Go.Proofs.YtcibffmhlamcdaaDoor
open Go.RowKit
set_option linter.unusedVariables false
set_option maxRecDepth 100000

theorem pow_g : Tryd.prog.globalNamed "internal/strconv.uint64pow10" = some 5 := by kernel_rfl
theorem spc_g : Tryd.prog.globalNamed "strings.asciiSpace" = some 0 := by kernel_rfl
/-- The table of powers of ten lies there. -/
def PowTab (w : World) : Prop := Lib.TabIs Tryd.prog w "internal/strconv.uint64pow10" .u64 Lib.pow10Tab
theorem PowTab.later {w w' : World} (h : PowTab w) (hb : Below w.heap.size w w') : PowTab w' := Joins.tab_stays pow_g h hb (Nat.le_refl _)
/-- The table of white space lies there. -/
def SpcTab (w : World) : Prop := Lib.TabIs Tryd.prog w "strings.asciiSpace" .u8 Lib.asciiSpaceTab
theorem SpcTab.later {w w' : World} (h : SpcTab w) (hb : Below w.heap.size w w') : SpcTab w' := Joins.tab_stays spc_g h hb (Nat.le_refl _)
/-- The variable g holds an error. -/
def ErrAt (g : Nat) (w : World) : Prop := ∃ te pe, w.cell? ⟨g, 0, none⟩ = some (.iface te pe)
theorem ErrAt.later {g : Nat} {w w' : World} (h : ErrAt g w) (hb : Below w.heap.size w w') : ErrAt g w' := by
  obtain ⟨te, pe, h⟩ := h
  exact ⟨te, pe, (hb.cell (p := ⟨g, 0, none⟩) (World.block_lt_of_cell? _ _ h)).trans h⟩

theorem pow_data : (Rows.laid_internal_strconv_uint64pow10 : DataW Unit) = Lib.tabData .u64 Lib.pow10Tab := by kernel_rfl
theorem spc_data : (Rows.laid_strings_asciiSpace : DataW Unit) = Lib.tabData .u8 Lib.asciiSpaceTab := by kernel_rfl
theorem pow_type : ((Tryd.prog.globals[5]?).map (·.type)).bind Tryd.prog.underlying = some (.array 20 94) := by kernel_rfl
theorem spc_type : (Tryd.prog.globals[0]?).map (·.type) = some 58 := by kernel_rfl
theorem pow_of {rest : List (String × DataW Unit)} {W : World} (h : laidMet Tryd.prog (("internal/strconv.uint64pow10", Rows.laid_internal_strconv_uint64pow10) :: rest) W) : PowTab W := by
  rw [pow_data] at h
  obtain ⟨t, h1, h2⟩ := Option.bind_eq_some_iff.1 pow_type
  have ht : t = 108 := by
    have := h1.symm.trans (show (Tryd.prog.globals[5]?).map (·.type) = some 108 by kernel_rfl)
    injection this
  subst ht
  exact Lib.tabIs_of_head pow_g h1 h2 Tryd.underlying94 (by kernel_rfl) (by kernel_rfl) h
theorem spc_of {rest : List (String × DataW Unit)} {W : World} (h : laidMet Tryd.prog (("strings.asciiSpace", Rows.laid_strings_asciiSpace) :: rest) W) : SpcTab W := by
  rw [spc_data] at h
  exact Lib.tabIs_of_head spc_g spc_type Tryd.underlying58 Tryd.underlying5 (by kernel_rfl) (by kernel_rfl) h

theorem row_err (u : TypeId) (h : Tryd.prog.typeName? 3 u = some "*errors.errorString") : u = 113 :=
  typeName_ptr_named (nm := "errors.errorString") (by kernel_rfl) (by kernel_rfl) (by decide) u h
theorem err_of {n : String} {g : Nat} {text : List UInt8} {rest : List (String × DataW Unit)} {W : World} (hg : Tryd.prog.globalNamed n = some g) (ht : (Tryd.prog.globals[g]?).map (·.type) = some 47)
    (h : laidMet Tryd.prog ((n, .iface "*errors.errorString" (.ptr (.agg [.lit (.string text)]))) :: rest) W) : ErrAt g W := by
  obtain ⟨a, s, hv, _⟩ := laid_sentinel h hg ht Tryd.underlying47 row_err Tryd.underlying113 Tryd.underlying115 rfl rfl Tryd.underlying9 (by kernel_rfl) (by kernel_rfl)
  exact ⟨_, _, by simpa using World.var?_cell hg hv 0⟩
theorem errLen_of {rest : List (String × DataW Unit)} {W : World} (h : laidMet Tryd.prog (("encoding/hex.ErrLength", Rows.laid_encoding_hex_ErrLength) :: rest) W) : ErrAt 2 W :=
  err_of (by kernel_rfl) (by kernel_rfl) h
theorem errSyn_of {rest : List (String × DataW Unit)} {W : World} (h : laidMet Tryd.prog (("strconv.ErrSyntax", Rows.laid_strconv_ErrSyntax) :: rest) W) : ErrAt 3 W :=
  err_of (by kernel_rfl) (by kernel_rfl) h

end Go.Proofs.YtcibffmhlamcdaaDoor
