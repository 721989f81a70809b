/-
  slices.symMergeCmpFunc at int, all. Conditions: as in XMerge.
-/
import Derived.Test.YtcibffmhlamcdaaMergeA
import Derived.Test.YtcibffmhlamcdaaMergeB
import Derived.Test.YtcibffmhlamcdaaStable
namespace Go.Proofs.Ytcibffmhlamcdaa
open Go.RowKit
set_option linter.unusedVariables false
set_option maxRecDepth 4000

theorem symMerge_c (key : Nat → Int) (g N n cap : Nat) (c0 c1 c2 : Value) (hn : n ≤ 40) : ∀ K, Merges key g N n cap c0 c1 c2 K
  | 0 => fun a m b d w hK ham hmb => by omega
  | K + 1 => fun a m b d w hK ham hmb hb hr hd hC s1 s2 sx => by
    by_cases h1 : m = a + 1
    · exact symMerge_one key g N n cap a m b d c0 c1 c2 w hr hd hC h1 hmb hb hn s2 sx
    · by_cases h2 : b = m + 1
      · exact symMerge_last key g N n cap a m b d c0 c1 c2 w hr hd hC (by omega) h2 hb hn s1 sx
      · by_cases h3 : (a + b) / 2 < m
        · exact symMerge_manyA key g N n cap a m b K d c0 c1 c2 w (symMerge_c key g N n cap c0 c1 c2 hn K) hK hr hd hC h3 (by omega) (by omega) hb hn s1 s2 sx
        · exact symMerge_manyB key g N n cap a m b K d c0 c1 c2 w (symMerge_c key g N n cap c0 c1 c2 hn K) hK hr hd hC h3 (by omega) (by omega) hb hn s1 s2 sx

end Go.Proofs.Ytcibffmhlamcdaa
