/- Rows that come in, read at any kind: slices of what one can read. -/
import Derived.Test.YtcdnmpajobhdcaaWMore
import Derived.SliceStrings
import Derived.ChangeShapes
namespace Go.Proofs.Ytcdnmpajobhdcaa.XRow
open Go.RowKit Go.ChangeShapes Go.WideShapes Go.Proofs.YtcdnmpajobhdcaaW.PrintWords
set_option linter.unusedVariables false
set_option linter.unusedSimpArgs false
theorem add_add (a : Addr) (i j : Nat) : a.add (i + j) = (a.add i).add j := by
  unfold Addr.add
  by_cases h1 : i = 0 <;> by_cases h2 : j = 0 <;> simp [h1, h2, Nat.add_assoc]
end Go.Proofs.Ytcdnmpajobhdcaa.XRow
