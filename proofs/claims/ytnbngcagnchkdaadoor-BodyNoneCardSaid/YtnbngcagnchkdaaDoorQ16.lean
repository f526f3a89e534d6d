/-
  Merged texts: Ref07e.
-/
import Derived.Test.YtnbngcagnchkdaaDoorQ10
set_option linter.unusedVariables false
set_option linter.unusedSimpArgs false
/-! commonageref07: All. -/
namespace Go.Proofs.YtnbngcagnchkdaaDoor
open Go.RowKit

end Go.Proofs.YtnbngcagnchkdaaDoor
