/-
  Merged texts: Law11e.
-/
import Derived.Test.YtnbngcagnchkdaaDoorQ11
set_option linter.unusedVariables false
set_option linter.unusedSimpArgs false
/-! commonagelaw11: does (2). (Printed by wip/gen11x.py.) -/
namespace Go.Proofs.YtnbngcagnchkdaaDoor
open Go.RowKit
variable {P : Nat → Prop} {w w' W : World} {bb mm gw gb pb gp d cap lb lc fb fc mb mc cc : Nat} {ca : Option Addr} {c : Conf} {t : Nat} {ws ws' : List Int} {wh s i to x k : Int} {hd : Hd}

end Go.Proofs.YtnbngcagnchkdaaDoor
