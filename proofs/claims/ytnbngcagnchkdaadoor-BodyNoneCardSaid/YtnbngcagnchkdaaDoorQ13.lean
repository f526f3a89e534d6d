/-
  Merged texts: Law11f, Law11g, Law11h.
-/
import Derived.Test.YtnbngcagnchkdaaDoorQ11
set_option linter.unusedVariables false
set_option linter.unusedSimpArgs false
/-! commonagelaw11: does (3). (Printed by wip/gen11x.py.) -/
namespace Go.Proofs.YtnbngcagnchkdaaDoor
open Go.RowKit
variable {P : Nat → Prop} {w w' W : World} {bb mm gw gb pb gp d cap lb lc fb fc mb mc cc : Nat} {ca : Option Addr} {c : Conf} {t : Nat} {ws ws' : List Int} {wh s i to x k : Int} {hd : Hd}

end Go.Proofs.YtnbngcagnchkdaaDoor

/-! commonagelaw11: does (6). (Printed by wip/gen11x.py.) -/
namespace Go.Proofs.YtnbngcagnchkdaaDoor
open Go.RowKit
variable {P : Nat → Prop} {w w' W : World} {bb mm gw gb pb gp d cap lb lc fb fc mb mc cc : Nat} {ca : Option Addr} {c : Conf} {t : Nat} {ws ws' : List Int} {wh s i to x k : Int} {hd : Hd}

end Go.Proofs.YtnbngcagnchkdaaDoor

/-! commonagelaw11: does (01). (Printed by wip/gen11x.py.) -/
namespace Go.Proofs.YtnbngcagnchkdaaDoor
open Go.RowKit
variable {P : Nat → Prop} {w w' W : World} {bb mm gw gb pb gp d cap lb lc fb fc mb mc cc : Nat} {ca : Option Addr} {c : Conf} {t : Nat} {ws ws' : List Int} {wh s i to x k : Int} {hd : Hd}

end Go.Proofs.YtnbngcagnchkdaaDoor
