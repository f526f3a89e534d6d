/-
  A function value's call enters the function's body. No program is named here.
-/
import Derived.Test.YteopbobhphghhaaBase
import Derived.WalkKit
import Derived.WalkSpells
import Derived.WalkLawsBesides
namespace Go.Proofs.Yteopbobhphghhaa
open Go.RowKit

/-- A call of function g enters its body. -/
def Enters (P : Program) (g : Nat) : Prop := ∀ args w, (callFunc g args).run P w = .ok (.enter g args) w

theorem Enters.mk {P : Program} {g : Nat} {fn : Func} (h : P.funcs[g]? = some fn) (h1 : (fn.name == "runtime.NumGoroutine") = false) (h2 : fn.body.isNone = false) : Enters P g := by
  intro args w
  have h3 : ¬ fn.name = "runtime.NumGoroutine" := by simpa using h1
  have h4 : ¬ fn.body = none := by intro e; rw [e] at h2; cases h2
  unfold callFunc
  simp [go_sem, h, h3, h4]

end Go.Proofs.Yteopbobhphghhaa
