/-
  Merged texts: Law11m.
-/
import Derived.Test.YtnbngcagnchkdaaDoorQ14
import Derived.Test.YtnbngcagnchkdaaDoorQ15
import Derived.Test.YtnbngcagnchkdaaDoorQ16
set_option linter.unusedVariables false
set_option linter.unusedSimpArgs false
/-! commonagelaw11: BodyReads. (Printed by wip/gen11o.py.) -/
namespace Go.Proofs.YtnbngcagnchkdaaDoor
open Go.RowKit
variable {w w' W : World}

theorem ba2 (w : World) {z : Nat} (hz : w.heap.size = z) (ca0 ta : Option Addr) (cc0 tc : Nat) (c : Conf) (y : OAct) :
    ∃ W, (w.alloc (.cells #[.slice ca0 c.cl.length cc0, .int .i64 c.page, .slice ta c.ts.length tc, .int .i64 c.wk, .int .i64 c.gr, .int .i64 c.gens] 25)).alloc (.cells #[.int .u8 y.what, .int .i64 y.slot, .int .i64 y.i, .int .i64 y.to, .int .u64 y.w, .int .i64 y.hc, .int .i64 y.hr, .int .i64 y.hw] 30) = W ∧ BoxG W z [.slice ca0 c.cl.length cc0, .int .i64 c.page, .slice ta c.ts.length tc, .int .i64 c.wk, .int .i64 c.gr, .int .i64 c.gens] ∧ BoxG W (z + 1) [.int .u8 y.what, .int .i64 y.slot, .int .i64 y.i, .int .i64 y.to, .int .u64 y.w, .int .i64 y.hc, .int .i64 y.hr, .int .i64 y.hw] ∧ Ext w W :=
  ⟨_, rfl, (BoxG.new w _ _ hz).ext ((Ext.refl _).alloc _), BoxG.new _ _ _ (by simp [hz]), ((Ext.refl w).alloc _).alloc _⟩
theorem WOk.store {ws ws' : List Int} {t a x k : Int} {c : Conf} (h : WOk ws) (hx : 0 ≤ x ∧ x < 18446744073709551616) (hr : storeR c ws t a x = (ws', k)) : WOk ws' := by
  unfold storeR at hr
  split at hr
  · cases hr; exact h.set _ hx
  · cases hr; exact h

end Go.Proofs.YtnbngcagnchkdaaDoor
