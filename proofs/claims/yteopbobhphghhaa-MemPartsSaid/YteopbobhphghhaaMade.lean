/-
  A row that 'make' lays. No program is named here.
-/
import Derived.Test.YteopbobhphghhaaOwnI
import Derived.Deep.OwnRows
import Derived.Laws.OwnMore
namespace Go.Proofs.Yteopbobhphghhaa
open Go.RowKit

theorem made_at {z : Value} {n i : Nat} (h : i < n) : (madeCells #[z] n)[i]? = some z := by
  have e := toList_madeCells_one z n
  rw [← Array.getElem?_toList, e]
  simp [h]

end Go.Proofs.Yteopbobhphghhaa
