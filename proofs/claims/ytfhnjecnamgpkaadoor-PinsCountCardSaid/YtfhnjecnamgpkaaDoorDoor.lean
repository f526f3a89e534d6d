/-
  What the condition 'this package variable reads as these numbers' gives: the variable's cells.
-/
import Derived.Test.YtfhnjecnamgpkaaDoorRows
import Derived.Test.YtfhnjecnamgpkaaDoorBase
import Derived.ProofKit
import Derived.LaidMore
import Derived.OpenShut
namespace Go.Proofs.YtfhnjecnamgpkaaDoor
open Go.ChangeShapes Go.WideShapes Go.ChangeAt Go.RowKit

/-- The datum of a row of numbers. -/
def nums {H : Type} (k : IntKind) (zs : List Int) : DataW H := .agg (zs.map fun z => .lit (.int k z))

theorem var_ints {P : Program} {name : String} {k : IntKind} {zs : List Int} {W : World} {t e : TypeId} {n g : Nat} (h : laidMetH P [(name, nums k zs)] W)
    (hg : P.globalNamed name = some g) (ht : (P.globals[g]?).map (·.type) = some t) (hu : P.underlying t = some (.array n e)) (he : P.underlying e = some (.int k)) (hc : P.cellsOf e = 1) (hn : zs.length = n) :
    ∀ i, i < n → W.cell? ⟨g, i, none⟩ = some (.int k (nth zs i)) := by
  rw [MakeChecks.laidMetH_plain _ _ _ (by rfl)] at h
  obtain ⟨ps, ⟨g0, t0, cs0, f0, p0, q0, hg0, ht0, hv0, hd0, _, _⟩, _, _⟩ := h
  obtain rfl := Option.some.inj (hg.symm.trans hg0)
  obtain rfl := Option.some.inj (ht.symm.trans ht0)
  obtain ⟨xs, m, rfl, hx, hlen, hn3, hel⟩ := DataW.trod_array hu hd0
  simp only [Prod.mk.injEq, nums, DataW.agg.injEq] at hx
  intro i hi
  have hi' := hel i hi
  rw [hc, Nat.mul_one] at hi'
  have hxi : i < xs.length := by omega
  rw [List.getElem?_eq_getElem hxi] at hi'
  obtain ⟨z, e1, e2, _⟩ := DataW.trod_int he hi'
  have hz : z = nth zs i := by
    have h1 := congrArg (fun l => l[i]?) hx.1
    simp only [List.getElem?_map, List.getElem?_eq_getElem hxi, List.getElem?_eq_getElem (show i < zs.length by omega), Option.map_some, Option.some.injEq] at h1
    rw [e2] at h1
    have : zs[i] = z := by simpa using h1
    rw [← this]; simp [nth, List.getD, show i < zs.length by omega]
  rw [World.var?_cell hg0 hv0 i, ← hz]
  obtain ⟨l⟩ := cs0
  have e3 : (l.drop i).take 1 = [.int k z] := e1
  have e4 : (l.drop i).head? = some (.int k z) := by
    cases hd : l.drop i with
    | nil => rw [hd] at e3; cases e3
    | cons a r => rw [hd] at e3; simp at e3; simp [e3]
  rw [List.head?_drop] at e4
  simpa using e4

end Go.Proofs.YtfhnjecnamgpkaaDoor
