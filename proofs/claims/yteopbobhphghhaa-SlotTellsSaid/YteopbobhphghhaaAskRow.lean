/-
  What is asked (commonagelaw09.Asked) by value among a law's arguments, opened.
-/
import Derived.Test.YteopbobhphghhaaCfgRow
namespace Go.Proofs.Yteopbobhphghhaa
open Go.ChangeShapes Go.WideShapes Go.ChangeAt Go.RowKit Go.Deep

theorem cells_asked : Try.prog.cellsOf 61 = 4 := by kernel_rfl
theorem cells_asked_int : Try.prog.cellsOf 3 = 1 := by kernel_rfl
set_option maxRecDepth 100000 in
theorem open_asked {H : Type} {enc : TypeId × Value → H} {w : World} {base b0 : Nat} {v : Value} {d : DataW H} {p : List MemPlace}
    (hv : Value.okWide Try.prog w .any b0 61 v) (h : DataW.Trod enc Try.prog w base (fun _ => true) true 61 v d p) :
    ∃ x y z u : Int, v = .agg #[.int .i64 x, .int .i64 y, .int .i64 z, .int .i64 u] ∧ True := by
  obtain ⟨cs, rfl, hsz⟩ := okWide_struct Try.underlying61 hv
  obtain ⟨l⟩ := cs
  have hl4 : l.length = 4 := by rw [cells_asked] at hsz; simpa using hsz
  obtain ⟨fuel, hf⟩ := h
  obtain ⟨xs, n, _, _, _, hlen, hg⟩ := DataW.trod_struct Try.underlying61 hf
  match l, hl4 with
  | [c0, c1, c2, c3], _ =>
    match xs, hlen with
    | [y0, y1, y2, y3], _ =>
      have g0 := hg 0 _ rfl
      have g1 := hg 1 _ rfl
      have g2 := hg 2 _ rfl
      have g3 := hg 3 _ rfl
      simp [Value.cells, cells_asked_int] at g0 g1 g2 g3
      obtain ⟨q0, r0, _, _⟩ := DataW.trod_int Try.underlying3 g0
      obtain ⟨q1, r1, _, _⟩ := DataW.trod_int Try.underlying3 g1
      obtain ⟨q2, r2, _, _⟩ := DataW.trod_int Try.underlying3 g2
      obtain ⟨q3, r3, _, _⟩ := DataW.trod_int Try.underlying3 g3
      simp at r0 r1 r2 r3
      subst r0 r1 r2 r3
      exact ⟨q0, q1, q2, q3, rfl, trivial⟩

end Go.Proofs.Yteopbobhphghhaa
