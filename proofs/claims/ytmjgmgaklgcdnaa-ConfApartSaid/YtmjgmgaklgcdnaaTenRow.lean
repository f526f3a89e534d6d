/-
  A tenant (api.Tenant) among a law's arguments, opened.
-/
import Derived.Test.YtmjgmgaklgcdnaaCfgRow
namespace Go.Proofs.Ytmjgmgaklgcdnaa
open Go.ChangeShapes Go.WideShapes Go.ChangeAt Go.RowKit Go.Deep

set_option maxRecDepth 100000 in
theorem open_ten {H : Type} {enc : TypeId × Value → H} {w : World} {base b0 : Nat} {v : Value} {d : DataW H} {p : List MemPlace}
    (hv : Value.okWide Try.prog w .any b0 86 v) (h : DataW.Trod enc Try.prog w base (fun _ => true) true 86 v d p) :
    ∃ x : Ten, v = .agg #[.int .i64 x.q, .int .i64 x.tr, .int .i64 x.cp, .int .i64 x.sst] ∧ True := by
  obtain ⟨cs, rfl, hsz⟩ := okWide_struct Try.underlying86 hv
  obtain ⟨l⟩ := cs
  have hl4 : l.length = 4 := by rw [cells_ten] at hsz; simpa using hsz
  obtain ⟨fuel, hf⟩ := h
  obtain ⟨xs, n, _, _, _, hlen, hg⟩ := DataW.trod_struct Try.underlying86 hf
  match l, hl4 with
  | [c0, c1, c2, c3], _ =>
    match xs, hlen with
    | [y0, y1, y2, y3], _ =>
      have g0 := hg 0 _ rfl
      have g1 := hg 1 _ rfl
      have g2 := hg 2 _ rfl
      have g3 := hg 3 _ rfl
      simp [Value.cells, cells_int] at g0 g1 g2 g3
      obtain ⟨q0, r0, _, _⟩ := DataW.trod_int Try.underlying3 g0
      obtain ⟨q1, r1, _, _⟩ := DataW.trod_int Try.underlying3 g1
      obtain ⟨q2, r2, _, _⟩ := DataW.trod_int Try.underlying3 g2
      obtain ⟨q3, r3, _, _⟩ := DataW.trod_int Try.underlying3 g3
      simp at r0 r1 r2 r3
      subst r0 r1 r2 r3
      exact ⟨⟨q0, q1, q2, q3⟩, rfl, trivial⟩

end Go.Proofs.Ytmjgmgaklgcdnaa
