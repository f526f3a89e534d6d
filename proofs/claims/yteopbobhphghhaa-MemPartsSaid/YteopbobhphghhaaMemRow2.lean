/-
  An act (commonagelaw07.Act) by value among a law's arguments, opened.
-/
import Derived.Test.YteopbobhphghhaaCfgRow
import Derived.Test.YteopbobhphghhaaMemRow
namespace Go.Proofs.Yteopbobhphghhaa
open Go.ChangeShapes Go.WideShapes Go.ChangeAt Go.RowKit Go.Deep

set_option maxRecDepth 100000 in
theorem open_mact {H : Type} {enc : TypeId × Value → H} {w : World} {base b0 : Nat} {v : Value} {d : DataW H} {p : List MemPlace}
    (hv : Value.okWide Try.prog w .any b0 36 v) (h : DataW.Trod enc Try.prog w base (fun _ => true) true 36 v d p) :
    ∃ x : MAct, v = .agg #[.int .u8 x.what, .int .i64 x.tenant, .int .i64 x.addr, .int .i64 x.many, .int .u64 x.w] ∧ is64 x.addr ∧ is64 x.many ∧ (0 ≤ x.w ∧ x.w < 18446744073709551616) := by
  obtain ⟨cs, rfl, hsz⟩ := okWide_struct Try.underlying36 hv
  obtain ⟨l⟩ := cs
  have hl5 : l.length = 5 := by rw [cells_MAct] at hsz; simpa using hsz
  obtain ⟨fuel, hf⟩ := h
  obtain ⟨xs, n, _, _, _, hlen, hg⟩ := DataW.trod_struct Try.underlying36 hf
  match l, hl5 with
  | [c0, c1, c2, c3, c4], _ =>
    match xs, hlen with
    | [y0, y1, y2, y3, y4], _ =>
      have g0 := hg 0 _ rfl
      have g1 := hg 1 _ rfl
      have g2 := hg 2 _ rfl
      have g3 := hg 3 _ rfl
      have g4 := hg 4 _ rfl
      simp [Value.cells, cells_MAct_i64, cells_MAct_u8, cells_MAct_u64] at g0 g1 g2 g3 g4
      obtain ⟨q0, r0, _, _⟩ := DataW.trod_int Try.underlying5 g0
      obtain ⟨q1, r1, _, _⟩ := DataW.trod_int Try.underlying3 g1
      obtain ⟨q2, r2, _, f2⟩ := DataW.trod_int Try.underlying3 g2
      obtain ⟨q3, r3, _, f3⟩ := DataW.trod_int Try.underlying3 g3
      obtain ⟨q4, r4, _, f4⟩ := DataW.trod_int Try.underlying34 g4
      simp at r0 r1 r2 r3 r4
      subst r0 r1 r2 r3 r4
      exact ⟨⟨q0, q1, q2, q3, q4⟩, rfl, wfi f2, wfi f3, wf64 f4⟩

end Go.Proofs.Yteopbobhphghhaa
