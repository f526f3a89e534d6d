/-
  A field and a value (commonagelaw03.Part) among a law's arguments, opened.
-/
import Derived.Test.YtjdagameeopadaaProg
import Derived.Test.YtjdagameeopadaaWf
import Derived.Deep.Slices
import Derived.Deep.Fields
namespace Go.Proofs.Ytjdagameeopadaa
open Go.ChangeShapes Go.WideShapes Go.ChangeAt Go.RowKit Go.Deep

theorem cells_part : Try.prog.cellsOf 24 = 3 := by kernel_rfl
theorem cells_int : Try.prog.cellsOf 3 = 1 := by kernel_rfl
theorem cells_u64 : Try.prog.cellsOf 22 = 1 := by kernel_rfl

theorem open_part {H : Type} {enc : TypeId × Value → H} {w : World} {base b0 : Nat} {v : Value} {d : DataW H} {p : List MemPlace}
    (hv : Value.okWide Try.prog w .any b0 24 v) (h : DataW.Trod enc Try.prog w base (fun _ => true) true 24 v d p) :
    ∃ f m x, v = .agg #[.int .i64 f, .int .i64 m, .int .u64 x] ∧ (-9223372036854775808 ≤ f ∧ f ≤ 9223372036854775807) ∧ (-9223372036854775808 ≤ m ∧ m ≤ 9223372036854775807) ∧ 0 ≤ x ∧ x < 18446744073709551616 := by
  obtain ⟨cs, rfl, hsz⟩ := okWide_struct Try.underlying24 hv
  obtain ⟨l⟩ := cs
  have hl3 : l.length = 3 := by rw [cells_part] at hsz; simpa using hsz
  obtain ⟨fuel, hf⟩ := h
  obtain ⟨xs, n, _, _, _, hlen, hg⟩ := DataW.trod_struct Try.underlying24 hf
  match l, hl3 with
  | [c0, c1, c2], _ =>
    match xs, hlen with
    | [y0, y1, y2], _ =>
      have g0 := hg 0 _ rfl
      have g1 := hg 1 _ rfl
      have g2 := hg 2 _ rfl
      simp [Value.cells, cells_int, cells_u64] at g0 g1 g2
      obtain ⟨q0, r0, _, w0⟩ := DataW.trod_int Try.underlying3 g0
      obtain ⟨q1, r1, _, w1⟩ := DataW.trod_int Try.underlying3 g1
      obtain ⟨q2, r2, _, w2⟩ := DataW.trod_int Try.underlying22 g2
      simp at r0 r1 r2
      subst r0 r1 r2
      exact ⟨q0, q1, q2, rfl, wfi w0, wfi w1, wf64 w2⟩

end Go.Proofs.Ytjdagameeopadaa
