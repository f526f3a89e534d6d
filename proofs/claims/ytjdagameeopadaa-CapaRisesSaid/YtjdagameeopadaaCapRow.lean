/-
  A handle (api.Cap) among a law's arguments, opened.
-/
import Derived.Test.YtjdagameeopadaaProg
import Derived.Test.YtjdagameeopadaaWf
import Derived.Test.YtjdagameeopadaaCapaP
import Derived.Deep.Slices
import Derived.Deep.Fields
namespace Go.Proofs.Ytjdagameeopadaa
open Go.ChangeShapes Go.WideShapes Go.ChangeAt Go.RowKit Go.Deep

theorem cells_cap : Try.prog.cellsOf 48 = 3 := by kernel_rfl
theorem cells_int : Try.prog.cellsOf 3 = 1 := by kernel_rfl
theorem cells_u32 : Try.prog.cellsOf 46 = 1 := by kernel_rfl

theorem open_cap {H : Type} {enc : TypeId × Value → H} {w : World} {base b0 : Nat} {v : Value} {d : DataW H} {p : List MemPlace}
    (hv : Value.okWide Try.prog w .any b0 48 v) (h : DataW.Trod enc Try.prog w base (fun _ => true) true 48 v d p) :
    ∃ c : Hnd, v = .agg #[.int .i64 c.t, .int .i64 c.i, .int .u32 c.g] ∧ 0 ≤ c.g ∧ c.g < 4294967296 := by
  obtain ⟨cs, rfl, hsz⟩ := okWide_struct Try.underlying48 hv
  obtain ⟨l⟩ := cs
  have hl3 : l.length = 3 := by rw [cells_cap] at hsz; simpa using hsz
  obtain ⟨fuel, hf⟩ := h
  obtain ⟨xs, n, _, _, _, hlen, hg⟩ := DataW.trod_struct Try.underlying48 hf
  match l, hl3 with
  | [c0, c1, c2], _ =>
    match xs, hlen with
    | [y0, y1, y2], _ =>
      have g0 := hg 0 _ rfl
      have g1 := hg 1 _ rfl
      have g2 := hg 2 _ rfl
      simp [Value.cells, cells_int, cells_u32] at g0 g1 g2
      obtain ⟨q0, r0, _, w0⟩ := DataW.trod_int Try.underlying3 g0
      obtain ⟨q1, r1, _, w1⟩ := DataW.trod_int Try.underlying3 g1
      obtain ⟨q2, r2, _, w2⟩ := DataW.trod_int Try.underlying46 g2
      simp at r0 r1 r2
      subst r0 r1 r2
      exact ⟨⟨q0, q1, q2⟩, rfl, by have := wf32 w2; show 0 ≤ q2 ∧ q2 < 4294967296; omega⟩

end Go.Proofs.Ytjdagameeopadaa
