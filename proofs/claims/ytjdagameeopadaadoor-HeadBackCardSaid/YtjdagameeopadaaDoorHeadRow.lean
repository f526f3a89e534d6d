/-
  A head (api.Head), and the package variable head.widths, among a law's arguments, opened.
-/
import Derived.Test.YtjdagameeopadaaDoorProg
import Derived.Test.YtjdagameeopadaaDoorWf
import Derived.Test.YtjdagameeopadaaDoorHead
import Derived.Test.YtjdagameeopadaaDoorDoor
import Derived.Deep.Slices
import Derived.Deep.Fields
namespace Go.Proofs.YtjdagameeopadaaDoor
open Go.ChangeShapes Go.WideShapes Go.ChangeAt Go.RowKit Go.Deep

theorem cells_head : Tryd.prog.cellsOf 23 = 3 := by kernel_rfl
theorem cells_int : Tryd.prog.cellsOf 3 = 1 := by kernel_rfl

theorem open_head {H : Type} {enc : TypeId × Value → H} {w : World} {base b0 : Nat} {v : Value} {d : DataW H} {p : List MemPlace}
    (hv : Value.okWide Tryd.prog w .any b0 23 v) (h : DataW.Trod enc Tryd.prog w base (fun _ => true) true 23 v d p) :
    ∃ c : Hd, v = .agg #[.int .i64 c.c, .int .i64 c.r, .int .i64 c.w] ∧ True := by
  obtain ⟨cs, rfl, hsz⟩ := okWide_struct Tryd.underlying23 hv
  obtain ⟨l⟩ := cs
  have hl3 : l.length = 3 := by rw [cells_head] at hsz; simpa using hsz
  obtain ⟨fuel, hf⟩ := h
  obtain ⟨xs, n, _, _, _, hlen, hg⟩ := DataW.trod_struct Tryd.underlying23 hf
  match l, hl3 with
  | [c0, c1, c2], _ =>
    match xs, hlen with
    | [y0, y1, y2], _ =>
      have g0 := hg 0 _ rfl
      have g1 := hg 1 _ rfl
      have g2 := hg 2 _ rfl
      simp [Value.cells, cells_int] at g0 g1 g2
      obtain ⟨q0, r0, _, w0⟩ := DataW.trod_int Tryd.underlying3 g0
      obtain ⟨q1, r1, _, w1⟩ := DataW.trod_int Tryd.underlying3 g1
      obtain ⟨q2, r2, _, w2⟩ := DataW.trod_int Tryd.underlying3 g2
      simp at r0 r1 r2
      subst r0 r1 r2
      exact ⟨⟨q0, q1, q2⟩, rfl, trivial⟩

theorem wid_of_laid {W : World} (h : laidMetH Tryd.prog [("commonage/head.widths", Rows.laid_commonage_head_widths)] W) : Wid W := by
  have k := var_ints (k := .i64) (zs := hdws) (t := 49) (e := 3) (n := 5) (g := 0) h (by kernel_rfl) (by kernel_rfl) Tryd.underlying49 Tryd.underlying3 (by kernel_rfl) rfl
  exact ⟨k 0 (by decide), k 1 (by decide), k 2 (by decide), k 3 (by decide), k 4 (by decide)⟩

end Go.Proofs.YtjdagameeopadaaDoor
