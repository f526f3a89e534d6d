/-
  Rows of small numbers among a law's arguments, opened; the package variable math/bits.deBruijn64tab.
-/
import Derived.Test.YtfhnjecnamgpkaaDoorProg
import Derived.Test.YtfhnjecnamgpkaaDoorWf
import Derived.Test.YtfhnjecnamgpkaaDoorDoor
import Derived.Test.YtfhnjecnamgpkaaDoorNext
import Derived.Deep.Slices
import Derived.Deep.Fields
namespace Go.Proofs.YtfhnjecnamgpkaaDoor
open Go.ChangeShapes Go.WideShapes Go.ChangeAt Go.RowKit Go.Deep

theorem open_u16s {H : Type} {enc : TypeId × Value → H} {w : World} {base b0 : Nat} {v : Value} {d : DataW H} {p : List MemPlace}
    (hv : Value.okWide Tryd.prog w .any b0 23 v) (h : DataW.Trod enc Tryd.prog w base (fun _ => true) true 23 v d p) :
    ∃ (a : Option Addr) (cap : Nat) (l : List Int), v = .slice a l.length cap ∧ At .u16 w a l ∧ l.length ≤ maxLen ∧ ∀ x ∈ l, 0 ≤ x ∧ x ≤ 65535 := by
  obtain ⟨a, len, cap, rfl⟩ := okWide_slice Tryd.underlying23 hv
  obtain ⟨fuel, hf⟩ := h
  have key : ∃ zs : List Int, (a = none ∧ len = 0 ∧ cap = 0 ∧ zs = []) ∨ ∃ x, a = some x ∧ len ≤ cap ∧ cap ≤ maxLen ∧ zs.length = cap ∧ (∀ i, i < zs.length → w.cell? (x.add i) = some (.int .u16 (zs.getD i 0))) ∧ ∀ n ∈ zs, (Lit.int .u16 n).wf = true := by
    rcases open_ints Tryd.underlying23 Tryd.underlying22 (by kernel_rfl) hf with ⟨hcs, _⟩ | ⟨x, l, c, zs, hcs, _, hl, hm, hz, _, hcell, hwz⟩
    · simp [Value.cells] at hcs
      obtain ⟨rfl, rfl, rfl⟩ := hcs
      exact ⟨[], .inl ⟨rfl, rfl, rfl, rfl⟩⟩
    · simp [Value.cells] at hcs
      obtain ⟨rfl, rfl, rfl⟩ := hcs
      exact ⟨zs, .inr ⟨_, rfl, hl, hm, by simpa using hz, hcell, hwz⟩⟩
  obtain ⟨zs, hz⟩ := key
  obtain ⟨h1, h2, h3, h4⟩ := At.of_row hz
  exact ⟨a, cap, zs.take len, by rw [h2], h1, by rw [h2]; exact h3, fun x hx => wf16 (h4 x hx)⟩

theorem tab_of_laid {W : World} (h : laidMetH Tryd.prog [("math/bits.deBruijn64tab", Rows.laid_math_bits_deBruijn64tab)] W) : Tab W := by
  have k := var_ints (k := .u8) (zs := Lib.deBruijn64tab.map Int.ofNat) (t := 95) (e := 5) (n := 64) (g := 0) h (by kernel_rfl) (by kernel_rfl) Tryd.underlying95 Tryd.underlying5 (by kernel_rfl) rfl
  intro j hj
  rw [k j hj]
  have hl : Lib.deBruijn64tab.length = 64 := rfl
  have e : nth (Lib.deBruijn64tab.map Int.ofNat) j = ((Lib.deBruijn64tab.getD j 0 : Nat) : Int) := by
    simp [nth, List.getD, hl, hj]
  rw [e]

end Go.Proofs.YtfhnjecnamgpkaaDoor
