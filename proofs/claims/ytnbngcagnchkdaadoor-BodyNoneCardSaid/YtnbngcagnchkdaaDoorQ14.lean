/-
  Merged texts: Law11i, Law11j, Law11k.
-/
import Derived.Test.YtnbngcagnchkdaaDoorQ11
import Derived.Test.YtnbngcagnchkdaaDoorQ12
import Derived.Test.YtnbngcagnchkdaaDoorQ13
set_option linter.unusedVariables false
set_option linter.unusedSimpArgs false
/-! commonagelaw11: does (4, 5). (Printed by wip/gen11x.py.) -/
namespace Go.Proofs.YtnbngcagnchkdaaDoor
open Go.RowKit
variable {P : Nat → Prop} {w w' W : World} {bb mm gw gb pb gp d cap lb lc fb fc mb mc cc : Nat} {ca : Option Addr} {c : Conf} {t : Nat} {ws ws' : List Int} {wh s i to x k : Int} {hd : Hd}

end Go.Proofs.YtnbngcagnchkdaaDoor

/-! commonagelaw11: does. (Printed by wip/gen11x.py.) -/
namespace Go.Proofs.YtnbngcagnchkdaaDoor
open Go.RowKit
variable {P : Nat → Prop} {w w' W : World} {bb mm gw gb pb gp d cap lb lc fb fc mb mc cc : Nat} {ca : Option Addr} {c : Conf} {t : Nat} {ws ws' : List Int} {wh s i to x k : Int} {hd : Hd}

end Go.Proofs.YtnbngcagnchkdaaDoor

/-! commonagelaw11: what a loop of acts keeps. (Printed by wip/gen11k.py.) -/
namespace Go.Proofs.YtnbngcagnchkdaaDoor
open Go.RowKit
structure OAct where
  what : Int
  slot : Int
  i : Int
  to : Int
  w : Int
  hc : Int
  hr : Int
  hw : Int
instance : Inhabited OAct := ⟨⟨0, 0, 0, 0, 0, 0, 0, 0⟩⟩
def oActnth (l : List OAct) (i : Nat) : OAct := l.getD i default
def OAct.Ok (t : OAct) : Prop := (0 ≤ t.what ∧ t.what ≤ 255) ∧ (-9223372036854775808 ≤ t.slot ∧ t.slot ≤ 9223372036854775807) ∧ (-9223372036854775808 ≤ t.i ∧ t.i ≤ 9223372036854775807) ∧ (-9223372036854775808 ≤ t.to ∧ t.to ≤ 9223372036854775807) ∧ (0 ≤ t.w ∧ t.w < 18446744073709551616) ∧ (-9223372036854775808 ≤ t.hc ∧ t.hc ≤ 9223372036854775807) ∧ (-9223372036854775808 ≤ t.hr ∧ t.hr ≤ 9223372036854775807) ∧ (-9223372036854775808 ≤ t.hw ∧ t.hw ≤ 9223372036854775807)
def OActAt (w : World) (a : Option Addr) (l : List OAct) : Prop := ∀ i, i < l.length → (oActnth l i).Ok ∧ ∃ b o, a = some ⟨b, o, none⟩ ∧ w.cell? ⟨b, o + i * 8, none⟩ = some (.int .u8 (oActnth l i).what) ∧ w.cell? ⟨b, o + i * 8 + 1, none⟩ = some (.int .i64 (oActnth l i).slot) ∧ w.cell? ⟨b, o + i * 8 + 2, none⟩ = some (.int .i64 (oActnth l i).i) ∧ w.cell? ⟨b, o + i * 8 + 3, none⟩ = some (.int .i64 (oActnth l i).to) ∧ w.cell? ⟨b, o + i * 8 + 4, none⟩ = some (.int .u64 (oActnth l i).w) ∧ w.cell? ⟨b, o + i * 8 + 5, none⟩ = some (.int .i64 (oActnth l i).hc) ∧ w.cell? ⟨b, o + i * 8 + 6, none⟩ = some (.int .i64 (oActnth l i).hr) ∧ w.cell? ⟨b, o + i * 8 + 7, none⟩ = some (.int .i64 (oActnth l i).hw)
theorem OActAt.ext {w w' : World} {a : Option Addr} {l : List OAct} (h : OActAt w a l) (hx : Ext w w') : OActAt w' a l := fun i hi => by
  obtain ⟨k, b, o, e, c0, c1, c2, c3, c4, c5, c6, c7⟩ := h i hi
  exact ⟨k, b, o, e, hx.cell c0, hx.cell c1, hx.cell c2, hx.cell c3, hx.cell c4, hx.cell c5, hx.cell c6, hx.cell c7⟩
variable {P : Nat → Prop} {w0 w w' wr W : World} {bb mm gw gb pb gp zq d cap lb lc fb fc mb mc cc : Nat} {ca : Option Addr} {c : Conf} {t : Nat} {ws ws' : List Int}

/-- A body, and the document's, which lies in the box zq. -/
structure PlayB (w0 : World) (bb mm gw gb pb gp zq d cap lb lc fb fc mb mc cc : Nat) (ca : Option Addr) (c : Conf) (t : Nat) (ws : List Int) (wr : World) : Prop where
  body : BodyAt wr bb mm gw gb pb gp c t ws
  doc : DBd (fun k => k = gw ∨ k = zq) wr d lb fb mb ca c t ws
  box : BoxG wr zq [.slice (some ⟨d, 0, none⟩) c.ts.length cap, .int .i64 t, .slice (some ⟨lb, 0, none⟩) (nS c t) lc, .slice (some ⟨fb, 0, none⟩) (nG c t) fc, .slice (some ⟨mb, 0, none⟩) (nG c t) mc, .int .i64 (wordsOf c t), .slice ca c.cl.length cc]
  ext : Ext w0 wr
  lg : w0.heap.size ≤ gw
  lz : w0.heap.size ≤ zq
  nb : bb < zq ∧ mm < zq ∧ gw < zq ∧ gb < zq ∧ pb < zq ∧ gp < zq ∧ 0 < zq
theorem PlayB.go (h : PlayB w0 bb mm gw gb pb gp zq d cap lb lc fb fc mb mc cc ca c t ws wr) (hx : Ext wr w') : PlayB w0 bb mm gw gb pb gp zq d cap lb lc fb fc mb mc cc ca c t ws w' :=
  ⟨h.body.ext hx, h.doc.ext hx, h.box.ext hx, h.ext.trans hx, h.lg, h.lz, h.nb⟩
theorem PlayB.ng (h : PlayB w0 bb mm gw gb pb gp zq d cap lb lc fb fc mb mc cc ca c t ws wr) : ¬ isB gw zq := by have := h.nb; unfold isB; omega
/-- Ahead of the loop. -/
theorem PlayB.start (hb : BodyAt w bb mm gw gb pb gp c t ws) (hd : DBd (isB gw) w d lb fb mb ca c t ws) (hx : Ext w0 w) (hg : w0.heap.size ≤ gw) (hz : w.heap.size = zq) :
    PlayB w0 bb mm gw gb pb gp zq d cap lb lc fb fc mb mc cc ca c t ws (w.alloc (.cells #[.slice (some ⟨d, 0, none⟩) c.ts.length cap, .int .i64 t, .slice (some ⟨lb, 0, none⟩) (nS c t) lc, .slice (some ⟨fb, 0, none⟩) (nG c t) fc, .slice (some ⟨mb, 0, none⟩) (nG c t) mc, .int .i64 (wordsOf c t), .slice ca c.cl.length cc] 40)) := by
  have x := (Ext.refl w).alloc (.cells #[.slice (some ⟨d, 0, none⟩) c.ts.length cap, .int .i64 t, .slice (some ⟨lb, 0, none⟩) (nS c t) lc, .slice (some ⟨fb, 0, none⟩) (nG c t) fc, .slice (some ⟨mb, 0, none⟩) (nG c t) mc, .int .i64 (wordsOf c t), .slice ca c.cl.length cc] 40)
  refine ⟨hb.ext x, (hd.swap fun k hk q => ?_).ext x, BoxG.new w _ _ hz, hx.trans x, hg, by rw [← hz]; exact hx.size, by rw [← hz]; exact hb.all_lt⟩
  rcases q with q | q
  · exact q
  · omega
/-- Behind an act: body and document have turned; the latter is stored in its box. -/
theorem PlayB.step {d' cap' : Nat} (h : PlayB w0 bb mm gw gb pb gp zq d cap lb lc fb fc mb mc cc ca c t ws wr) (hb : BodyAt w' bb mm gw gb pb gp c t ws') (hd : DBd (fun k => k = gw ∨ k = zq) w' d' lb fb mb ca c t ws') (hc : Chg (isB gw) wr w') (hx : Chg (fun k => k = zq) w' W) (hz : BoxG W zq [.slice (some ⟨d', 0, none⟩) c.ts.length cap', .int .i64 t, .slice (some ⟨lb, 0, none⟩) (nS c t) lc, .slice (some ⟨fb, 0, none⟩) (nG c t) fc, .slice (some ⟨mb, 0, none⟩) (nG c t) mc, .int .i64 (wordsOf c t), .slice ca c.cl.length cc]) :
    PlayB w0 bb mm gw gb pb gp zq d' cap' lb lc fb fc mb mc cc ca c t ws' W := by
  refine ⟨hb.past hx ?_, hd.chg hx fun k e => .inr e, hz, hx.over (hc.over h.ext fun k e => ?_) fun k e => ?_, h.lg, h.lz, h.nb⟩
  · rintro k rfl; have := h.nb; omega
  · unfold isB at e; subst e; exact h.lg
  · subst e; exact h.lz

end Go.Proofs.YtnbngcagnchkdaaDoor
