/-
  Merged texts: QuietB, Law10e, Law10f.
-/
import Derived.Test.YtlhajoamebfniaaDoorQ01
import Derived.Lib.QuietBelow
import Derived.BigQuiet
import Derived.Test.YtlhajoamebfniaaDoorQ12
set_option linter.unusedVariables false
set_option linter.unusedSimpArgs false
/-! Regions that draw their order, whose callees lay blocks of their own and turn nothing. No program is named here. -/
namespace Go.Proofs.YtlhajoamebfniaaDoor
open Go.RowKit

theorem reg_ext (w : World) (d : Nat) (os : Array Obj) : Ext w (Sort.grow (redrawn w d) os) := Ext.of (below_regrown w d os)
/-- A contract that ends in Ext, met in a world of the class. -/
theorem reg {P : Program} {f : FuncId} {args : Array Value} {w : World} {d : Nat} {os : Array Obj} {v : Value}
    (h : Calls P f args (Sort.grow (redrawn w d) os) fun e w' => e = .returned v ∧ Ext (Sort.grow (redrawn w d) os) w') : Calls P f args (Sort.grow (redrawn w d) os) fun e w'' => e = .returned v ∧ ∃ p : Regrown, w'' = Sort.grow (redrawn w p.d) p.os := Calls.regrown_of h
/-- .. that leaves the world as it was. -/
theorem regs {P : Program} {f : FuncId} {args : Array Value} {w : World} {d : Nat} {os : Array Obj} {v : Value}
    (h : Calls P f args (Sort.grow (redrawn w d) os) fun e w' => e = .returned v ∧ Sort.grow (redrawn w d) os = w') : Calls P f args (Sort.grow (redrawn w d) os) fun e w'' => e = .returned v ∧ ∃ p : Regrown, w'' = Sort.grow (redrawn w p.d) p.os :=
  reg (h.mono fun _ _ ⟨h1, h2⟩ => ⟨h1, h2 ▸ Ext.refl _⟩)
theorem grown_ex {w w' : World} {p : Regrown} (h : w' = Sort.grow (redrawn w p.d) p.os) : ∃ W, W = w' ∧ Ext w W := ⟨_, rfl, by rw [h]; exact reg_ext _ _ _⟩

end Go.Proofs.YtlhajoamebfniaaDoor

/-! commonagelaw10: same. -/
namespace Go.Proofs.YtlhajoamebfniaaDoor
open Go.RowKit
variable {P : Nat → Prop} {w w' : World} {b pb gp rb rg : Nat} {lb lc fb fc mb mc cc t qc : Nat} {ca qa : Option Addr} {c : Conf} {bs bs' : List Bool}

set_option maxRecDepth 100000 in
set_option maxHeartbeats 16000000 in
theorem law10_same (h : ArenaAt w b pb gp rb rg c t bs) (hd : DArn P w lb fb mb ca c t qa bs) :
    Calls Tryd.prog 23 #[.pointer (some ⟨b, 0, none⟩), .agg #[.slice (some ⟨lb, 0, none⟩) (nS c t) lc, .slice (some ⟨fb, 0, none⟩) (nG c t) fc, .slice (some ⟨mb, 0, none⟩) (nG c t) mc, .int .i64 (wordsOf c t), .slice ca c.cl.length cc, .slice qa bs.length qc]] w fun e w' => e = .returned (.bool true) ∧ Ext w w' := by
  have nb := hd.plan.ok.nS_le hd.plan.ti
  have hq64 : bs.length ≤ 16384 := by rw [hd.len]; exact nb
  obtain ⟨gq, oq, rfl, hcells⟩ := hd.row.pos h.pos
  obtain ⟨z, hz⟩ : ∃ z, w.heap.size = z := ⟨_, rfl⟩
  obtain ⟨W0, hW0⟩ : ∃ W0, w.alloc (.cells #[.slice (some ⟨lb, 0, none⟩) (nS c t) lc, .slice (some ⟨fb, 0, none⟩) (nG c t) fc, .slice (some ⟨mb, 0, none⟩) (nG c t) mc, .int .i64 (wordsOf c t), .slice ca c.cl.length cc, .slice (some ⟨gq, oq, none⟩) bs.length qc] 53) = W0 := ⟨_, rfl⟩
  have x0 : Ext w W0 := by rw [← hW0]; exact (Ext.refl _).alloc _
  have B0 : Hid (BoxAt W0 z [.slice (some ⟨lb, 0, none⟩) (nS c t) lc, .slice (some ⟨fb, 0, none⟩) (nG c t) fc, .slice (some ⟨mb, 0, none⟩) (nG c t) mc, .int .i64 (wordsOf c t), .slice ca c.cl.length cc, .slice (some ⟨gq, oq, none⟩) bs.length qc]) := Lib.hid (by rw [← hW0]; exact BoxAt.new w _ _ hz)
  have H := Lib.hid (h.ext x0); have HD := Lib.hid (hd.ext x0); have X0 := Lib.hid x0
  have HC := Lib.hid (fun i hi => x0.cell (hcells i hi))
  obtain ⟨u, hu⟩ : ∃ u, usedOf c t bs = u := ⟨_, rfl⟩
  have HU := Lib.hid hu
  clear h hd hcells nb x0 hu
  go_enter Tryd.func23, Tryd.ntmps23
  go_wp2_with fail
  refine (arena_Taken H.out).mono ?_
  rintro e w1 ⟨tb, tg, rfl, ht, l1, l2, x1⟩
  have HT := Lib.hid ht
  have X1 := Lib.hid x1
  clear ht l1 l2 x1
  go_wp2_with fail
  go_loopw [6, 7] (fun mv iv wr => ∃ i : Nat, i ≤ bs.length ∧ mv = .int .i64 ((bcnt bs i : Nat) : Int) ∧ iv = .int .i64 i ∧ Hid (Ext w1 wr)) (fun _ iv _ => bs.length - (intOf iv).toNat)
  case atStart => exact ⟨0, Nat.zero_le _, rfl, rfl, Lib.hid (Ext.refl _)⟩
  case round =>
    obtain ⟨i, hi, rfl, rfl, X⟩ := hrel
    have v5 := (X1.out.trans X.out).cell (B0.out.c 5 _ rfl)
    have bl := bcnt_le bs i
    by_cases hlt : i < bs.length
    · have ck := (X1.out.trans X.out).cell (HC.out i hlt)
      have GH := Lib.hid (fun W (x : Ext wr W) => arena_Has (bnth bs i) (H.out.ext (X1.out.trans (X.out.trans x))) (bget_nat bs i))
      have GG := Lib.hid (fun W (x : Ext wr W) => row_Get bs (bnth bs i) (HT.out.ext (X.out.trans x)) (bget_nat bs i))
      have BS := Lib.hid (bcnt_succ bs i)
      have hi0 : (0 : Int) ≤ (i : Int) := Int.natCast_nonneg _
      have hi1 : (i : Int) < (bs.length : Int) := by omega
      cases hb : bnth bs i
      · rw [hb] at ck GH GG BS
        clear hb
        go_wp2_with fail
        go_quiet ((first | (go_at_call 28; exact Calls.quiet_of_same (flip (GH.out _ ((Ext.refl _).drewN _)))) | (go_at_call 27; exact Calls.quiet_of_same (flip (GG.out _ ((Ext.refl _).drewN _))))))
        generalize bcnt bs i = m at *
        go_wp2_with fail
        go_roundw
        case rel => exact ⟨i + 1, by omega, by rw [BS.out]; rfl, by go_num, Lib.hid (X.out.drewN _)⟩
        case measure => simp [intOf]; omega
      · rw [hb] at ck GH GG BS
        clear hb
        go_wp2_with fail
        go_quiet ((first | (go_at_call 28; exact Calls.quiet_of_same (flip (GH.out _ ((Ext.refl _).drewN _)))) | (go_at_call 27; exact Calls.quiet_of_same (flip (GG.out _ ((Ext.refl _).drewN _))))))
        generalize bcnt bs i = m at *
        go_wp2_with fail
        go_roundw
        case rel => exact ⟨i + 1, by omega, by rw [BS.out]; go_num, by go_num, Lib.hid (X.out.drewN _)⟩
        case measure => simp [intOf]; omega
    · obtain rfl : i = bs.length := by omega
      obtain ⟨m, hm⟩ : ∃ m, bcnt bs bs.length = m := ⟨_, rfl⟩
      have HM := Lib.hid hm
      rw [hm]
      have v0 := (X1.out.trans X.out).cell (B0.out.c 0 _ rfl); have v1 := (X1.out.trans X.out).cell (B0.out.c 1 _ rfl); have v2 := (X1.out.trans X.out).cell (B0.out.c 2 _ rfl); have v3 := (X1.out.trans X.out).cell (B0.out.c 3 _ rfl); have v4 := (X1.out.trans X.out).cell (B0.out.c 4 _ rfl)
      have HW := Lib.hid (H.out.ext (X1.out.trans X.out)); have DW := Lib.hid (HD.out.ext (X1.out.trans X.out)); have TW := Lib.hid (HT.out.ext X.out)
      go_wp2_with fail
      have c0 := fun d os => cell_regrown v0 d os; have c1 := fun d os => cell_regrown v1 d os; have c2 := fun d os => cell_regrown v2 d os; have c3 := fun d os => cell_regrown v3 d os; have c4 := fun d os => cell_regrown v4 d os; have c5 := fun d os => cell_regrown v5 d os
      clear v0 v1 v2 v3 v4 v5 hm bl
      refine wp_region_quiet_below (by kernel_rfl) (by kernel_rfl) ?_
      repeat (any_goals (first | go_big_quiet_step ((first | (go_at_call 42; exact regs (row_Len bs (TW.out.ext (reg_ext _ _ _)))) | (go_at_call 24; exact regs (arena_Used (HW.out.ext (reg_ext _ _ _)) HU.out)) | (go_at_call 63; exact reg (ref10_Used (lc := lc) (fc := fc) (mc := mc) (cc := cc) (qc := qc) (DW.out.ext (reg_ext _ _ _)) HU.out)) | (go_at_call 30; exact regs (arena_Count m (HW.out.ext (reg_ext _ _ _)) HM.out)) | (go_at_call 28; first | exact regs (arena_Has false (HW.out.ext (reg_ext _ _ _)) (bget_no (by omega))) | fail))) | quiet_step ((first | (go_at_call 42; exact regs (row_Len bs (TW.out.ext (reg_ext _ _ _)))) | (go_at_call 24; exact regs (arena_Used (HW.out.ext (reg_ext _ _ _)) HU.out)) | (go_at_call 63; exact reg (ref10_Used (lc := lc) (fc := fc) (mc := mc) (cc := cc) (qc := qc) (DW.out.ext (reg_ext _ _ _)) HU.out)) | (go_at_call 30; exact regs (arena_Count m (HW.out.ext (reg_ext _ _ _)) HM.out)) | (go_at_call 28; first | exact regs (arena_Has false (HW.out.ext (reg_ext _ _ _)) (bget_no (by omega))) | fail)))))
      refine wpQuiet_nil ?_
      intro _ hw'
      obtain ⟨⟨dq, osq⟩, hw''⟩ := hw'
      obtain ⟨WQ, hWQ⟩ := grown_ex hw''
      have xq := hWQ.2
      obtain rfl := hWQ.1
      clear hw'' hWQ
      go_wp2_with fail
      go_ret
      exact ⟨rfl, X0.out.trans (X1.out.trans (X.out.trans xq))⟩
end Go.Proofs.YtlhajoamebfniaaDoor

/-! What the loops of acts of commonagelaw10 keep; ArenaPlays. -/
namespace Go.Proofs.YtlhajoamebfniaaDoor
open Go.RowKit
variable {P : Nat → Prop} {w0 w w' wr W : World} {b pb gp rb rg zq : Nat} {lb lc fb fc mb mc cc t qc : Nat} {ca qa : Option Addr} {c : Conf} {bs bs' : List Bool}

/-- An arena's blocks, and the box of the document's. -/
def arZ (b rg zq k : Nat) : Prop := arB b rg k ∨ k = zq
theorem DArn.swap {Q : Nat → Prop} (h : DArn P w lb fb mb ca c t qa bs) (hq : ∀ k, Q k → P k ∨ w.heap.size ≤ k) : DArn Q w lb fb mb ca c t qa bs := by
  obtain ⟨l1, l2, l3, l4, l5⟩ := h.lt
  refine ⟨h.plan, ⟨fun q => ?_, fun q => ?_, fun q => ?_⟩, fun x o e q => ?_, h.row, fun x o e q => ?_, h.len⟩
  · rcases hq _ q with q | q
    · exact h.np.1 q
    · omega
  · rcases hq _ q with q | q
    · exact h.np.2.1 q
    · omega
  · rcases hq _ q with q | q
    · exact h.np.2.2 q
    · omega
  · rcases hq _ q with q | q
    · exact h.nc x o e q
    · have := l4 x o e; omega
  · rcases hq _ q with q | q
    · exact h.nq x o e q
    · have := l5 x o e; omega

/-- What the loop of acts keeps: an arena and the document's, which lies in the box zq. -/
structure PlayA (w0 : World) (b pb gp rb rg zq lb lc fb fc mb mc : Nat) (ca : Option Addr) (cc : Nat) (c : Conf) (t : Nat) (qa : Option Addr) (bs : List Bool) (qc : Nat) (wr : World) : Prop where
  own : OwnA w0 wr b pb gp rb rg c t bs
  doc : DArn (arZ b rg zq) wr lb fb mb ca c t qa bs
  box : BoxAt wr zq [.slice (some ⟨lb, 0, none⟩) (nS c t) lc, .slice (some ⟨fb, 0, none⟩) (nG c t) fc, .slice (some ⟨mb, 0, none⟩) (nG c t) mc, .int .i64 (wordsOf c t), .slice ca c.cl.length cc, .slice qa bs.length qc]
  lz : w0.heap.size ≤ zq
  nb : b < zq ∧ pb < zq ∧ gp < zq ∧ rb < zq ∧ rg < zq ∧ 0 < zq
theorem PlayA.go (h : PlayA w0 b pb gp rb rg zq lb lc fb fc mb mc ca cc c t qa bs qc wr) (hx : Ext wr w') : PlayA w0 b pb gp rb rg zq lb lc fb fc mb mc ca cc c t qa bs qc w' :=
  ⟨h.own.go hx, h.doc.ext hx, h.box.ext hx, h.lz, h.nb⟩
theorem PlayA.lt (h : PlayA w0 b pb gp rb rg zq lb lc fb fc mb mc ca cc c t qa bs qc wr) : ∀ k, arZ b rg zq k → k < wr.heap.size := by
  have l := h.own.ar.lt
  rintro k ((rfl | rfl) | rfl)
  · exact l.1
  · exact l.2.2.2.2
  · exact h.box.lt
theorem arZ_ar (k : Nat) (h : arB b rg k) : arZ b rg zq k := .inl h
theorem OwnA.off (h : OwnA w0 w b pb gp rb rg c t bs) {x : Nat} (nb : b < x ∧ pb < x ∧ gp < x ∧ rb < x ∧ rg < x ∧ 0 < x) (hx : Chg (fun k => k = x) w w') (hl : w0.heap.size ≤ x) : OwnA w0 w' b pb gp rb rg c t bs :=
  ⟨h.ar.chg hx (by omega) ⟨by omega, by omega⟩ ⟨by omega, by omega⟩, h.tab.chg hx (by omega), hx.over h.ext fun k e => by rw [e]; exact hl, h.lb, h.lg⟩
/-- Behind an act: the arena and the document's have turned; the latter is stored in its box. -/
theorem PlayA.step (h : PlayA w0 b pb gp rb rg zq lb lc fb fc mb mc ca cc c t qa bs qc wr) {qa' : Option Addr} {qc' : Nat} (ha : ArenaAt w' b pb gp rb rg c t bs') (hd : DArn (arZ b rg zq) w' lb fb mb ca c t qa' bs') (hc : Chg (arB b rg) wr w') :
    ∀ W, W = (((((w'.setCell ⟨zq, 0, none⟩ (.slice (some ⟨lb, 0, none⟩) (nS c t) lc)).setCell ⟨zq, 1, none⟩ (.slice (some ⟨fb, 0, none⟩) (nG c t) fc)).setCell ⟨zq, 2, none⟩ (.slice (some ⟨mb, 0, none⟩) (nG c t) mc)).setCell ⟨zq, 3, none⟩ (.int .i64 (wordsOf c t))).setCell ⟨zq, 4, none⟩ (.slice ca c.cl.length cc)).setCell ⟨zq, 5, none⟩ (.slice qa' bs'.length qc') →
      PlayA w0 b pb gp rb rg zq lb lc fb fc mb mc ca cc c t qa' bs' qc' W := by
  intro W hW
  have nz : ¬ arB b rg zq := by have := h.nb; unfold arB; omega
  have hb := h.box.chg hc nz
  obtain ⟨⟨q0, q1, q2, q3, q4, q5⟩, qc6⟩ := set6 (.slice (some ⟨lb, 0, none⟩) (nS c t) lc) (.slice (some ⟨fb, 0, none⟩) (nG c t) fc) (.slice (some ⟨mb, 0, none⟩) (nG c t) mc) (.int .i64 (wordsOf c t)) (.slice ca c.cl.length cc) (.slice qa' bs'.length qc') (hb.c 0 _ rfl) (hb.c 1 _ rfl) (hb.c 2 _ rfl) (hb.c 3 _ rfl) (hb.c 4 _ rfl) (hb.c 5 _ rfl) W hW
  refine ⟨(h.own.turn ha hc).off h.nb qc6 h.lz, hd.chg qc6 fun k e => .inr e, ⟨fun i x e => ?_, fun i => ?_, ?_⟩, h.lz, h.nb⟩
  · match i, e with
    | 0, e => cases e; exact q0
    | 1, e => cases e; exact q1
    | 2, e => cases e; exact q2
    | 3, e => cases e; exact q3
    | 4, e => cases e; exact q4
    | 5, e => cases e; exact q5
  · have := hb.f i
    rw [hW]; simpa using this
  · exact Nat.lt_of_lt_of_le hb.lt qc6.size
/-- Ahead of the loop. -/
theorem PlayA.start (ho : OwnA w0 w b pb gp rb rg c t bs) (hd : DArn (arB b rg) w lb fb mb ca c t qa bs) (hz : w.heap.size = zq) (u : TypeId) :
    PlayA w0 b pb gp rb rg zq lb lc fb fc mb mc ca cc c t qa bs qc (w.alloc (.cells #[.slice (some ⟨lb, 0, none⟩) (nS c t) lc, .slice (some ⟨fb, 0, none⟩) (nG c t) fc, .slice (some ⟨mb, 0, none⟩) (nG c t) mc, .int .i64 (wordsOf c t), .slice ca c.cl.length cc, .slice qa bs.length qc] u)) := by
  have x := (Ext.refl w).alloc (.cells #[.slice (some ⟨lb, 0, none⟩) (nS c t) lc, .slice (some ⟨fb, 0, none⟩) (nG c t) fc, .slice (some ⟨mb, 0, none⟩) (nG c t) mc, .int .i64 (wordsOf c t), .slice ca c.cl.length cc, .slice qa bs.length qc] u)
  have l := ho.ar.lt
  have tb : 0 < w.heap.size := cell_lt (ho.tab 0 (by decide))
  exact ⟨ho.go x, (hd.swap (Q := arZ b rg zq) fun k q => by
    rcases q with q | q
    · exact .inl q
    · right; omega).ext x, BoxAt.new w _ _ hz, by rw [← hz]; exact ho.ext.size, by omega⟩

theorem far6 {x y o : Nat} {v v0 v1 v2 v3 v4 v5 : Value} (h : x ≠ y) (hc : w.cell? ⟨y, o, none⟩ = some v) : ((((((w.setCell ⟨x, 0, none⟩ v0).setCell ⟨x, 1, none⟩ v1).setCell ⟨x, 2, none⟩ v2).setCell ⟨x, 3, none⟩ v3).setCell ⟨x, 4, none⟩ v4).setCell ⟨x, 5, none⟩ v5).cell? ⟨y, o, none⟩ = some v := by
  rw [cell_far _ _ _ _ h, cell_far _ _ _ _ h, cell_far _ _ _ _ h, cell_far _ _ _ _ h, cell_far _ _ _ _ h, cell_far _ _ _ _ h]; exact hc

set_option maxRecDepth 100000 in
set_option maxHeartbeats 16000000 in
theorem law10_ArenaPlays {ca0 ta la : Option Addr} {cc0 tc lcc : Nat} (c : Conf) (tn : Int) (l : List AAct) (w : World) (hT : Tab w) (h : CfgAt w ca0 ta cc0 tc c) (htn : 0 ≤ tn ∧ tn ≤ 255) (hl : AActAt w la l) (hlm : l.length ≤ maxLen) :
    Calls Tryd.prog 4 #[.agg #[.slice ca0 c.cl.length cc0, .int .i64 c.page, .slice ta c.ts.length tc, .int .i64 c.wk, .int .i64 c.gr, .int .i64 c.gens], .int .u8 tn, .slice la l.length lcc] w fun e w' => e = .returned (.bool true) ∧ Ext w w' := by
  have H := Lib.hid h; have HL := Lib.hid hl; have HT := Lib.hid hT
  unfold maxLen at hlm
  clear h hl hT
  obtain ⟨z, hz⟩ : ∃ z, w.heap.size = z := ⟨_, rfl⟩
  have HZ := Lib.hid hz
  obtain ⟨W0, hW0⟩ : ∃ W0, w.alloc (.cells #[.slice ca0 c.cl.length cc0, .int .i64 c.page, .slice ta c.ts.length tc, .int .i64 c.wk, .int .i64 c.gr, .int .i64 c.gens] 25) = W0 := ⟨_, rfl⟩
  have X0 : Hid (Ext w W0) := Lib.hid (by rw [← hW0]; exact (Ext.refl _).alloc _)
  have B0 : Hid (BoxAt W0 z [.slice ca0 c.cl.length cc0, .int .i64 c.page, .slice ta c.ts.length tc, .int .i64 c.wk, .int .i64 c.gr, .int .i64 c.gens]) := Lib.hid (by rw [← hW0]; exact BoxAt.new w _ _ hz)
  have b0 := B0.out.c 0 _ rfl; have b1 := B0.out.c 1 _ rfl; have b2 := B0.out.c 2 _ rfl; have b3 := B0.out.c 3 _ rfl; have b4 := B0.out.c 4 _ rfl; have b5 := B0.out.c 5 _ rfl
  by_cases hg : bigA c = false ∧ kcheck c = 0
  · obtain ⟨hg, h0⟩ := hg
    have ho := kcheck_ok h0
    obtain ⟨t, hmod, hi⟩ := mod_nat (tn := tn) ho.head.2.2.1
    have CM := Lib.hid (law10_made c tn (HT.out.ext X0.out) hg h0 htn hi hmod (H.out.ext X0.out))
    clear hg h0 ho hmod htn
    go_enter Tryd.func4, Tryd.ntmps4
    go_wp2_with fail
    clear b0 b1 b2 b3 b4 b5
    refine CM.out.mono ?_
    rintro e w1 ⟨b, pb, gp, rb, rg, lb, lc, fb, fc, mb, mc, ca, cc, qa, qc, rfl, ho, hd⟩
    have HO := Lib.hid ho; have HD := Lib.hid hd
    clear ho hd CM
    go_wp2_with fail
    obtain ⟨zq, hzq⟩ : ∃ zq, w1.heap.size = zq := ⟨_, rfl⟩
    obtain ⟨W1, hW1⟩ : ∃ W, w1.alloc (.cells #[.slice (some ⟨lb, 0, none⟩) (nS c t) lc, .slice (some ⟨fb, 0, none⟩) (nG c t) fc, .slice (some ⟨mb, 0, none⟩) (nG c t) mc, .int .i64 (wordsOf c t), .slice ca c.cl.length cc, .slice qa (nS c t) qc] 53) = W := ⟨_, rfl⟩
    have HP : Hid (PlayA W0 b pb gp rb rg zq lb lc fb fc mb mc ca cc c t qa (List.replicate (nS c t) false) qc W1) := Lib.hid (by
      have := PlayA.start (lc := lc) (fc := fc) (mc := mc) (cc := cc) (qc := qc) HO.out HD.out hzq 53
      rw [List.length_replicate] at this
      rw [hW1] at this; exact this)
    rw [hW1, hzq]
    clear HO HD hW1 hzq
    go_loopw [9] (fun kv wr => ∃ (k : Nat) (bs : List Bool) (qa : Option Addr) (qc : Nat), k ≤ l.length ∧ k ≤ 80 ∧ kv = .int .i64 k ∧ Hid (PlayA W0 b pb gp rb rg zq lb lc fb fc mb mc ca cc c t qa bs qc wr)) (fun kv _ => 80 - (intOf kv).toNat)
    case atStart => exact ⟨0, _, qa, qc, Nat.zero_le _, Nat.zero_le _, rfl, HP⟩
    case round =>
      clear HP
      obtain ⟨k, bs, qa, qc, hk, hk80, rfl, PR⟩ := hrel
      rcases (show (k < l.length ∧ k < 80) ∨ (k < l.length ∧ k = 80) ∨ k = l.length by omega) with ⟨hlt, h80⟩ | ⟨hlt, rfl⟩ | rfl
      · obtain ⟨ok, ab, ao, rfl, c0, c1⟩ := HL.out k hlt
        have OK := Lib.hid ok
        have la0 : ab < w.heap.size := cell_lt c0
        have XW := Lib.hid (X0.out.trans PR.out.own.ext)
        replace c0 := XW.out.cell c0; replace c1 := XW.out.cell c1
        clear ok
        generalize aActnth l k = y at *
        have q0 := PR.out.box.c 0 _ rfl; have q1 := PR.out.box.c 1 _ rfl; have q2 := PR.out.box.c 2 _ rfl; have q3 := PR.out.box.c 3 _ rfl; have q4 := PR.out.box.c 4 _ rfl; have q5 := PR.out.box.c 5 _ rfl
        have nbz := Lib.hid PR.out.nb
        have lz : zq < wr.heap.size := PR.out.box.lt
        have la : ab < wr.heap.size := cell_lt c0
        have na : ¬ arB b rg ab := by have h1 := PR.out.own.lb; have h2 := PR.out.own.lg; have := X0.out.size; unfold arB; omega
        have nq : ¬ arB b rg zq := by have := nbz.out; unfold arB; omega
        have n9 : ¬ arB b rg wr.heap.size := by have := nbz.out; unfold arB; omega
        have z9 : wr.heap.size ≠ zq := by omega
        have a9 : wr.heap.size ≠ ab := by omega
        have hk0 : (0 : Int) ≤ (k : Int) := Int.natCast_nonneg _
        have hk1 : (k : Int) < (l.length : Int) := by omega
        go_wp2_with fail
        go_region_held3 (fun w' => w'.cell? ⟨zq, 0, none⟩ = some (.slice (some ⟨lb, 0, none⟩) (nS c t) lc) ∧ w'.cell? ⟨zq, 1, none⟩ = some (.slice (some ⟨fb, 0, none⟩) (nG c t) fc) ∧ w'.cell? ⟨zq, 2, none⟩ = some (.slice (some ⟨mb, 0, none⟩) (nG c t) mc) ∧ w'.cell? ⟨zq, 3, none⟩ = some (.int .i64 (wordsOf c t)) ∧ w'.cell? ⟨zq, 4, none⟩ = some (.slice ca c.cl.length cc) ∧ w'.cell? ⟨zq, 5, none⟩ = some (.slice qa bs.length qc) ∧ w'.cell? ⟨ab, ao + k * 2, none⟩ = some (.int .u8 y.what) ∧ w'.cell? ⟨ab, ao + k * 2 + 1, none⟩ = some (.int .i64 y.n))
          ((first | with_reducible exact ⟨k0, k1, k2, k3, k4, k5, k6, k7⟩ | with_reducible exact ⟨cell_alloc k0 _, cell_alloc k1 _, cell_alloc k2 _, cell_alloc k3 _, cell_alloc k4 _, cell_alloc k5 _, cell_alloc k6 _, cell_alloc k7 _⟩ | with_reducible exact ⟨far6 z9 k0, far6 z9 k1, far6 z9 k2, far6 z9 k3, far6 z9 k4, far6 z9 k5, far6 a9 k6, far6 a9 k7⟩ | go_keep))
          ((go_at_call 22; refine (law10_does (P := arZ b rg zq) (lc := lc) (fc := fc) (mc := mc) (cc := cc) (qc := qc) y (PR.out.own.ar.ext ?_) (PR.out.doc.ext ?_) (PR.out.own.tab.ext ?_) ?_ arZ_ar OK.out).mono ?_; (repeat (first | with_reducible exact Ext.refl _ | with_reducible refine Ext.drew ?_ | with_reducible refine Ext.drewN ?_ _ | with_reducible refine Ext.alloc ?_ _)); (repeat (first | with_reducible exact Ext.refl _ | with_reducible refine Ext.drew ?_ | with_reducible refine Ext.drewN ?_ _ | with_reducible refine Ext.alloc ?_ _)); (repeat (first | with_reducible exact Ext.refl _ | with_reducible refine Ext.drew ?_ | with_reducible refine Ext.drewN ?_ _ | with_reducible refine Ext.alloc ?_ _)); (exact fun k hk => Nat.lt_of_lt_of_le (PR.out.lt k hk) (Ext.size (by repeat (first | with_reducible exact Ext.refl _ | with_reducible refine Ext.drew ?_ | with_reducible refine Ext.drewN ?_ _ | with_reducible refine Ext.alloc ?_ _)))); rintro e w6 ⟨bs2, qa2, qc2, rfl, ha6, hd6, hc6, hl6, ql6⟩; clear hl6; (first | (have bb := ((BoxAt.new wr [.slice none 0 0, .slice none 0 0, .slice none 0 0, .int .i64 0, .slice none 0 0, .slice none 0 0] 53 rfl).ext (by first | with_reducible exact Ext.refl _ | with_reducible exact (Ext.refl _).drew | with_reducible exact (Ext.refl _).drewN _ | fail)).chg hc6 n9; have bb0 := bb.c 0 _ rfl; have bb1 := bb.c 1 _ rfl; have bb2 := bb.c 2 _ rfl; have bb3 := bb.c 3 _ rfl; have bb4 := bb.c 4 _ rfl; have bb5 := bb.c 5 _ rfl; have bf0 := bb.f 0; have bf1 := bb.f 1; have bf2 := bb.f 2; have bf3 := bb.f 3; have bf4 := bb.f 4; have bf5 := bb.f 5) | skip); have kb := (PR.out.box.ext (by repeat (first | with_reducible exact Ext.refl _ | with_reducible refine Ext.drew ?_ | with_reducible refine Ext.drewN ?_ _ | with_reducible refine Ext.alloc ?_ _))).chg hc6 nq; have k0 := kb.c 0 _ rfl; have k1 := kb.c 1 _ rfl; have k2 := kb.c 2 _ rfl; have k3 := kb.c 3 _ rfl; have k4 := kb.c 4 _ rfl; have k5 := kb.c 5 _ rfl; have k6 : w6.cell? ⟨ab, ao + k * 2, none⟩ = _ := (by first | exact hc6.cell (p := ⟨ab, ao + k * 2, none⟩) na c0 | exact hc6.cell (p := ⟨ab, ao + k * 2, none⟩) na (cell_alloc c0 _) | fail); have k7 : w6.cell? ⟨ab, ao + k * 2 + 1, none⟩ = _ := (by first | exact hc6.cell (p := ⟨ab, ao + k * 2 + 1, none⟩) na c1 | exact hc6.cell (p := ⟨ab, ao + k * 2 + 1, none⟩) na (cell_alloc c1 _) | fail)))
        · obtain ⟨yb, hyb⟩ : ∃ yb, w6.heap.size = yb := ⟨_, rfl⟩
          obtain ⟨W7, hW7⟩ : ∃ W, w6.alloc (.cells #[.slice (some ⟨lb, 0, none⟩) (nS c t) lc, .slice (some ⟨fb, 0, none⟩) (nG c t) fc, .slice (some ⟨mb, 0, none⟩) (nG c t) mc, .int .i64 (wordsOf c t), .slice ca c.cl.length cc, .slice qa2 bs2.length qc2] 53) = W := ⟨_, rfl⟩
          have x7 : Ext w6 W7 := by rw [← hW7]; exact (Ext.refl _).alloc _
          have BX : Hid (BoxAt W7 yb [.slice (some ⟨lb, 0, none⟩) (nS c t) lc, .slice (some ⟨fb, 0, none⟩) (nG c t) fc, .slice (some ⟨mb, 0, none⟩) (nG c t) mc, .int .i64 (wordsOf c t), .slice ca c.cl.length cc, .slice qa2 bs2.length qc2]) := Lib.hid (by rw [← hW7]; exact BoxAt.new w6 _ _ hyb)
          have HA7 := Lib.hid (ha6.ext x7); have HD7 := Lib.hid (hd6.ext x7)
          have HC7 : Hid (Chg (arB b rg) wr W7) := Lib.hid (((Chg.of_ext (by repeat (first | with_reducible exact Ext.refl _ | with_reducible refine Ext.drew ?_ | with_reducible refine Ext.drewN ?_ _ | with_reducible refine Ext.alloc ?_ _))).trans hc6).trans (Chg.of_ext x7))
          have z6 : zq < yb := by have := kb.lt; omega
          have nyq : ¬ zq = yb := by omega
          rw [hW7, hyb]
          clear hW7 hyb x7 ha6 hd6 hc6 ql6
          clear k0 k1 k2 k3 k4 k5 k6 k7 kb
          have p0 := BX.out.c 0 _ rfl; have p1 := BX.out.c 1 _ rfl; have p2 := BX.out.c 2 _ rfl; have p3 := BX.out.c 3 _ rfl; have p4 := BX.out.c 4 _ rfl; have p5 := BX.out.c 5 _ rfl
          go_wp2_with fail
          clear p0 p1 p2 p3 p4 p5
          refine (law10_same (lc := lc) (fc := fc) (mc := mc) (cc := cc) (qc := qc2) HA7.out HD7.out).mono ?_
          rintro e w8 ⟨rfl, x8⟩
          have bx8 := BX.out.ext x8
          have p0 := bx8.c 0 _ rfl; have p1 := bx8.c 1 _ rfl; have p2 := bx8.c 2 _ rfl; have p3 := bx8.c 3 _ rfl; have p4 := bx8.c 4 _ rfl; have p5 := bx8.c 5 _ rfl
          have zb := (PR.out.box.chg HC7.out nq).ext x8
          have z0 := zb.c 0 _ rfl; have z1 := zb.c 1 _ rfl; have z2 := zb.c 2 _ rfl; have z3 := zb.c 3 _ rfl; have z4 := zb.c 4 _ rfl; have z5 := zb.c 5 _ rfl
          have y0 := zb.f 0; have y1 := zb.f 1; have y2 := zb.f 2; have y3 := zb.f 3; have y4 := zb.f 4; have y5 := zb.f 5
          have PS := Lib.hid (PR.out.step (qc' := qc2) (HA7.out.ext x8) (HD7.out.ext x8) (HC7.out.trans (Chg.of_ext x8)) _ rfl)
          clear bx8 zb q0 q1 q2 q3 q4 q5
          go_wp2_with fail
          go_roundw
          case rel => exact ⟨k + 1, bs2, qa2, qc2, by omega, by omega, by go_num, PS⟩
          case measure => simp [intOf] <;> omega
        · obtain ⟨W7, hW7⟩ : ∃ W, (((((w6.setCell ⟨wr.heap.size, 0, none⟩ (.slice (some ⟨lb, 0, none⟩) (nS c t) lc)).setCell ⟨wr.heap.size, 1, none⟩ (.slice (some ⟨fb, 0, none⟩) (nG c t) fc)).setCell ⟨wr.heap.size, 2, none⟩ (.slice (some ⟨mb, 0, none⟩) (nG c t) mc)).setCell ⟨wr.heap.size, 3, none⟩ (.int .i64 (wordsOf c t))).setCell ⟨wr.heap.size, 4, none⟩ (.slice ca c.cl.length cc)).setCell ⟨wr.heap.size, 5, none⟩ (.slice qa2 bs2.length qc2) = W := ⟨_, rfl⟩
          obtain ⟨⟨e0, e1, e2, e3, e4, e5⟩, qc6⟩ := set6 (.slice (some ⟨lb, 0, none⟩) (nS c t) lc) (.slice (some ⟨fb, 0, none⟩) (nG c t) fc) (.slice (some ⟨mb, 0, none⟩) (nG c t) mc) (.int .i64 (wordsOf c t)) (.slice ca c.cl.length cc) (.slice qa2 bs2.length qc2) bb0 bb1 bb2 bb3 bb4 bb5 _ hW7.symm
          have BX : Hid (BoxAt W7 wr.heap.size [.slice (some ⟨lb, 0, none⟩) (nS c t) lc, .slice (some ⟨fb, 0, none⟩) (nG c t) fc, .slice (some ⟨mb, 0, none⟩) (nG c t) mc, .int .i64 (wordsOf c t), .slice ca c.cl.length cc, .slice qa2 bs2.length qc2]) := Lib.hid (by
            refine ⟨fun i x e => ?_, fun i => ?_, ?_⟩
            · match i, e with
              | 0, e => cases e; exact e0
              | 1, e => cases e; exact e1
              | 2, e => cases e; exact e2
              | 3, e => cases e; exact e3
              | 4, e => cases e; exact e4
              | 5, e => cases e; exact e5
            · have := bb.f i
              rw [← hW7]; simpa using this
            · exact Nat.lt_of_lt_of_le bb.lt qc6.size)
          have l6 := PR.out.own.ar.lt
          have HA7 : Hid (ArenaAt W7 b pb gp rb rg c t bs2) := Lib.hid (ha6.chg qc6 (by omega) ⟨by omega, by omega⟩ ⟨by omega, by omega⟩)
          have HD7 : Hid (DArn (arZ b rg zq) W7 lb fb mb ca c t qa2 bs2) := Lib.hid (hd6.far bb0 qc6 (fun y' o e => by have := PR.out.doc.lt.2.2.2.1 y' o e; omega) (fun y' o e => by
            rcases ql6 y' o e with ⟨o', e'⟩ | e'
            · have := PR.out.doc.lt.2.2.2.2 y' o' e'; omega
            · simp at e'; omega))
          have HC7 : Hid (Chg (arB b rg) wr W7) := Lib.hid (((Chg.of_ext (by repeat (first | with_reducible exact Ext.refl _ | with_reducible refine Ext.drew ?_ | with_reducible refine Ext.drewN ?_ _ | with_reducible refine Ext.alloc ?_ _))).trans hc6).new (qc6.mono fun k e => by rw [e]; exact Nat.le_refl _))
          have z6 : zq < wr.heap.size := lz
          have nyq : ¬ zq = wr.heap.size := by omega
          rw [hW7]
          clear hW7 ha6 hd6 hc6 ql6 bb bb0 bb1 bb2 bb3 bb4 bb5 bf0 bf1 bf2 bf3 bf4 bf5 e0 e1 e2 e3 e4 e5 l6
          clear k0 k1 k2 k3 k4 k5 k6 k7 kb
          have p0 := BX.out.c 0 _ rfl; have p1 := BX.out.c 1 _ rfl; have p2 := BX.out.c 2 _ rfl; have p3 := BX.out.c 3 _ rfl; have p4 := BX.out.c 4 _ rfl; have p5 := BX.out.c 5 _ rfl
          go_wp2_with fail
          clear p0 p1 p2 p3 p4 p5
          refine (law10_same (lc := lc) (fc := fc) (mc := mc) (cc := cc) (qc := qc2) HA7.out HD7.out).mono ?_
          rintro e w8 ⟨rfl, x8⟩
          have bx8 := BX.out.ext x8
          have p0 := bx8.c 0 _ rfl; have p1 := bx8.c 1 _ rfl; have p2 := bx8.c 2 _ rfl; have p3 := bx8.c 3 _ rfl; have p4 := bx8.c 4 _ rfl; have p5 := bx8.c 5 _ rfl
          have zb := (PR.out.box.chg HC7.out nq).ext x8
          have z0 := zb.c 0 _ rfl; have z1 := zb.c 1 _ rfl; have z2 := zb.c 2 _ rfl; have z3 := zb.c 3 _ rfl; have z4 := zb.c 4 _ rfl; have z5 := zb.c 5 _ rfl
          have y0 := zb.f 0; have y1 := zb.f 1; have y2 := zb.f 2; have y3 := zb.f 3; have y4 := zb.f 4; have y5 := zb.f 5
          have PS := Lib.hid (PR.out.step (qc' := qc2) (HA7.out.ext x8) (HD7.out.ext x8) (HC7.out.trans (Chg.of_ext x8)) _ rfl)
          clear bx8 zb q0 q1 q2 q3 q4 q5
          go_wp2_with fail
          go_roundw
          case rel => exact ⟨k + 1, bs2, qa2, qc2, by omega, by omega, by go_num, PS⟩
          case measure => simp [intOf] <;> omega
      all_goals
        go_wp2_with fail
        refine (law10_awake _ PR.out.own.tab).mono ?_
        rintro e w8 ⟨rfl, x8⟩
        go_wp2_with fail
        go_ret
        exact ⟨rfl, X0.out.trans (PR.out.own.ext.trans x8)⟩
  · have CM := Lib.hid (law10_made_no c tn (by
      by_cases h1 : bigA c = true
      · exact .inl h1
      · exact .inr fun h2 => hg ⟨by simpa using h1, h2⟩) (H.out.ext X0.out))
    clear hg
    go_enter Tryd.func4, Tryd.ntmps4
    go_wp2_with fail
    clear b0 b1 b2 b3 b4 b5
    refine CM.out.mono ?_
    rintro e w1 ⟨rfl, x1⟩
    have X1 := Lib.hid x1
    clear x1 CM
    go_wp2_with fail
    refine (law10_awake _ (HT.out.ext (X0.out.trans (X1.out.trans ((Ext.refl _).alloc _))))).mono ?_
    rintro e w2 ⟨rfl, x2⟩
    go_wp2_with fail
    go_ret
    exact ⟨rfl, X0.out.trans (X1.out.trans (((Ext.refl _).alloc _).trans x2))⟩
end Go.Proofs.YtlhajoamebfniaaDoor
