/-
  Merged texts: Law10j.
-/
import Derived.Test.YtlhajoamebfniaaDoorQ17
set_option linter.unusedVariables false
set_option linter.unusedSimpArgs false
/-! commonagelaw10: ArenaApart. -/
namespace Go.Proofs.YtlhajoamebfniaaDoor
open Go.RowKit
variable {P : Nat → Prop} {w0 w w' wr W : World} {b pb gp rb rg zq : Nat} {lb lc fb fc mb mc cc t qc : Nat} {ca qa : Option Addr} {c : Conf} {bs bs' r : List Bool}

set_option maxRecDepth 100000 in
set_option maxHeartbeats 16000000 in
theorem law10_ArenaApart {ca0 ta la ma : Option Addr} {cc0 tc lcc mcc : Nat} (c : Conf) (l m : List AAct) (w : World) (hT : Tab w) (h : CfgAt w ca0 ta cc0 tc c) (hl : AActAt w la l) (hlm : l.length ≤ maxLen) (hm : AActAt w ma m) (hmm : m.length ≤ maxLen) :
    Calls Tryd.prog 10 #[.agg #[.slice ca0 c.cl.length cc0, .int .i64 c.page, .slice ta c.ts.length tc, .int .i64 c.wk, .int .i64 c.gr, .int .i64 c.gens], .slice la l.length lcc, .slice ma m.length mcc] w fun e w' => e = .returned (.bool true) ∧ Ext w w' := by
  have H := Lib.hid h; have HL := Lib.hid hl; have HT := Lib.hid hT; have HM := Lib.hid hm
  unfold maxLen at hlm hmm
  clear h hl hT hm
  obtain ⟨z, hz⟩ : ∃ z, w.heap.size = z := ⟨_, rfl⟩
  have HZ := Lib.hid hz
  obtain ⟨W0, hW0⟩ : ∃ W0, w.alloc (.cells #[.slice ca0 c.cl.length cc0, .int .i64 c.page, .slice ta c.ts.length tc, .int .i64 c.wk, .int .i64 c.gr, .int .i64 c.gens] 25) = W0 := ⟨_, rfl⟩
  have X0 : Hid (Ext w W0) := Lib.hid (by rw [← hW0]; exact (Ext.refl _).alloc _)
  have B0 : Hid (BoxAt W0 z [.slice ca0 c.cl.length cc0, .int .i64 c.page, .slice ta c.ts.length tc, .int .i64 c.wk, .int .i64 c.gr, .int .i64 c.gens]) := Lib.hid (by rw [← hW0]; exact BoxAt.new w _ _ hz)
  have b0 := B0.out.c 0 _ rfl; have b1 := B0.out.c 1 _ rfl; have b2 := B0.out.c 2 _ rfl; have b3 := B0.out.c 3 _ rfl; have b4 := B0.out.c 4 _ rfl; have b5 := B0.out.c 5 _ rfl
  by_cases hg : bigA c = false ∧ kcheck c = 0
  · obtain ⟨hg, h0⟩ := hg
    have ho := kcheck_ok h0
    have hi : 0 < c.ts.length := ho.head.2.2.1
    have KO := Lib.hid ho
    have CM := Lib.hid (law10_made (i := 0) c 0 (HT.out.ext X0.out) hg h0 (by decide) hi (by simp) (H.out.ext X0.out))
    obtain ⟨t, ht⟩ : ∃ t, 0 = t := ⟨0, rfl⟩
    rw [ht] at CM hi
    clear hg h0 ho ht
    go_enter Tryd.func10, Tryd.ntmps10
    go_wp2_with fail
    clear b0 b1 b2 b3 b4 b5
    refine CM.out.mono ?_
    rintro e w1 ⟨b, pb, gp, rb, rg, lb, lc, fb, fc, mb, mc, ca, cc, qa, qc, rfl, ho, hd⟩
    have HO := Lib.hid ho; have HD := Lib.hid hd
    clear ho hd CM
    go_wp2_with fail
    obtain ⟨zq, hzq⟩ : ∃ zq, w1.heap.size = zq := ⟨_, rfl⟩
    obtain ⟨W1, hW1⟩ : ∃ W, w1.alloc (.cells #[.slice (some ⟨lb, 0, none⟩) (nS c t) lc, .slice (some ⟨fb, 0, none⟩) (nG c t) fc, .slice (some ⟨mb, 0, none⟩) (nG c t) mc, .int .i64 (wordsOf c t), .slice ca c.cl.length cc, .slice qa (nS c t) qc] 53) = W := ⟨_, rfl⟩
    have HP : Hid (PlayA W0 b pb gp rb rg zq lb lc fb fc mb mc ca cc c t qa (List.replicate (nS c t) false) qc W1) := Lib.hid (by
      have := PlayA.start (lc := lc) (fc := fc) (mc := mc) (cc := cc) (qc := qc) HO.out HD.out hzq 53
      rw [List.length_replicate] at this
      rw [hW1] at this; exact this)
    rw [hW1, hzq]
    clear HO HD hW1 hzq
    go_loopw [9] (fun kv wr => ∃ (k : Nat) (bs : List Bool) (qa : Option Addr) (qc : Nat), k ≤ l.length ∧ k ≤ 40 ∧ kv = .int .i64 k ∧ Hid (PlayA W0 b pb gp rb rg zq lb lc fb fc mb mc ca cc c t qa bs qc wr)) (fun kv _ => 40 - (intOf kv).toNat)
    case atStart => exact ⟨0, _, qa, qc, Nat.zero_le _, Nat.zero_le _, rfl, HP⟩
    case round =>
      clear HP
      obtain ⟨k, bs, qa, qc, hk, hk80, rfl, PR⟩ := hrel
      rcases (show (k < l.length ∧ k < 40) ∨ (k < l.length ∧ k = 40) ∨ k = l.length by omega) with ⟨hlt, h80⟩ | ⟨hlt, rfl⟩ | rfl
      · obtain ⟨ok, ab, ao, rfl, c0, c1⟩ := HL.out k hlt
        have OK := Lib.hid ok
        have XW := Lib.hid (X0.out.trans PR.out.own.ext)
        replace c0 := XW.out.cell c0; replace c1 := XW.out.cell c1
        clear ok
        generalize aActnth l k = y at *
        have q0 := PR.out.box.c 0 _ rfl; have q1 := PR.out.box.c 1 _ rfl; have q2 := PR.out.box.c 2 _ rfl; have q3 := PR.out.box.c 3 _ rfl; have q4 := PR.out.box.c 4 _ rfl; have q5 := PR.out.box.c 5 _ rfl
        have hk0 : (0 : Int) ≤ (k : Int) := Int.natCast_nonneg _
        have hk1 : (k : Int) < (l.length : Int) := by omega
        have nq : ¬ arB b rg zq := by have := PR.out.nb; unfold arB; omega
        have CD := Lib.hid (law10_does (P := arZ b rg zq) (lc := lc) (fc := fc) (mc := mc) (cc := cc) (qc := qc) y (PR.out.own.ar.ext (Ext.refl _).drew) (PR.out.doc.ext (Ext.refl _).drew) (PR.out.own.tab.ext (Ext.refl _).drew) (fun k hk => PR.out.lt k hk) arZ_ar OK.out)
        go_wp2_with fail
        go_region_with ((go_at_call 22; refine CD.out.mono ?_; rintro e w6 ⟨bs2, qa2, qc2, rfl, ha6, hd6, hc6, hl6, ql6⟩; clear hl6 ql6; have zb := (PR.out.box.ext (Ext.refl _).drew).chg hc6 nq; have z0 := zb.c 0 _ rfl; have z1 := zb.c 1 _ rfl; have z2 := zb.c 2 _ rfl; have z3 := zb.c 3 _ rfl; have z4 := zb.c 4 _ rfl; have z5 := zb.c 5 _ rfl; have y0 := zb.f 0; have y1 := zb.f 1; have y2 := zb.f 2; have y3 := zb.f 3; have y4 := zb.f 4; have y5 := zb.f 5; clear zb))
        all_goals
          have PS := Lib.hid (PR.out.step (qc' := qc2) ha6 hd6 ((Chg.of_ext (Ext.refl _).drew).trans hc6) _ rfl)
          clear ha6 hd6 hc6 CD q0 q1 q2 q3 q4 q5 z0 z1 z2 z3 z4 z5 y0 y1 y2 y3 y4 y5 c0 c1
          go_wp2_with fail
          go_roundw
          case rel => exact ⟨k + 1, bs2, qa2, qc2, by omega, by omega, by go_num, PS⟩
          case measure => simp [intOf] <;> omega
      all_goals
        obtain ⟨wA, rfl⟩ : ∃ wA : World, wA = wr := ⟨_, rfl⟩
        have q0 := PR.out.box.c 0 _ rfl
        go_wp2_with fail
        refine (arena_Copy PR.out.own.ar).mono ?_
        rintro e w3 ⟨_, rfl, b2, rb2, rg2, rfl, ho, lb2, lrb2, lrg2, x3⟩
        have O3 : Hid (OwnA wA w3 b2 pb gp rb2 rg2 c t bs) := Lib.hid ⟨ho, PR.out.own.tab.ext x3, x3, lb2, lrg2⟩
        have D3 : Hid (DArn (arB b2 rg2) w3 lb fb mb ca c t qa bs) := Lib.hid ((PR.out.doc.swap (Q := arB b2 rg2) fun k hk => by right; rcases hk with rfl | rfl <;> assumption).ext x3)
        have PR3 := Lib.hid (PR.out.go x3)
        clear ho lb2 lrb2 lrg2 q0
        have q0 := PR3.out.box.c 0 _ rfl; have q1 := PR3.out.box.c 1 _ rfl; have q2 := PR3.out.box.c 2 _ rfl; have q3 := PR3.out.box.c 3 _ rfl; have q4 := PR3.out.box.c 4 _ rfl; have q5 := PR3.out.box.c 5 _ rfl
        have zl3 : zq < w3.heap.size := PR3.out.box.lt
        go_wp2_with fail
        clear q0 q1 q2 q3 q4 q5
        obtain ⟨zq2, hzq⟩ : ∃ zq, w3.heap.size = zq := ⟨_, rfl⟩
        obtain ⟨W4, hW4⟩ : ∃ W, w3.alloc (.cells #[.slice (some ⟨lb, 0, none⟩) (nS c t) lc, .slice (some ⟨fb, 0, none⟩) (nG c t) fc, .slice (some ⟨mb, 0, none⟩) (nG c t) mc, .int .i64 (wordsOf c t), .slice ca c.cl.length cc, .slice qa bs.length qc] 53) = W := ⟨_, rfl⟩
        have PO0 : Hid (PlayA wA b2 pb gp rb2 rg2 zq2 lb lc fb fc mb mc ca cc c t qa bs qc W4) := Lib.hid (by
          have := PlayA.start (lc := lc) (fc := fc) (mc := mc) (cc := cc) (qc := qc) O3.out D3.out hzq 53
          rw [hW4] at this; exact this)
        rw [hW4, hzq]
        clear hW4 hzq O3 D3 PR3 zl3 x3
        go_loopw [12] (fun kv wr => ∃ (k : Nat) (bp : List Bool) (qp : Option Addr) (qpc : Nat), k ≤ m.length ∧ k ≤ 40 ∧ kv = .int .i64 k ∧ Hid (PlayA wA b2 pb gp rb2 rg2 zq2 lb lc fb fc mb mc ca cc c t qp bp qpc wr)) (fun kv _ => 40 - (intOf kv).toNat)
        case atStart => exact ⟨0, _, qa, qc, Nat.zero_le _, Nat.zero_le _, rfl, PO0⟩
        case round =>
          clear PO0
          obtain ⟨k, bp, qp, qpc, hk, hk80, rfl, PO⟩ := hrel
          rcases (show (k < m.length ∧ k < 40) ∨ (k < m.length ∧ k = 40) ∨ k = m.length by omega) with ⟨hlt, h80⟩ | ⟨hlt, rfl⟩ | rfl
          · obtain ⟨ok, ab, ao, rfl, c0, c1⟩ := HM.out k hlt
            have OK := Lib.hid ok
            have la0 : ab < w.heap.size := cell_lt c0
            have XW := Lib.hid (X0.out.trans (PR.out.own.ext.trans PO.out.own.ext))
            replace c0 := XW.out.cell c0; replace c1 := XW.out.cell c1
            clear ok
            generalize aActnth m k = y at *
            have q0 := PO.out.box.c 0 _ rfl; have q1 := PO.out.box.c 1 _ rfl; have q2 := PO.out.box.c 2 _ rfl; have q3 := PO.out.box.c 3 _ rfl; have q4 := PO.out.box.c 4 _ rfl; have q5 := PO.out.box.c 5 _ rfl
            have nbz := Lib.hid PO.out.nb
            have lz : zq2 < wr.heap.size := PO.out.box.lt
            have la : ab < wr.heap.size := cell_lt c0
            have na : ¬ arB b2 rg2 ab := by have h1 := PO.out.own.lb; have h2 := PO.out.own.lg; have h3 := X0.out.size; have h4 := PR.out.own.ext.size; unfold arB; omega
            have nq : ¬ arB b2 rg2 zq2 := by have := nbz.out; unfold arB; omega
            have n9 : ¬ arB b2 rg2 wr.heap.size := by have := nbz.out; unfold arB; omega
            have z9 : wr.heap.size ≠ zq2 := by omega
            have a9 : wr.heap.size ≠ ab := by omega
            have hk0 : (0 : Int) ≤ (k : Int) := Int.natCast_nonneg _
            have hk1 : (k : Int) < (m.length : Int) := by omega
            go_wp2_with fail
            go_region_held3 (fun w' => w'.cell? ⟨zq2, 0, none⟩ = some (.slice (some ⟨lb, 0, none⟩) (nS c t) lc) ∧ w'.cell? ⟨zq2, 1, none⟩ = some (.slice (some ⟨fb, 0, none⟩) (nG c t) fc) ∧ w'.cell? ⟨zq2, 2, none⟩ = some (.slice (some ⟨mb, 0, none⟩) (nG c t) mc) ∧ w'.cell? ⟨zq2, 3, none⟩ = some (.int .i64 (wordsOf c t)) ∧ w'.cell? ⟨zq2, 4, none⟩ = some (.slice ca c.cl.length cc) ∧ w'.cell? ⟨zq2, 5, none⟩ = some (.slice qp bp.length qpc) ∧ w'.cell? ⟨ab, ao + k * 2, none⟩ = some (.int .u8 y.what) ∧ w'.cell? ⟨ab, ao + k * 2 + 1, none⟩ = some (.int .i64 y.n))
              ((first | with_reducible exact ⟨k0, k1, k2, k3, k4, k5, k6, k7⟩ | with_reducible exact ⟨cell_alloc k0 _, cell_alloc k1 _, cell_alloc k2 _, cell_alloc k3 _, cell_alloc k4 _, cell_alloc k5 _, cell_alloc k6 _, cell_alloc k7 _⟩ | with_reducible exact ⟨far6 z9 k0, far6 z9 k1, far6 z9 k2, far6 z9 k3, far6 z9 k4, far6 z9 k5, far6 a9 k6, far6 a9 k7⟩ | go_keep))
              ((go_at_call 22; refine (law10_does (P := arZ b2 rg2 zq2) (lc := lc) (fc := fc) (mc := mc) (cc := cc) (qc := qpc) y (PO.out.own.ar.ext ?_) (PO.out.doc.ext ?_) (PO.out.own.tab.ext ?_) ?_ arZ_ar OK.out).mono ?_; (repeat (first | with_reducible exact Ext.refl _ | with_reducible refine Ext.drew ?_ | with_reducible refine Ext.drewN ?_ _ | with_reducible refine Ext.alloc ?_ _)); (repeat (first | with_reducible exact Ext.refl _ | with_reducible refine Ext.drew ?_ | with_reducible refine Ext.drewN ?_ _ | with_reducible refine Ext.alloc ?_ _)); (repeat (first | with_reducible exact Ext.refl _ | with_reducible refine Ext.drew ?_ | with_reducible refine Ext.drewN ?_ _ | with_reducible refine Ext.alloc ?_ _)); (exact fun k hk => Nat.lt_of_lt_of_le (PO.out.lt k hk) (Ext.size (by repeat (first | with_reducible exact Ext.refl _ | with_reducible refine Ext.drew ?_ | with_reducible refine Ext.drewN ?_ _ | with_reducible refine Ext.alloc ?_ _)))); rintro e w6 ⟨bs2, qa2, qc2, rfl, ha6, hd6, hc6, hl6, ql6⟩; clear hl6; (first | (have bb := ((BoxAt.new wr [.slice none 0 0, .slice none 0 0, .slice none 0 0, .int .i64 0, .slice none 0 0, .slice none 0 0] 53 rfl).ext (by first | with_reducible exact Ext.refl _ | with_reducible exact (Ext.refl _).drew | with_reducible exact (Ext.refl _).drewN _ | fail)).chg hc6 n9; have bb0 := bb.c 0 _ rfl; have bb1 := bb.c 1 _ rfl; have bb2 := bb.c 2 _ rfl; have bb3 := bb.c 3 _ rfl; have bb4 := bb.c 4 _ rfl; have bb5 := bb.c 5 _ rfl; have bf0 := bb.f 0; have bf1 := bb.f 1; have bf2 := bb.f 2; have bf3 := bb.f 3; have bf4 := bb.f 4; have bf5 := bb.f 5) | skip); have kb := (PO.out.box.ext (by repeat (first | with_reducible exact Ext.refl _ | with_reducible refine Ext.drew ?_ | with_reducible refine Ext.drewN ?_ _ | with_reducible refine Ext.alloc ?_ _))).chg hc6 nq; have k0 := kb.c 0 _ rfl; have k1 := kb.c 1 _ rfl; have k2 := kb.c 2 _ rfl; have k3 := kb.c 3 _ rfl; have k4 := kb.c 4 _ rfl; have k5 := kb.c 5 _ rfl; have k6 : w6.cell? ⟨ab, ao + k * 2, none⟩ = _ := (by first | exact hc6.cell (p := ⟨ab, ao + k * 2, none⟩) na c0 | exact hc6.cell (p := ⟨ab, ao + k * 2, none⟩) na (cell_alloc c0 _) | fail); have k7 : w6.cell? ⟨ab, ao + k * 2 + 1, none⟩ = _ := (by first | exact hc6.cell (p := ⟨ab, ao + k * 2 + 1, none⟩) na c1 | exact hc6.cell (p := ⟨ab, ao + k * 2 + 1, none⟩) na (cell_alloc c1 _) | fail)))
            · obtain ⟨yb, hyb⟩ : ∃ yb, w6.heap.size = yb := ⟨_, rfl⟩
              obtain ⟨W7, hW7⟩ : ∃ W, w6.alloc (.cells #[.slice (some ⟨lb, 0, none⟩) (nS c t) lc, .slice (some ⟨fb, 0, none⟩) (nG c t) fc, .slice (some ⟨mb, 0, none⟩) (nG c t) mc, .int .i64 (wordsOf c t), .slice ca c.cl.length cc, .slice qa2 bs2.length qc2] 53) = W := ⟨_, rfl⟩
              have x7 : Ext w6 W7 := by rw [← hW7]; exact (Ext.refl _).alloc _
              have BX : Hid (BoxAt W7 yb [.slice (some ⟨lb, 0, none⟩) (nS c t) lc, .slice (some ⟨fb, 0, none⟩) (nG c t) fc, .slice (some ⟨mb, 0, none⟩) (nG c t) mc, .int .i64 (wordsOf c t), .slice ca c.cl.length cc, .slice qa2 bs2.length qc2]) := Lib.hid (by rw [← hW7]; exact BoxAt.new w6 _ _ hyb)
              have HA7 := Lib.hid (ha6.ext x7); have HD7 := Lib.hid (hd6.ext x7)
              have HC7 : Hid (Chg (arB b2 rg2) wr W7) := Lib.hid (((Chg.of_ext (by repeat (first | with_reducible exact Ext.refl _ | with_reducible refine Ext.drew ?_ | with_reducible refine Ext.drewN ?_ _ | with_reducible refine Ext.alloc ?_ _))).trans hc6).trans (Chg.of_ext x7))
              have z6 : zq2 < yb := by have := kb.lt; omega
              have nyq : ¬ zq2 = yb := by omega
              rw [hW7, hyb]
              clear hW7 hyb x7 ha6 hd6 hc6 ql6
              clear k0 k1 k2 k3 k4 k5 k6 k7 kb
              have p0 := BX.out.c 0 _ rfl; have p1 := BX.out.c 1 _ rfl; have p2 := BX.out.c 2 _ rfl; have p3 := BX.out.c 3 _ rfl; have p4 := BX.out.c 4 _ rfl; have p5 := BX.out.c 5 _ rfl
              have zb := PO.out.box.chg HC7.out nq
              have z0 := zb.c 0 _ rfl; have z1 := zb.c 1 _ rfl; have z2 := zb.c 2 _ rfl; have z3 := zb.c 3 _ rfl; have z4 := zb.c 4 _ rfl; have z5 := zb.c 5 _ rfl
              have y0 := zb.f 0; have y1 := zb.f 1; have y2 := zb.f 2; have y3 := zb.f 3; have y4 := zb.f 4; have y5 := zb.f 5
              have PS := Lib.hid (PO.out.step (qc' := qc2) HA7.out HD7.out HC7.out _ rfl)
              clear zb q0 q1 q2 q3 q4 q5
              go_wp2_with fail
              go_roundw
              case rel => exact ⟨k + 1, bs2, qa2, qc2, by omega, by omega, by go_num, PS⟩
              case measure => simp [intOf] <;> omega
            · obtain ⟨W7, hW7⟩ : ∃ W, (((((w6.setCell ⟨wr.heap.size, 0, none⟩ (.slice (some ⟨lb, 0, none⟩) (nS c t) lc)).setCell ⟨wr.heap.size, 1, none⟩ (.slice (some ⟨fb, 0, none⟩) (nG c t) fc)).setCell ⟨wr.heap.size, 2, none⟩ (.slice (some ⟨mb, 0, none⟩) (nG c t) mc)).setCell ⟨wr.heap.size, 3, none⟩ (.int .i64 (wordsOf c t))).setCell ⟨wr.heap.size, 4, none⟩ (.slice ca c.cl.length cc)).setCell ⟨wr.heap.size, 5, none⟩ (.slice qa2 bs2.length qc2) = W := ⟨_, rfl⟩
              obtain ⟨⟨e0, e1, e2, e3, e4, e5⟩, qc6⟩ := set6 (.slice (some ⟨lb, 0, none⟩) (nS c t) lc) (.slice (some ⟨fb, 0, none⟩) (nG c t) fc) (.slice (some ⟨mb, 0, none⟩) (nG c t) mc) (.int .i64 (wordsOf c t)) (.slice ca c.cl.length cc) (.slice qa2 bs2.length qc2) bb0 bb1 bb2 bb3 bb4 bb5 _ hW7.symm
              have BX : Hid (BoxAt W7 wr.heap.size [.slice (some ⟨lb, 0, none⟩) (nS c t) lc, .slice (some ⟨fb, 0, none⟩) (nG c t) fc, .slice (some ⟨mb, 0, none⟩) (nG c t) mc, .int .i64 (wordsOf c t), .slice ca c.cl.length cc, .slice qa2 bs2.length qc2]) := Lib.hid (by
                refine ⟨fun i x e => ?_, fun i => ?_, ?_⟩
                · match i, e with
                  | 0, e => cases e; exact e0
                  | 1, e => cases e; exact e1
                  | 2, e => cases e; exact e2
                  | 3, e => cases e; exact e3
                  | 4, e => cases e; exact e4
                  | 5, e => cases e; exact e5
                · have := bb.f i
                  rw [← hW7]; simpa using this
                · exact Nat.lt_of_lt_of_le bb.lt qc6.size)
              have l6 := PO.out.own.ar.lt
              have HA7 : Hid (ArenaAt W7 b2 pb gp rb2 rg2 c t bs2) := Lib.hid (ha6.chg qc6 (by omega) ⟨by omega, by omega⟩ ⟨by omega, by omega⟩)
              have HD7 : Hid (DArn (arZ b2 rg2 zq2) W7 lb fb mb ca c t qa2 bs2) := Lib.hid (hd6.far bb0 qc6 (fun y' o e => by have := PO.out.doc.lt.2.2.2.1 y' o e; omega) (fun y' o e => by
                rcases ql6 y' o e with ⟨o', e'⟩ | e'
                · have := PO.out.doc.lt.2.2.2.2 y' o' e'; omega
                · simp at e'; omega))
              have HC7 : Hid (Chg (arB b2 rg2) wr W7) := Lib.hid (((Chg.of_ext (by repeat (first | with_reducible exact Ext.refl _ | with_reducible refine Ext.drew ?_ | with_reducible refine Ext.drewN ?_ _ | with_reducible refine Ext.alloc ?_ _))).trans hc6).new (qc6.mono fun k e => by rw [e]; exact Nat.le_refl _))
              have z6 : zq2 < wr.heap.size := lz
              have nyq : ¬ zq2 = wr.heap.size := by omega
              rw [hW7]
              clear hW7 ha6 hd6 hc6 ql6 bb bb0 bb1 bb2 bb3 bb4 bb5 bf0 bf1 bf2 bf3 bf4 bf5 e0 e1 e2 e3 e4 e5 l6
              clear k0 k1 k2 k3 k4 k5 k6 k7 kb
              have p0 := BX.out.c 0 _ rfl; have p1 := BX.out.c 1 _ rfl; have p2 := BX.out.c 2 _ rfl; have p3 := BX.out.c 3 _ rfl; have p4 := BX.out.c 4 _ rfl; have p5 := BX.out.c 5 _ rfl
              have zb := PO.out.box.chg HC7.out nq
              have z0 := zb.c 0 _ rfl; have z1 := zb.c 1 _ rfl; have z2 := zb.c 2 _ rfl; have z3 := zb.c 3 _ rfl; have z4 := zb.c 4 _ rfl; have z5 := zb.c 5 _ rfl
              have y0 := zb.f 0; have y1 := zb.f 1; have y2 := zb.f 2; have y3 := zb.f 3; have y4 := zb.f 4; have y5 := zb.f 5
              have PS := Lib.hid (PO.out.step (qc' := qc2) HA7.out HD7.out HC7.out _ rfl)
              clear zb q0 q1 q2 q3 q4 q5
              go_wp2_with fail
              go_roundw
              case rel => exact ⟨k + 1, bs2, qa2, qc2, by omega, by omega, by go_num, PS⟩
              case measure => simp [intOf] <;> omega
          all_goals
            have XO := Lib.hid PO.out.own.ext
            have PA := Lib.hid (PR.out.go XO.out)
            go_wp2_with fail
            refine (arena_Taken PA.out.own.ar).mono ?_
            rintro e w4 ⟨tb, tg, rfl, ht4, l1, l2, x4⟩
            have hpos := PA.out.own.ar.pos
            have nb16 := PA.out.own.ar.plan.ok.nS_le PA.out.own.ar.plan.ti
            have hq64 : bs.length ≤ 16384 := by rw [PA.out.own.ar.len]; exact nb16
            have TK := Lib.hid ht4; have X4 := Lib.hid x4
            have TG := Lib.hid (show wr.heap.size ≤ tg from l2 hpos)
            clear ht4 x4 l1 l2 nb16
            go_wp2_with fail
            refine (row_Clear bs TK.out).mono ?_
            rintro e w5 ⟨⟨v5, rfl⟩, hr5, hc5⟩
            have TK5 := Lib.hid hr5
            have X5 : Hid (Ext wr w5) := Lib.hid (hc5.over X4.out fun k hk => by rw [hk.2]; exact TG.out)
            clear hr5 hc5
            go_wp2_with fail
            have LNc := Lib.hid (row_Len _ TK5.out)
            have k1 : IntKind.i64.wrap ((bs.length : Int) + 1) = (bs.length : Int) + 1 := IntWalk.i64_in _ (by omega)
            rw [List.length_replicate] at LNc
            refine LNc.out.mono ?_
            rintro e w' ⟨rfl, rfl⟩
            go_wp2_with fail
            have CN := Lib.hid (bits_New (w := w5) (bs.length + 1) (by omega))
            rw [show ((bs.length + 1 : Nat) : Int) = (bs.length : Int) + 1 from rfl] at CN
            refine CN.out.mono ?_
            rintro e w6 ⟨nb, ng, rfl, hr6, l1, l2, x6⟩
            have SH := Lib.hid hr6
            have X6 := Lib.hid (X5.out.trans x6)
            have TK6 := Lib.hid (TK5.out.ext x6)
            clear hr6 l1 l2 x6 CN LNc k1
            go_wp2_with fail
            refine (arena_GiveAll_len (PA.out.own.ar.ext X6.out) SH.out (by rw [List.length_replicate]; omega)).mono ?_
            rintro e w7 ⟨rfl, x7⟩
            have X7 := Lib.hid (X6.out.trans x7)
            have TK7 := Lib.hid (TK6.out.ext x7)
            clear x7
            go_wp2_with fail
            refine (arena_GiveAll_nil (PA.out.own.ar.ext X7.out)).mono ?_
            rintro e w8 ⟨rfl, x8⟩
            have X8 := Lib.hid (X7.out.trans x8)
            have TK8 := Lib.hid (TK7.out.ext x8)
            clear x8
            have PA8 := Lib.hid (PA.out.go X8.out)
            have q0 := PA8.out.box.c 0 _ rfl; have q1 := PA8.out.box.c 1 _ rfl; have q2 := PA8.out.box.c 2 _ rfl; have q3 := PA8.out.box.c 3 _ rfl; have q4 := PA8.out.box.c 4 _ rfl; have q5 := PA8.out.box.c 5 _ rfl
            go_wp2_with fail
            clear q0 q1 q2 q3 q4 q5
            refine (law10_same (lc := lc) (fc := fc) (mc := mc) (cc := cc) (qc := qc) PA8.out.own.ar PA8.out.doc).mono ?_
            rintro e w9 ⟨rfl, x9⟩
            have X9 := Lib.hid (X8.out.trans x9)
            have TK9 := Lib.hid (TK8.out.ext x9)
            clear x9
            have PO9 := Lib.hid (PO.out.go X9.out)
            have q0 := PO9.out.box.c 0 _ rfl; have q1 := PO9.out.box.c 1 _ rfl; have q2 := PO9.out.box.c 2 _ rfl; have q3 := PO9.out.box.c 3 _ rfl; have q4 := PO9.out.box.c 4 _ rfl; have q5 := PO9.out.box.c 5 _ rfl
            go_wp2_with fail
            clear q0 q1 q2 q3 q4 q5
            refine (law10_same (lc := lc) (fc := fc) (mc := mc) (cc := cc) (qc := qpc) PO9.out.own.ar PO9.out.doc).mono ?_
            rintro e w10 ⟨rfl, x10⟩
            obtain ⟨W11, hW11⟩ : ∃ W, w10.alloc (.cells #[.pointer none, .pointer none, .int .i64 0] 88) = W := ⟨_, rfl⟩
            obtain ⟨zb, hzb⟩ : ∃ z, w10.heap.size = z := ⟨_, rfl⟩
            have x11 : Ext w10 W11 := by rw [← hW11]; exact (Ext.refl _).alloc _
            have Z11 : Hid (BoxAt W11 zb [.pointer none, .pointer none, .int .i64 0]) := Lib.hid (by rw [← hW11]; exact BoxAt.new w10 _ _ hzb)
            have X11 := Lib.hid (X9.out.trans (x10.trans x11))
            clear x10 x11
            have NA : Hid (∀ W, NoArena W none) := Lib.hid fun W => .inl rfl
            have NZ : Hid (∀ W, Ext W11 W → NoArena W (some ⟨zb, 0, none⟩)) := Lib.hid fun W x => .inr ⟨zb, rfl, x.cell (Z11.out.c 1 _ rfl)⟩
            have T11 := Lib.hid (PA.out.own.tab.ext X11.out)
            go_wp2_with fail
            refine (arena_Take_no (NA.out _)).mono ?_
            rintro e w12 ⟨rfl, x12⟩
            have Y12 := Lib.hid x12
            clear x12
            go_wp2_with fail
            refine arena_New_nil.mono ?_
            rintro e w' ⟨rfl, rfl⟩
            go_wp2_with fail
            refine (arena_Give_no (NZ.out _ Y12.out)).mono ?_
            rintro e w' ⟨rfl, rfl⟩
            go_wp2_with fail
            refine arena_GiveAll_no.mono ?_
            rintro e w13 ⟨rfl, x13⟩
            have Y13 := Lib.hid (Y12.out.trans x13)
            clear x13
            go_wp2_with fail
            refine (arena_Has_no (NA.out _)).mono ?_
            rintro e w' ⟨rfl, rfl⟩
            go_wp2_with fail
            refine (arena_Used_no (NA.out _)).mono ?_
            rintro e w' ⟨rfl, rfl⟩
            go_wp2_with fail
            refine (arena_Count_no (NZ.out _ Y13.out)).mono ?_
            rintro e w' ⟨rfl, rfl⟩
            go_wp2_with fail
            refine (arena_Taken_no (NA.out _)).mono ?_
            rintro e w' ⟨rfl, rfl⟩
            go_wp2_with fail
            refine (arena_Copy_no (NZ.out _ Y13.out)).mono ?_
            rintro e w' ⟨rfl, rfl⟩
            go_wp2_with fail
            refine (law10_awake _ (T11.out.ext Y13.out)).mono ?_
            rintro e w14 ⟨rfl, x14⟩
            go_wp2_with fail
            go_ret
            exact ⟨rfl, X0.out.trans (PR.out.own.ext.trans (XO.out.trans (X11.out.trans (Y13.out.trans x14))))⟩
  · have CM := Lib.hid (law10_made_no c 0 (by
      by_cases h1 : bigA c = true
      · exact .inl h1
      · exact .inr fun h2 => hg ⟨by simpa using h1, h2⟩) (H.out.ext X0.out))
    clear hg
    go_enter Tryd.func10, Tryd.ntmps10
    go_wp2_with fail
    clear b0 b1 b2 b3 b4 b5
    refine CM.out.mono ?_
    rintro e w1 ⟨rfl, x1⟩
    have X1 := Lib.hid x1
    clear x1 CM
    go_wp2_with fail
    refine (law10_awake _ (HT.out.ext (X0.out.trans (X1.out.trans ((Ext.refl _).alloc _))))).mono ?_
    rintro e w2 ⟨rfl, x2⟩
    go_wp2_with fail
    go_ret
    exact ⟨rfl, X0.out.trans (X1.out.trans (((Ext.refl _).alloc _).trans x2))⟩

end Go.Proofs.YtlhajoamebfniaaDoor
