/-
  Merged texts: Law11l.
-/
import Derived.Test.YtnbngcagnchkdaaGreatDoorQ15
import Derived.Test.YtnbngcagnchkdaaGreatDoorQ16
import Derived.Test.YtnbngcagnchkdaaGreatDoorQ17
set_option linter.unusedVariables false
set_option linter.unusedSimpArgs false
/-! commonagelaw11: BodyPlays. (Printed by wip/gen11l.py.) -/
namespace Go.Proofs.YtnbngcagnchkdaaGreatDoor
open Go.RowKit
variable {w w' W : World}

set_option maxRecDepth 100000 in
set_option maxHeartbeats 32000000 in
theorem law11_BodyPlays {ca0 ta la : Option Addr} {cc0 tc lcc : Nat} (c : Conf) (tn : Int) (l : List OAct) (w : World) (hW : Wid w) (h : CfgAt w ca0 ta cc0 tc c) (htn : 0 ≤ tn ∧ tn ≤ 255) (hl : OActAt w la l) (hlm : l.length ≤ maxLen) :
    Calls Tryz.prog 4 #[.agg #[.slice ca0 c.cl.length cc0, .int .i64 c.page, .slice ta c.ts.length tc, .int .i64 c.wk, .int .i64 c.gr, .int .i64 c.gens], .int .u8 tn, .slice la l.length lcc] w fun e w' => e = .returned (.bool true) ∧ Ext w w' := by
  have H := Lib.hid h; have HL := Lib.hid hl; have HW := Lib.hid hW
  unfold maxLen at hlm
  clear h hl hW
  obtain ⟨z, hz⟩ : ∃ z, w.heap.size = z := ⟨_, rfl⟩
  obtain ⟨W0, hW0⟩ : ∃ W0, w.alloc (.cells #[.slice ca0 c.cl.length cc0, .int .i64 c.page, .slice ta c.ts.length tc, .int .i64 c.wk, .int .i64 c.gr, .int .i64 c.gens] 25) = W0 := ⟨_, rfl⟩
  have X0 : Hid (Ext w W0) := Lib.hid (by rw [← hW0]; exact (Ext.refl _).alloc _)
  have B0 : Hid (BoxG W0 z [.slice ca0 c.cl.length cc0, .int .i64 c.page, .slice ta c.ts.length tc, .int .i64 c.wk, .int .i64 c.gr, .int .i64 c.gens]) := Lib.hid (by rw [← hW0]; exact BoxG.new w _ _ hz)
  have b0 := B0.out.c 0 _ rfl; have b1 := B0.out.c 1 _ rfl; have b2 := B0.out.c 2 _ rfl; have b3 := B0.out.c 3 _ rfl; have b4 := B0.out.c 4 _ rfl; have b5 := B0.out.c 5 _ rfl
  have bz := B0.out.lt
  by_cases hg : bigB c = false ∧ kcheck c = 0
  · obtain ⟨hg, h0⟩ := hg
    have ho := kcheck_ok h0
    obtain ⟨t, hmod, hi⟩ := mod_nat (tn := tn) ho.head.2.2.1
    have CM := Lib.hid (law11_made c tn (HW.out.ext X0.out) hg h0 htn hi hmod (H.out.ext X0.out))
    clear hg h0 ho hmod hi
    go_enter Tryz.func4, Tryz.ntmps4
    go_wp2_with fail
    clear hW0 hz b0 b1 b2 b3 b4 b5 bz
    refine CM.out.mono ?_
    rintro e w1 ⟨bb, mm, gw, gb, pb, gp, d0, cap0, lb, lc, fb, fc, mb, mc, rfl, hb, hd, x1, hg⟩
    have HB := Lib.hid hb; have HD := Lib.hid hd; have X1 := Lib.hid x1; have HG := Lib.hid hg
    clear CM hb hd x1 hg
    go_upto_region 5 with fail
    obtain ⟨zq, hzq⟩ : ∃ zq, w1.heap.size = zq := ⟨_, rfl⟩
    obtain ⟨W1, hW1⟩ : ∃ W, w1.alloc (.cells #[.slice (some ⟨d0, 0, none⟩) c.ts.length cap0, .int .i64 t, .slice (some ⟨lb, 0, none⟩) (nS c t) lc, .slice (some ⟨fb, 0, none⟩) (nG c t) fc, .slice (some ⟨mb, 0, none⟩) (nG c t) mc, .int .i64 (wordsOf c t), .slice ca0 c.cl.length cc0] 41) = W := ⟨_, rfl⟩
    have HP : Hid (PlayB W0 bb mm gw gb pb gp zq d0 cap0 lb lc fb fc mb mc cc0 ca0 c t (List.replicate (totalN c) 0) W1) := Lib.hid (by
      rw [← hW1]
      exact PlayB.start HB.out HD.out X1.out HG.out hzq)
    rw [hW1, hzq]
    clear HB HD X1 HG hW1 hzq
    go_loopw [10] (fun kv wr => ∃ (k d cap : Nat) (ws : List Int), k ≤ l.length ∧ k ≤ 40 ∧ kv = .int .i64 k ∧ Hid (PlayB W0 bb mm gw gb pb gp zq d cap lb lc fb fc mb mc cc0 ca0 c t ws wr)) (fun kv _ => 40 - (intOf kv).toNat)
    case atStart => exact ⟨0, d0, cap0, _, Nat.zero_le _, Nat.zero_le _, rfl, HP⟩
    case round =>
      clear HP
      obtain ⟨k, d, cap, ws, hk, hk40, rfl, PR⟩ := hrel
      rcases (show (k < l.length ∧ k < 40) ∨ (k < l.length ∧ k = 40) ∨ k = l.length by omega) with ⟨hlt, h40⟩ | ⟨hlt, rfl⟩ | rfl
      · as_aux_lemma =>
        obtain ⟨ok, ab, ao, rfl, c0, c1, c2, c3, c4, c5, c6, c7⟩ := HL.out k hlt
        have OK := Lib.hid ok
        have la0 : ab < w.heap.size := cell_lt c0
        have XW := Lib.hid (X0.out.trans PR.out.ext)
        replace c0 := XW.out.cell c0; replace c1 := XW.out.cell c1; replace c2 := XW.out.cell c2; replace c3 := XW.out.cell c3; replace c4 := XW.out.cell c4; replace c5 := XW.out.cell c5; replace c6 := XW.out.cell c6; replace c7 := XW.out.cell c7
        clear ok
        generalize oActnth l k = y at *
        have q0 := PR.out.box.c 0 _ rfl; have q1 := PR.out.box.c 1 _ rfl; have q2 := PR.out.box.c 2 _ rfl; have q3 := PR.out.box.c 3 _ rfl; have q4 := PR.out.box.c 4 _ rfl; have q5 := PR.out.box.c 5 _ rfl; have q6 := PR.out.box.c 6 _ rfl
        have lz : zq < wr.heap.size := PR.out.box.lt
        have la : ab < wr.heap.size := cell_lt c0
        have na : ¬ isB gw ab := by have h1 := PR.out.lg; have := X0.out.size; unfold isB; omega
        have nq : ¬ isB gw zq := PR.out.ng
        have n9 : ¬ isB gw wr.heap.size := by have := PR.out.nb; unfold isB; omega
        have z9 : wr.heap.size ≠ zq := by omega
        have a9 : wr.heap.size ≠ ab := by omega
        have hk0 : (0 : Int) ≤ (k : Int) := Int.natCast_nonneg _
        have hk1 : (k : Int) < (l.length : Int) := by omega
        go_upto_region 7 with fail
        go_region_held3 (fun w' => w'.cell? ⟨zq, 0, none⟩ = some (.slice (some ⟨d, 0, none⟩) c.ts.length cap) ∧ w'.cell? ⟨zq, 1, none⟩ = some (.int .i64 t) ∧ w'.cell? ⟨zq, 2, none⟩ = some (.slice (some ⟨lb, 0, none⟩) (nS c t) lc) ∧ w'.cell? ⟨zq, 3, none⟩ = some (.slice (some ⟨fb, 0, none⟩) (nG c t) fc) ∧ w'.cell? ⟨zq, 4, none⟩ = some (.slice (some ⟨mb, 0, none⟩) (nG c t) mc) ∧ w'.cell? ⟨zq, 5, none⟩ = some (.int .i64 (wordsOf c t)) ∧ w'.cell? ⟨zq, 6, none⟩ = some (.slice ca0 c.cl.length cc0) ∧ w'.cell? ⟨ab, ao + k * 8, none⟩ = some (.int .u8 y.what) ∧ w'.cell? ⟨ab, ao + k * 8 + 1, none⟩ = some (.int .i64 y.slot) ∧ w'.cell? ⟨ab, ao + k * 8 + 2, none⟩ = some (.int .i64 y.i) ∧ w'.cell? ⟨ab, ao + k * 8 + 3, none⟩ = some (.int .i64 y.to) ∧ w'.cell? ⟨ab, ao + k * 8 + 4, none⟩ = some (.int .u64 y.w) ∧ w'.cell? ⟨ab, ao + k * 8 + 5, none⟩ = some (.int .i64 y.hc) ∧ w'.cell? ⟨ab, ao + k * 8 + 6, none⟩ = some (.int .i64 y.hr) ∧ w'.cell? ⟨ab, ao + k * 8 + 7, none⟩ = some (.int .i64 y.hw))
          ((first | with_reducible exact ⟨k0, k1, k2, k3, k4, k5, k6, k7, k8, k9, k10, k11, k12, k13, k14⟩ | with_reducible exact ⟨cell_alloc k0 _, cell_alloc k1 _, cell_alloc k2 _, cell_alloc k3 _, cell_alloc k4 _, cell_alloc k5 _, cell_alloc k6 _, cell_alloc k7 _, cell_alloc k8 _, cell_alloc k9 _, cell_alloc k10 _, cell_alloc k11 _, cell_alloc k12 _, cell_alloc k13 _, cell_alloc k14 _⟩ | with_reducible exact ⟨far7 z9 k0, far7 z9 k1, far7 z9 k2, far7 z9 k3, far7 z9 k4, far7 z9 k5, far7 z9 k6, far7 a9 k7, far7 a9 k8, far7 a9 k9, far7 a9 k10, far7 a9 k11, far7 a9 k12, far7 a9 k13, far7 a9 k14⟩ | go_keep))
          ((go_at_call 10; refine (law11_does_in PR.out ?_ OK.out).mono ?_; (repeat (first | with_reducible exact Ext.refl _ | with_reducible refine Ext.drew ?_ | with_reducible refine Ext.drewN ?_ _ | with_reducible refine Ext.alloc ?_ _)); rintro e w6 ⟨d6, cap6, rfl, hb6, hd6, hc6⟩; (first | (have bx := ((BoxG.new wr [.slice none 0 0, .int .i64 0, .slice none 0 0, .slice none 0 0, .slice none 0 0, .int .i64 0, .slice none 0 0] 41 rfl).ext (by first | with_reducible exact Ext.refl _ | with_reducible exact (Ext.refl _).drew | with_reducible exact (Ext.refl _).drewN _ | fail)).chg hc6 n9; have u0 := bx.c 0 _ rfl; have u1 := bx.c 1 _ rfl; have u2 := bx.c 2 _ rfl; have u3 := bx.c 3 _ rfl; have u4 := bx.c 4 _ rfl; have u5 := bx.c 5 _ rfl; have u6 := bx.c 6 _ rfl; have v0 := bx.f 0; have v1 := bx.f 1; have v2 := bx.f 2; have v3 := bx.f 3; have v4 := bx.f 4; have v5 := bx.f 5; have v6 := bx.f 6) | skip); have kb := (PR.out.box.ext (by repeat (first | with_reducible exact Ext.refl _ | with_reducible refine Ext.drew ?_ | with_reducible refine Ext.drewN ?_ _ | with_reducible refine Ext.alloc ?_ _))).chg hc6 nq; have k0 := kb.c 0 _ rfl; have k1 := kb.c 1 _ rfl; have k2 := kb.c 2 _ rfl; have k3 := kb.c 3 _ rfl; have k4 := kb.c 4 _ rfl; have k5 := kb.c 5 _ rfl; have k6 := kb.c 6 _ rfl; have k7 := Chg.cell hc6 na (Ext.cell (by repeat (first | with_reducible exact Ext.refl _ | with_reducible refine Ext.drew ?_ | with_reducible refine Ext.drewN ?_ _ | with_reducible refine Ext.alloc ?_ _)) c0); have k8 := Chg.cell hc6 na (Ext.cell (by repeat (first | with_reducible exact Ext.refl _ | with_reducible refine Ext.drew ?_ | with_reducible refine Ext.drewN ?_ _ | with_reducible refine Ext.alloc ?_ _)) c1); have k9 := Chg.cell hc6 na (Ext.cell (by repeat (first | with_reducible exact Ext.refl _ | with_reducible refine Ext.drew ?_ | with_reducible refine Ext.drewN ?_ _ | with_reducible refine Ext.alloc ?_ _)) c2); have k10 := Chg.cell hc6 na (Ext.cell (by repeat (first | with_reducible exact Ext.refl _ | with_reducible refine Ext.drew ?_ | with_reducible refine Ext.drewN ?_ _ | with_reducible refine Ext.alloc ?_ _)) c3); have k11 := Chg.cell hc6 na (Ext.cell (by repeat (first | with_reducible exact Ext.refl _ | with_reducible refine Ext.drew ?_ | with_reducible refine Ext.drewN ?_ _ | with_reducible refine Ext.alloc ?_ _)) c4); have k12 := Chg.cell hc6 na (Ext.cell (by repeat (first | with_reducible exact Ext.refl _ | with_reducible refine Ext.drew ?_ | with_reducible refine Ext.drewN ?_ _ | with_reducible refine Ext.alloc ?_ _)) c5); have k13 := Chg.cell hc6 na (Ext.cell (by repeat (first | with_reducible exact Ext.refl _ | with_reducible refine Ext.drew ?_ | with_reducible refine Ext.drewN ?_ _ | with_reducible refine Ext.alloc ?_ _)) c6); have k14 := Chg.cell hc6 na (Ext.cell (by repeat (first | with_reducible exact Ext.refl _ | with_reducible refine Ext.drew ?_ | with_reducible refine Ext.drewN ?_ _ | with_reducible refine Ext.alloc ?_ _)) c7)))
        · obtain ⟨yb, hyb⟩ : ∃ yb, w6.heap.size = yb := ⟨_, rfl⟩
          obtain ⟨W7, hW7⟩ : ∃ W, w6.alloc (.cells #[.slice (some ⟨d6, 0, none⟩) c.ts.length cap6, .int .i64 t, .slice (some ⟨lb, 0, none⟩) (nS c t) lc, .slice (some ⟨fb, 0, none⟩) (nG c t) fc, .slice (some ⟨mb, 0, none⟩) (nG c t) mc, .int .i64 (wordsOf c t), .slice ca0 c.cl.length cc0] 41) = W := ⟨_, rfl⟩
          have x7 : Ext w6 W7 := by rw [← hW7]; exact (Ext.refl _).alloc _
          have BX : Hid (BoxG W7 yb [.slice (some ⟨d6, 0, none⟩) c.ts.length cap6, .int .i64 t, .slice (some ⟨lb, 0, none⟩) (nS c t) lc, .slice (some ⟨fb, 0, none⟩) (nG c t) fc, .slice (some ⟨mb, 0, none⟩) (nG c t) mc, .int .i64 (wordsOf c t), .slice ca0 c.cl.length cc0]) := Lib.hid (by rw [← hW7]; exact BoxG.new w6 _ _ hyb)
          have HO7 := Lib.hid (hb6.ext x7)
          have HD7 := Lib.hid ((hd6.swap (Q := fun k => k = gw ∨ k = zq) fun k _ e => .inl e).ext x7)
          have HC7 : Hid (Chg (isB gw) wr W7) := Lib.hid (((Chg.of_ext (by repeat (first | with_reducible exact Ext.refl _ | with_reducible refine Ext.drew ?_ | with_reducible refine Ext.drewN ?_ _ | with_reducible refine Ext.alloc ?_ _))).trans hc6).trans (Chg.of_ext x7))
          have z6 : zq < yb := by have := kb.lt; omega
          rw [hW7, hyb]
          clear hW7 hyb x7 hb6 hd6 hc6 k0 k1 k2 k3 k4 k5 k6 k7 k8 k9 k10 k11 k12 k13 k14 kb q0 q1 q2 q3 q4 q5 q6
          go_upto_region 8 with fail
          have p0 := BX.out.c 0 _ rfl; have p1 := BX.out.c 1 _ rfl; have p2 := BX.out.c 2 _ rfl; have p3 := BX.out.c 3 _ rfl; have p4 := BX.out.c 4 _ rfl; have p5 := BX.out.c 5 _ rfl; have p6 := BX.out.c 6 _ rfl
          have ly := BX.out.lt
          have d0 := fun d os => cell_regrown p0 d os; have d1 := fun d os => cell_regrown p1 d os; have d2 := fun d os => cell_regrown p2 d os; have d3 := fun d os => cell_regrown p3 d os; have d4 := fun d os => cell_regrown p4 d os; have d5 := fun d os => cell_regrown p5 d os; have d6 := fun d os => cell_regrown p6 d os
          have e1 := HC7.out.cell (p := ⟨ab, ao + k * 8 + 1, none⟩) na c1
          have d7 := fun d os => cell_regrown e1 d os
          clear p0 p1 p2 p3 p4 p5 p6 e1
          refine wp_region_quiet_below (by kernel_rfl) (by kernel_rfl) ?_
          repeat (any_goals (first | go_big_quiet_step ((go_at_call 16; exact reg (law11_told (lc := lc) (fc := fc) (mc := mc) (cc := cc0) (cap := cap6) (HO7.out.ext (reg_ext _ _ _)) (HD7.out.ext (reg_ext _ _ _))))) | quiet_step ((go_at_call 16; exact reg (law11_told (lc := lc) (fc := fc) (mc := mc) (cc := cc0) (cap := cap6) (HO7.out.ext (reg_ext _ _ _)) (HD7.out.ext (reg_ext _ _ _)))))))
          refine wpQuiet_nil ?_
          intro _ hw'
          obtain ⟨⟨dq, osq⟩, hw''⟩ := hw'
          obtain ⟨WQ, hWQ⟩ := grown_ex hw''
          have xq := hWQ.2
          obtain rfl := hWQ.1
          clear hw'' hWQ
          clear d0 d1 d2 d3 d4 d5 d6 d7
          have bx8 := BX.out.ext xq
          have p0 := bx8.c 0 _ rfl; have p1 := bx8.c 1 _ rfl; have p2 := bx8.c 2 _ rfl; have p3 := bx8.c 3 _ rfl; have p4 := bx8.c 4 _ rfl; have p5 := bx8.c 5 _ rfl; have p6 := bx8.c 6 _ rfl
          have zb := (PR.out.box.chg HC7.out nq).ext xq
          have ZB := Lib.hid zb
          have q0 := zb.c 0 _ rfl; have q1 := zb.c 1 _ rfl; have q2 := zb.c 2 _ rfl; have q3 := zb.c 3 _ rfl; have q4 := zb.c 4 _ rfl; have q5 := zb.c 5 _ rfl; have q6 := zb.c 6 _ rfl; have f0 := zb.f 0; have f1 := zb.f 1; have f2 := zb.f 2; have f3 := zb.f 3; have f4 := zb.f 4; have f5 := zb.f 5; have f6 := zb.f 6
          have lz' := zb.lt; have ly' := bx8.lt
          clear bx8 zb
          go_wp2_with fail
          go_roundw
          case rel =>
            exact ⟨k + 1, d6, cap6, _, by omega, by omega, by go_num, Lib.hid (PR.out.step (HO7.out.ext xq) (HD7.out.ext xq) (HC7.out.trans (Chg.of_ext xq)) (chg7 _ zq (.slice (some ⟨d6, 0, none⟩) c.ts.length cap6) (.int .i64 t) (.slice (some ⟨lb, 0, none⟩) (nS c t) lc) (.slice (some ⟨fb, 0, none⟩) (nG c t) fc) (.slice (some ⟨mb, 0, none⟩) (nG c t) mc) (.int .i64 (wordsOf c t)) (.slice ca0 c.cl.length cc0)) (ZB.out.set7 (.slice (some ⟨d6, 0, none⟩) c.ts.length cap6) (.int .i64 t) (.slice (some ⟨lb, 0, none⟩) (nS c t) lc) (.slice (some ⟨fb, 0, none⟩) (nG c t) fc) (.slice (some ⟨mb, 0, none⟩) (nG c t) mc) (.int .i64 (wordsOf c t)) (.slice ca0 c.cl.length cc0)))⟩
          case measure => simp [intOf] <;> omega
        · have HBX := Lib.hid bx
          clear u0 u1 u2 u3 u4 u5 u6 v0 v1 v2 v3 v4 v5 v6 bx
          have RB := HBX.out.set7 (.slice (some ⟨d6, 0, none⟩) c.ts.length cap6) (.int .i64 t) (.slice (some ⟨lb, 0, none⟩) (nS c t) lc) (.slice (some ⟨fb, 0, none⟩) (nG c t) fc) (.slice (some ⟨mb, 0, none⟩) (nG c t) mc) (.int .i64 (wordsOf c t)) (.slice ca0 c.cl.length cc0)
          have ch := chg7 w6 wr.heap.size (.slice (some ⟨d6, 0, none⟩) c.ts.length cap6) (.int .i64 t) (.slice (some ⟨lb, 0, none⟩) (nS c t) lc) (.slice (some ⟨fb, 0, none⟩) (nG c t) fc) (.slice (some ⟨mb, 0, none⟩) (nG c t) mc) (.int .i64 (wordsOf c t)) (.slice ca0 c.cl.length cc0)
          obtain ⟨W7, hW7⟩ : ∃ W, ((((((w6.setCell ⟨wr.heap.size, 0, none⟩ (.slice (some ⟨d6, 0, none⟩) c.ts.length cap6)).setCell ⟨wr.heap.size, 1, none⟩ (.int .i64 t)).setCell ⟨wr.heap.size, 2, none⟩ (.slice (some ⟨lb, 0, none⟩) (nS c t) lc)).setCell ⟨wr.heap.size, 3, none⟩ (.slice (some ⟨fb, 0, none⟩) (nG c t) fc)).setCell ⟨wr.heap.size, 4, none⟩ (.slice (some ⟨mb, 0, none⟩) (nG c t) mc)).setCell ⟨wr.heap.size, 5, none⟩ (.int .i64 (wordsOf c t))).setCell ⟨wr.heap.size, 6, none⟩ (.slice ca0 c.cl.length cc0) = W := ⟨_, rfl⟩
          rw [hW7] at RB ch ⊢
          obtain ⟨yb, hyb⟩ : ∃ yb, wr.heap.size = yb := ⟨_, rfl⟩
          have z6 : zq < yb := by omega
          have HO7 := Lib.hid (hb6.past ch (by rintro k rfl; have := PR.out.nb; omega))
          have HD7 := Lib.hid ((hd6.chg ch (fun k e => by rw [e]; exact .inr ⟨Nat.le_refl _, by simp⟩)).swap (Q := fun k => k = gw ∨ k = zq) fun k _ e => .inl e)
          have HC7 : Hid (Chg (isB gw) wr W7) := Lib.hid (by rw [← hW7]; exact chg7on ((Chg.of_ext (by repeat (first | with_reducible exact Ext.refl _ | with_reducible refine Ext.drew ?_ | with_reducible refine Ext.drewN ?_ _ | with_reducible refine Ext.alloc ?_ _))).trans hc6) (Nat.le_refl _) _ _ _ _ _ _ _)
          rw [hyb] at RB ⊢
          have BX := Lib.hid RB
          clear RB ch hW7 hyb hb6 hd6 hc6 k0 k1 k2 k3 k4 k5 k6 k7 k8 k9 k10 k11 k12 k13 k14 kb q0 q1 q2 q3 q4 q5 q6
          go_upto_region 8 with fail
          have p0 := BX.out.c 0 _ rfl; have p1 := BX.out.c 1 _ rfl; have p2 := BX.out.c 2 _ rfl; have p3 := BX.out.c 3 _ rfl; have p4 := BX.out.c 4 _ rfl; have p5 := BX.out.c 5 _ rfl; have p6 := BX.out.c 6 _ rfl
          have ly := BX.out.lt
          have d0 := fun d os => cell_regrown p0 d os; have d1 := fun d os => cell_regrown p1 d os; have d2 := fun d os => cell_regrown p2 d os; have d3 := fun d os => cell_regrown p3 d os; have d4 := fun d os => cell_regrown p4 d os; have d5 := fun d os => cell_regrown p5 d os; have d6 := fun d os => cell_regrown p6 d os
          have e1 := HC7.out.cell (p := ⟨ab, ao + k * 8 + 1, none⟩) na c1
          have d7 := fun d os => cell_regrown e1 d os
          clear p0 p1 p2 p3 p4 p5 p6 e1
          refine wp_region_quiet_below (by kernel_rfl) (by kernel_rfl) ?_
          repeat (any_goals (first | go_big_quiet_step ((go_at_call 16; exact reg (law11_told (lc := lc) (fc := fc) (mc := mc) (cc := cc0) (cap := cap6) (HO7.out.ext (reg_ext _ _ _)) (HD7.out.ext (reg_ext _ _ _))))) | quiet_step ((go_at_call 16; exact reg (law11_told (lc := lc) (fc := fc) (mc := mc) (cc := cc0) (cap := cap6) (HO7.out.ext (reg_ext _ _ _)) (HD7.out.ext (reg_ext _ _ _)))))))
          refine wpQuiet_nil ?_
          intro _ hw'
          obtain ⟨⟨dq, osq⟩, hw''⟩ := hw'
          obtain ⟨WQ, hWQ⟩ := grown_ex hw''
          have xq := hWQ.2
          obtain rfl := hWQ.1
          clear hw'' hWQ
          clear d0 d1 d2 d3 d4 d5 d6 d7
          have bx8 := BX.out.ext xq
          have p0 := bx8.c 0 _ rfl; have p1 := bx8.c 1 _ rfl; have p2 := bx8.c 2 _ rfl; have p3 := bx8.c 3 _ rfl; have p4 := bx8.c 4 _ rfl; have p5 := bx8.c 5 _ rfl; have p6 := bx8.c 6 _ rfl
          have zb := (PR.out.box.chg HC7.out nq).ext xq
          have ZB := Lib.hid zb
          have q0 := zb.c 0 _ rfl; have q1 := zb.c 1 _ rfl; have q2 := zb.c 2 _ rfl; have q3 := zb.c 3 _ rfl; have q4 := zb.c 4 _ rfl; have q5 := zb.c 5 _ rfl; have q6 := zb.c 6 _ rfl; have f0 := zb.f 0; have f1 := zb.f 1; have f2 := zb.f 2; have f3 := zb.f 3; have f4 := zb.f 4; have f5 := zb.f 5; have f6 := zb.f 6
          have lz' := zb.lt; have ly' := bx8.lt
          clear bx8 zb
          go_wp2_with fail
          go_roundw
          case rel =>
            exact ⟨k + 1, d6, cap6, _, by omega, by omega, by go_num, Lib.hid (PR.out.step (HO7.out.ext xq) (HD7.out.ext xq) (HC7.out.trans (Chg.of_ext xq)) (chg7 _ zq (.slice (some ⟨d6, 0, none⟩) c.ts.length cap6) (.int .i64 t) (.slice (some ⟨lb, 0, none⟩) (nS c t) lc) (.slice (some ⟨fb, 0, none⟩) (nG c t) fc) (.slice (some ⟨mb, 0, none⟩) (nG c t) mc) (.int .i64 (wordsOf c t)) (.slice ca0 c.cl.length cc0)) (ZB.out.set7 (.slice (some ⟨d6, 0, none⟩) c.ts.length cap6) (.int .i64 t) (.slice (some ⟨lb, 0, none⟩) (nS c t) lc) (.slice (some ⟨fb, 0, none⟩) (nG c t) fc) (.slice (some ⟨mb, 0, none⟩) (nG c t) mc) (.int .i64 (wordsOf c t)) (.slice ca0 c.cl.length cc0)))⟩
          case measure => simp [intOf] <;> omega
      all_goals as_aux_lemma =>
        go_upto_region 11 with fail
        have q0 := PR.out.box.c 0 _ rfl
        have XX : Ext wr wr := Ext.refl _
        have XD : Ext wr wr.drew := XX.drew
        have WM := Lib.hid (show ws.length ≤ maxLen by have := PR.out.body.mem.ok.total_le; rw [PR.out.body.mem.len]; unfold maxLen; omega)
        go_region_held3 (fun w' => w'.cell? ⟨zq, 0, none⟩ = some (.slice (some ⟨d, 0, none⟩) c.ts.length cap))
          ((first | go_keep | (exact hE.cell (by assumption))))
          ((first
            | (go_at_call 18; refine (mem_All (PR.out.body.mem.ext ?_)).mono ?_; assumption; rintro e w4 ⟨a4, c4, rfl, hn4, hE⟩; have hE4 := hE; have hX4 : Ext wr w4 := Ext.trans (by assumption) hE)
            | (go_at_call 19; refine (ref07_All (PR.out.doc.doc.ext ?_)).mono ?_; assumption; rintro e w5 ⟨a5, c5, rfl, hn5, hE⟩; have hE5 := hE; have hX5 : Ext wr w5 := Ext.trans (by assumption) hE)
            | (go_at_call 17; refine (ref03_Same ws ws true (by simp) ?_ ?_ WM.out WM.out).mono ?_; (first | exact hn4.row | exact hn4.row.ext hE5); (first | exact hn5.row | exact hn5.row.ext hE4); rintro e w6 ⟨rfl, hE⟩; have hX6 : Ext wr w6 := Ext.trans (by assumption) hE)
            | (go_at_call 9; refine (law11_awake _ (PR.out.body.wid.ext ?_)).mono ?_; assumption; rintro e w7 ⟨rfl, hE⟩; have hX7 : Ext wr w7 := Ext.trans (by assumption) hE)))
        all_goals
          go_wp2_with fail
          go_ret
          exact ⟨rfl, X0.out.trans (PR.out.ext.trans hX7)⟩
  · have CM := Lib.hid (law11_made_no c tn (by
      by_cases h1 : bigB c = true
      · exact .inl h1
      · exact .inr fun h2 => hg ⟨by simpa using h1, h2⟩) (H.out.ext X0.out))
    clear hg
    go_enter Tryz.func4, Tryz.ntmps4
    go_wp2_with fail
    clear hW0 hz b0 b1 b2 b3 b4 b5 bz
    refine CM.out.mono ?_
    rintro e w1 ⟨rfl, x1⟩
    have X1 := Lib.hid x1
    clear x1 CM
    go_wp2_with fail
    refine (law11_awake _ (HW.out.ext (X0.out.trans (X1.out.trans ((Ext.refl _).alloc _))))).mono ?_
    rintro e w2 ⟨rfl, x2⟩
    go_wp2_with fail
    go_ret
    exact ⟨rfl, X0.out.trans (X1.out.trans (((Ext.refl _).alloc _).trans x2))⟩

end Go.Proofs.YtnbngcagnchkdaaGreatDoor
