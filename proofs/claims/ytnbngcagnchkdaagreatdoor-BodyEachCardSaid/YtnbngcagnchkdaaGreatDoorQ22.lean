/-
  Merged texts: Law11o.
-/
import Derived.Test.YtnbngcagnchkdaaGreatDoorQ15
import Derived.Test.YtnbngcagnchkdaaGreatDoorQ19
import Derived.Test.YtnbngcagnchkdaaGreatDoorQ20
import Derived.Test.YtnbngcagnchkdaaGreatDoorQ09
import Derived.IntWalk
set_option linter.unusedVariables false
set_option linter.unusedSimpArgs false
/-! commonagelaw11: BodyEach. (Printed by wip/gen11p.py.) -/
namespace Go.Proofs.YtnbngcagnchkdaaGreatDoor
open Go.RowKit
variable {w w' W : World}

set_option maxRecDepth 100000 in
set_option maxHeartbeats 32000000 in
theorem law11_BodyEach {ca0 ta la : Option Addr} {cc0 tc lcc : Nat} (c : Conf) (l : List OAct) (y : OAct) (w : World) (hW : Wid w) (h : CfgAt w ca0 ta cc0 tc c) (hl : OActAt w la l) (hlm : l.length ≤ maxLen) (hy : y.Ok) :
    Calls Tryz.prog 3 #[.agg #[.slice ca0 c.cl.length cc0, .int .i64 c.page, .slice ta c.ts.length tc, .int .i64 c.wk, .int .i64 c.gr, .int .i64 c.gens], .slice la l.length lcc, .agg #[.int .u8 y.what, .int .i64 y.slot, .int .i64 y.i, .int .i64 y.to, .int .u64 y.w, .int .i64 y.hc, .int .i64 y.hr, .int .i64 y.hw]] w fun e w' => e = .returned (.bool true) ∧ Ext w w' := by
  have H := Lib.hid h; have HW := Lib.hid hW
  clear h hW
  have HL := Lib.hid hl; have HY := Lib.hid hy
  unfold maxLen at hlm
  clear hl hy
  obtain ⟨z, hz⟩ : ∃ z, w.heap.size = z := ⟨_, rfl⟩
  obtain ⟨W0, hW0, hB0, hY0, hX0⟩ := ba2 w hz ca0 ta cc0 tc c y
  have X0 := Lib.hid hX0; have B0 := Lib.hid hB0; have Y0 := Lib.hid hY0
  clear hX0 hB0 hY0
  have b0 := B0.out.c 0 _ rfl; have b1 := B0.out.c 1 _ rfl; have b2 := B0.out.c 2 _ rfl; have b3 := B0.out.c 3 _ rfl; have b4 := B0.out.c 4 _ rfl; have b5 := B0.out.c 5 _ rfl
  have bz := B0.out.lt
  by_cases hg : bigB c = false ∧ kcheck c = 0
  · obtain ⟨hg, h0⟩ := hg
    have ho := kcheck_ok h0
    have hi : 0 < c.ts.length := ho.head.2.2.1
    have CM := Lib.hid (law11_made (t := 0) c 0 (HW.out.ext X0.out) hg h0 (by decide) hi (by simp) (H.out.ext X0.out))
    obtain ⟨t, ht⟩ : ∃ t, 0 = t := ⟨0, rfl⟩
    rw [ht] at CM hi
    clear hg h0 ho ht
    go_enter Tryz.func3, Tryz.ntmps3
    go_wp2_with fail
    clear hW0 hz b0 b1 b2 b3 b4 b5 bz
    refine CM.out.mono ?_
    rintro e w1 ⟨bb, mm, gw, gb, pb, gp, d0, cap0, lb, lc, fb, fc, mb, mc, rfl, hb, hd, x1, hg⟩
    have HB := Lib.hid hb; have HD := Lib.hid hd; have X1 := Lib.hid x1; have HG := Lib.hid hg
    clear CM hb hd x1 hg
    go_upto_region 5 with fail
    obtain ⟨zq, hzq⟩ : ∃ zq, w1.heap.size = zq := ⟨_, rfl⟩
    obtain ⟨W1, hW1⟩ : ∃ W, w1.alloc (.cells #[.slice (some ⟨d0, 0, none⟩) c.ts.length cap0, .int .i64 t, .slice (some ⟨lb, 0, none⟩) (nS c t) lc, .slice (some ⟨fb, 0, none⟩) (nG c t) fc, .slice (some ⟨mb, 0, none⟩) (nG c t) mc, .int .i64 (wordsOf c t), .slice ca0 c.cl.length cc0] 41) = W := ⟨_, rfl⟩
    have HP : Hid (PlayB W0 bb mm gw gb pb gp zq d0 cap0 lb lc fb fc mb mc cc0 ca0 c t (List.replicate (totalN c) 0) W1) := Lib.hid (by
      rw [← hW1]
      exact PlayB.start HB.out HD.out X1.out HG.out hzq)
    rw [hW1, hzq]
    clear HB HD X1 HG hW1 hzq
    go_loopw [10] (fun kv wr => ∃ (k d cap : Nat) (ws : List Int), k ≤ l.length ∧ k ≤ 40 ∧ kv = .int .i64 k ∧ Hid (PlayB W0 bb mm gw gb pb gp zq d cap lb lc fb fc mb mc cc0 ca0 c t ws wr) ∧ Hid (RefOk c t ws)) (fun kv _ => 40 - (intOf kv).toNat)
    case atStart => exact ⟨0, d0, cap0, _, Nat.zero_le _, Nat.zero_le _, rfl, HP, Lib.hid (refOk_rep c t _)⟩
    case round =>
      clear HP
      obtain ⟨k, d, cap, ws, hk, hk40, rfl, PR, GD⟩ := hrel
      rcases (show (k < l.length ∧ k < 40) ∨ (k < l.length ∧ k = 40) ∨ k = l.length by omega) with ⟨hlt, h40⟩ | ⟨hlt, rfl⟩ | rfl
      · as_aux_lemma =>
        obtain ⟨ok, ab, ao, rfl, c0, c1, c2, c3, c4, c5, c6, c7⟩ := HL.out k hlt
        have OK := Lib.hid ok
        have XW := Lib.hid (X0.out.trans PR.out.ext)
        replace c0 := XW.out.cell c0; replace c1 := XW.out.cell c1; replace c2 := XW.out.cell c2; replace c3 := XW.out.cell c3; replace c4 := XW.out.cell c4; replace c5 := XW.out.cell c5; replace c6 := XW.out.cell c6; replace c7 := XW.out.cell c7
        clear ok
        generalize oActnth l k = y9 at *
        have q0 := PR.out.box.c 0 _ rfl; have q1 := PR.out.box.c 1 _ rfl; have q2 := PR.out.box.c 2 _ rfl; have q3 := PR.out.box.c 3 _ rfl; have q4 := PR.out.box.c 4 _ rfl; have q5 := PR.out.box.c 5 _ rfl; have q6 := PR.out.box.c 6 _ rfl
        have nq : ¬ isB gw zq := PR.out.ng
        have hk0 : (0 : Int) ≤ (k : Int) := Int.natCast_nonneg _
        have hk1 : (k : Int) < (l.length : Int) := by omega
        have CD := Lib.hid (law11_does_in (y := y9) PR.out (Ext.refl _).drew OK.out)
        have GA := Lib.hid (GD.out.act PR.out.body.ko PR.out.body.ti PR.out.body.mem.len y9.what y9.slot y9.i y9.to y9.w ⟨y9.hc, y9.hr, y9.hw⟩)
        go_upto_region 7 with fail
        go_region_with ((go_at_call 10; refine CD.out.mono ?_; rintro e w6 ⟨d6, cap6, rfl, hb6, hd6, hc6⟩; have zb := (PR.out.box.ext (Ext.refl _).drew).chg hc6 nq; have z0 := zb.c 0 _ rfl; have z1 := zb.c 1 _ rfl; have z2 := zb.c 2 _ rfl; have z3 := zb.c 3 _ rfl; have z4 := zb.c 4 _ rfl; have z5 := zb.c 5 _ rfl; have z6 := zb.c 6 _ rfl; have y0 := zb.f 0; have y1 := zb.f 1; have y2 := zb.f 2; have y3 := zb.f 3; have y4 := zb.f 4; have y5 := zb.f 5; have y6 := zb.f 6; clear zb))
        all_goals
          have zb := (PR.out.box.ext (Ext.refl _).drew).chg hc6 nq
          have PS := Lib.hid (PR.out.step hb6 (hd6.swap (Q := fun k => k = gw ∨ k = zq) fun k _ e => .inl e) ((Chg.of_ext (Ext.refl _).drew).trans hc6) (chg7 w6 zq (.slice (some ⟨d6, 0, none⟩) c.ts.length cap6) (.int .i64 t) (.slice (some ⟨lb, 0, none⟩) (nS c t) lc) (.slice (some ⟨fb, 0, none⟩) (nG c t) fc) (.slice (some ⟨mb, 0, none⟩) (nG c t) mc) (.int .i64 (wordsOf c t)) (.slice ca0 c.cl.length cc0)) (zb.set7 (.slice (some ⟨d6, 0, none⟩) c.ts.length cap6) (.int .i64 t) (.slice (some ⟨lb, 0, none⟩) (nS c t) lc) (.slice (some ⟨fb, 0, none⟩) (nG c t) fc) (.slice (some ⟨mb, 0, none⟩) (nG c t) mc) (.int .i64 (wordsOf c t)) (.slice ca0 c.cl.length cc0)))
          clear zb hb6 hd6 hc6 CD q0 q1 q2 q3 q4 q5 q6 z0 z1 z2 z3 z4 z5 z6 y0 y1 y2 y3 y4 y5 y6 c0 c1 c2 c3 c4 c5 c6 c7
          go_wp2_with fail
          go_roundw
          case rel => exact ⟨k + 1, d6, cap6, _, by omega, by omega, by go_num, PS, GA⟩
          case measure => simp [intOf] <;> omega
      all_goals as_aux_lemma =>
        go_upto_region 8 with fail
        obtain ⟨hd, kh, hh⟩ : ∃ hd kh, bHead c t ws y.slot = (hd, kh) := ⟨_, _, rfl⟩
        have HH := Lib.hid hh
        have CH := Lib.hid (body_Head PR.out.body hh)
        clear hh
        have ybx := Y0.out.ext PR.out.ext
        have y0 := ybx.c 0 _ rfl; have y1 := ybx.c 1 _ rfl; have y2 := ybx.c 2 _ rfl; have y3 := ybx.c 3 _ rfl; have y4 := ybx.c 4 _ rfl; have y5 := ybx.c 5 _ rfl; have y6 := ybx.c 6 _ rfl; have y7 := ybx.c 7 _ rfl
        have ly := ybx.lt
        clear ybx
        go_wp2_with fail
        refine CH.out.mono ?_
        rintro e w2 ⟨rfl, x2⟩
        clear y0 y1 y2 y3 y4 y5 y6 y7 ly
        go_upto_region 9 with fail
        obtain ⟨zh, hzh⟩ : ∃ zh, w2.heap.size = zh := ⟨_, rfl⟩
        obtain ⟨W3, hW3⟩ : ∃ W, w2.alloc (.cells #[.int .i64 hd.c, .int .i64 hd.r, .int .i64 hd.w] 29) = W := ⟨_, rfl⟩
        have X3 := Lib.hid (show Ext wr W3 by rw [← hW3]; exact x2.trans ((Ext.refl _).alloc _))
        have BX : Hid (BoxG W3 zh [.int .i64 hd.c, .int .i64 hd.r, .int .i64 hd.w]) := Lib.hid (by rw [← hW3]; exact BoxG.new w2 _ _ hzh)
        rw [hW3, hzh]
        clear CH x2 hW3 hzh
        by_cases hk0 : kh = 0
        · subst hk0
          as_aux_lemma =>
            obtain ⟨C, R0, M0⟩ := hd
            have li := head_lies HH.out
            obtain ⟨_, r0, w0, r63, w63⟩ := li.2.1
            simp only at r0 w0 r63 w63
            obtain ⟨R, rfl⟩ := Int.eq_ofNat_of_zero_le r0
            obtain ⟨M, rfl⟩ := Int.eq_ofNat_of_zero_le w0
            clear li r0 w0
            obtain ⟨xs, hxs, lxs, fxs⟩ := bRefs_full HH.out GD.out
            obtain ⟨ys, hys, lys, fys⟩ := bWords_full HH.out
            simp only [Int.toNat_natCast] at lxs lys fxs fys
            have CR := Lib.hid (body_Refs (PR.out.body.ext X3.out) hxs)
            have CW := Lib.hid (fun (W : World) (hx : Ext W3 W) => body_Words (PR.out.body.ext (X3.out.trans hx)) hys)
            rw [lxs] at CR
            rw [lys] at CW
            have FX := Lib.hid fxs; have FY := Lib.hid fys; have LX := Lib.hid lxs; have LY := Lib.hid lys
            clear hxs hys lxs lys fxs fys
            have ybx := Y0.out.ext (PR.out.ext.trans X3.out)
            have y0 := ybx.c 0 _ rfl; have y1 := ybx.c 1 _ rfl; have y2 := ybx.c 2 _ rfl; have y3 := ybx.c 3 _ rfl; have y4 := ybx.c 4 _ rfl; have y5 := ybx.c 5 _ rfl; have y6 := ybx.c 6 _ rfl; have y7 := ybx.c 7 _ rfl
            have ly := ybx.lt
            clear ybx
            go_wp2_with fail
            refine CR.out.mono ?_
            rintro e w4 ⟨a4, c4, rfl, h4, x4⟩
            have H4 := Lib.hid h4
            clear h4
            clear y0 y1 y2 y3 y4 y5 y6 y7 ly
            have ybx := Y0.out.ext (PR.out.ext.trans (X3.out.trans x4))
            have y0 := ybx.c 0 _ rfl; have y1 := ybx.c 1 _ rfl; have y2 := ybx.c 2 _ rfl; have y3 := ybx.c 3 _ rfl; have y4 := ybx.c 4 _ rfl; have y5 := ybx.c 5 _ rfl; have y6 := ybx.c 6 _ rfl; have y7 := ybx.c 7 _ rfl
            have ly := ybx.lt
            clear ybx
            go_wp2_with fail
            refine (CW.out _ x4).mono ?_
            rintro e w5 ⟨a5, c5, rfl, h5, x5⟩
            replace H4 := Lib.hid (H4.out.ext x5)
            have H5 := Lib.hid h5
            have X5 := Lib.hid (X3.out.trans (x4.trans x5))
            have BX5 := Lib.hid (BX.out.ext (x4.trans x5))
            clear h5 CR CW x4 x5
            clear y0 y1 y2 y3 y4 y5 y6 y7 ly
            have p0 := BX5.out.c 0 _ rfl; have p1 := BX5.out.c 1 _ rfl; have p2 := BX5.out.c 2 _ rfl
            have lp := BX5.out.lt
            go_upto_region 16 with fail
            clear p0 p1 p2 lp
            go_loopw [17] (fun kv wr => ∃ i : Int, -1 ≤ i ∧ i ≤ (R : Int) + M + 1 ∧ kv = .int .i64 i ∧ Hid (Ext w5 wr)) (fun kv _ => ((R : Int) + M + 1 - intOf kv).toNat)
            case atStart => exact ⟨-1, by omega, by omega, rfl, Lib.hid (Ext.refl _)⟩
            case round =>
              obtain ⟨i, hi1, hi2, rfl, XR⟩ := hrel
              have pb := BX5.out.ext XR.out
              have p0 := pb.c 0 _ rfl; have p1 := pb.c 1 _ rfl; have p2 := pb.c 2 _ rfl
              have lp := pb.lt
              clear pb
              by_cases hend : i = (R : Int) + M + 1
              · as_aux_lemma =>
                subst hend
                have tl : decide ((R : Int) + M + 1 ≤ (R : Int) + M) = false := decide_eq_false (by omega)
                have CA := Lib.hid (law11_awake wr (PR.out.body.wid.ext (X5.out.trans XR.out)))
                go_wp2_with fail
                refine CA.out.mono ?_
                rintro e w6 ⟨rfl, x6⟩
                go_wp2_with fail
                go_ret
                exact ⟨rfl, X0.out.trans (PR.out.ext.trans (X5.out.trans (XR.out.trans x6)))⟩
              · as_aux_lemma =>
                have hlt : i ≤ (R : Int) + M := by omega
                have tl : decide (i ≤ (R : Int) + M) = true := decide_eq_true hlt
                have hws : IntKind.i64.wrap ((R : Int) + M) = (R : Int) + M := IntWalk.i64_in _ (by omega)
                clear hend
                rcases (show i = -1 ∨ (0 ≤ i ∧ i < (R : Int)) ∨ ((R : Int) ≤ i ∧ i < (R : Int) + M) ∨ i = (R : Int) + M by omega) with hA | hB | hC | hD
                · as_aux_lemma =>
                    subst hA
                    have FR := bRef_no (i := -1) HH.out (.inl (by omega))
                    have FW := bWord_no (i := -1) HH.out (.inl (by simp only; omega))
                    have t0 : decide ((0 : Int) ≤ (-1 : Int)) = false := decide_eq_false (by omega)
                    have t1 : decide ((-1 : Int) < (R : Int)) = true := decide_eq_true (by omega)
                    have t2 : decide ((R : Int) ≤ (-1 : Int)) = false := decide_eq_false (by omega)
                    have t3 : decide ((-1 : Int) < (R : Int) + M) = true := decide_eq_true (by omega)
                    have CF := Lib.hid (body_Ref (PR.out.body.ext (X5.out.trans XR.out)) FR)
                    have CG := Lib.hid (fun (W : World) (hx : Ext wr W) => body_Word (PR.out.body.ext (X5.out.trans (XR.out.trans hx))) FW)
                    clear FR FW
                    have ybx := Y0.out.ext (PR.out.ext.trans (X5.out.trans XR.out))
                    have y0 := ybx.c 0 _ rfl; have y1 := ybx.c 1 _ rfl; have y2 := ybx.c 2 _ rfl; have y3 := ybx.c 3 _ rfl; have y4 := ybx.c 4 _ rfl; have y5 := ybx.c 5 _ rfl; have y6 := ybx.c 6 _ rfl; have y7 := ybx.c 7 _ rfl
                    have ly := ybx.lt
                    clear ybx
                    go_wp2_with fail
                    refine CF.out.mono ?_
                    rintro e w6 ⟨rfl, x6⟩
                    clear y0 y1 y2 y3 y4 y5 y6 y7 ly
                    have ybx := Y0.out.ext (PR.out.ext.trans (X5.out.trans (XR.out.trans x6)))
                    have y0 := ybx.c 0 _ rfl; have y1 := ybx.c 1 _ rfl; have y2 := ybx.c 2 _ rfl; have y3 := ybx.c 3 _ rfl; have y4 := ybx.c 4 _ rfl; have y5 := ybx.c 5 _ rfl; have y6 := ybx.c 6 _ rfl; have y7 := ybx.c 7 _ rfl
                    have ly := ybx.lt
                    clear ybx
                    go_wp2_with fail
                    refine (CG.out _ x6).mono ?_
                    rintro e w7 ⟨rfl, x7⟩
                    clear y0 y1 y2 y3 y4 y5 y6 y7 ly
                    clear CF CG p0 p1 p2 lp
                    have XS := Lib.hid (XR.out.trans (x6.trans x7))
                    clear x6 x7
                    have pb := BX5.out.ext XS.out
                    have p0 := pb.c 0 _ rfl; have p1 := pb.c 1 _ rfl; have p2 := pb.c 2 _ rfl
                    have lp := pb.lt
                    clear pb
                    go_upto_region 20 with fail
                    refine wp_region_quiet_lit (by kernel_rfl) (by kernel_rfl) ?_
                    repeat (any_goals (first | go_big_quiet_step (fail) | quiet_step (fail) | simp only [t0,t1,t2,t3,hws]))
                    all_goals (refine wpQuiet_nil ?_; intro _ hw'; obtain ⟨nq, hw''⟩ := hw'; subst hw'')
                    go_wp2_with fail
                    go_roundw
                    case rel => exact ⟨(-1 : Int) + 1, by omega, by omega, by go_num, Lib.hid (XS.out.trans ((Ext.refl _).drewN nq))⟩
                    case measure => simp [intOf] <;> omega
                · as_aux_lemma =>
                    obtain ⟨j, rfl⟩ := Int.eq_ofNat_of_zero_le hB.1
                    have hj : j < R := by omega
                    have FR := FX.out j hj
                    have FW := bWord_no (i := (j : Int)) HH.out (.inl (by simp only; omega))
                    have s1 : decide (j < R) = true := decide_eq_true hj
                    have s2 : decide (R ≤ j) = false := decide_eq_false (by omega)
                    have s3 : decide (j < R + M) = true := decide_eq_true (by omega)
                    have t0 : decide ((0 : Int) ≤ (j : Int)) = true := decide_eq_true (by omega)
                    have t1 : decide ((j : Int) < (R : Int)) = true := decide_eq_true (by omega)
                    have t2 : decide ((R : Int) ≤ (j : Int)) = false := decide_eq_false (by omega)
                    have t3 : decide ((j : Int) < (R : Int) + M) = true := decide_eq_true (by omega)
                    have CF := Lib.hid (body_Ref (PR.out.body.ext (X5.out.trans XR.out)) FR)
                    have CG := Lib.hid (fun (W : World) (hx : Ext wr W) => body_Word (PR.out.body.ext (X5.out.trans (XR.out.trans hx))) FW)
                    clear FR FW
                    have ybx := Y0.out.ext (PR.out.ext.trans (X5.out.trans XR.out))
                    have y0 := ybx.c 0 _ rfl; have y1 := ybx.c 1 _ rfl; have y2 := ybx.c 2 _ rfl; have y3 := ybx.c 3 _ rfl; have y4 := ybx.c 4 _ rfl; have y5 := ybx.c 5 _ rfl; have y6 := ybx.c 6 _ rfl; have y7 := ybx.c 7 _ rfl
                    have ly := ybx.lt
                    clear ybx
                    go_wp2_with fail
                    refine CF.out.mono ?_
                    rintro e w6 ⟨rfl, x6⟩
                    clear y0 y1 y2 y3 y4 y5 y6 y7 ly
                    have ybx := Y0.out.ext (PR.out.ext.trans (X5.out.trans (XR.out.trans x6)))
                    have y0 := ybx.c 0 _ rfl; have y1 := ybx.c 1 _ rfl; have y2 := ybx.c 2 _ rfl; have y3 := ybx.c 3 _ rfl; have y4 := ybx.c 4 _ rfl; have y5 := ybx.c 5 _ rfl; have y6 := ybx.c 6 _ rfl; have y7 := ybx.c 7 _ rfl
                    have ly := ybx.lt
                    clear ybx
                    go_wp2_with fail
                    refine (CG.out _ x6).mono ?_
                    rintro e w7 ⟨rfl, x7⟩
                    clear y0 y1 y2 y3 y4 y5 y6 y7 ly
                    clear CF CG p0 p1 p2 lp
                    have XS := Lib.hid (XR.out.trans (x6.trans x7))
                    clear x6 x7
                    have pb := BX5.out.ext XS.out
                    have p0 := pb.c 0 _ rfl; have p1 := pb.c 1 _ rfl; have p2 := pb.c 2 _ rfl
                    have lp := pb.lt
                    clear pb
                    obtain ⟨qb, qo, rfl, cj⟩ := (H4.out.ext XS.out) j (by rw [LX.out]; exact hj)
                    have j0 : (0 : Int) ≤ (j : Int) := Int.natCast_nonneg _
                    have j1 : (j : Int) < (R : Int) := by omega
                    go_upto_region 20 with fail
                    refine wp_region_quiet_lit (by kernel_rfl) (by kernel_rfl) ?_
                    repeat (any_goals (first | go_big_quiet_step (fail) | quiet_step (fail) | simp only [t0,t1,t2,t3,s1,s2,s3,hws]))
                    all_goals (refine wpQuiet_nil ?_; intro _ hw'; obtain ⟨nq, hw''⟩ := hw'; subst hw'')
                    go_wp2_with fail
                    go_roundw
                    case rel => exact ⟨(j : Int) + 1, by omega, by omega, by go_num, Lib.hid (XS.out.trans ((Ext.refl _).drewN nq))⟩
                    case measure => simp [intOf] <;> omega
                · as_aux_lemma =>
                    obtain ⟨j, rfl⟩ : ∃ j : Nat, i = (R : Int) + j := ⟨(i - R).toNat, by omega⟩
                    have hj : j < M := by omega
                    have FR := bRef_no (i := (R : Int) + j) HH.out (.inr (by simp only; omega))
                    have FW := FY.out j hj
                    have t0 : decide ((0 : Int) ≤ ((R : Int) + j)) = true := decide_eq_true (by omega)
                    have t1 : decide (((R : Int) + j) < (R : Int)) = false := decide_eq_false (by omega)
                    have t2 : decide ((R : Int) ≤ ((R : Int) + j)) = true := decide_eq_true (by omega)
                    have t3 : decide (((R : Int) + j) < (R : Int) + M) = true := decide_eq_true (by omega)
                    have CF := Lib.hid (body_Ref (PR.out.body.ext (X5.out.trans XR.out)) FR)
                    have CG := Lib.hid (fun (W : World) (hx : Ext wr W) => body_Word (PR.out.body.ext (X5.out.trans (XR.out.trans hx))) FW)
                    clear FR FW
                    have ybx := Y0.out.ext (PR.out.ext.trans (X5.out.trans XR.out))
                    have y0 := ybx.c 0 _ rfl; have y1 := ybx.c 1 _ rfl; have y2 := ybx.c 2 _ rfl; have y3 := ybx.c 3 _ rfl; have y4 := ybx.c 4 _ rfl; have y5 := ybx.c 5 _ rfl; have y6 := ybx.c 6 _ rfl; have y7 := ybx.c 7 _ rfl
                    have ly := ybx.lt
                    clear ybx
                    go_wp2_with fail
                    refine CF.out.mono ?_
                    rintro e w6 ⟨rfl, x6⟩
                    clear y0 y1 y2 y3 y4 y5 y6 y7 ly
                    have ybx := Y0.out.ext (PR.out.ext.trans (X5.out.trans (XR.out.trans x6)))
                    have y0 := ybx.c 0 _ rfl; have y1 := ybx.c 1 _ rfl; have y2 := ybx.c 2 _ rfl; have y3 := ybx.c 3 _ rfl; have y4 := ybx.c 4 _ rfl; have y5 := ybx.c 5 _ rfl; have y6 := ybx.c 6 _ rfl; have y7 := ybx.c 7 _ rfl
                    have ly := ybx.lt
                    clear ybx
                    go_wp2_with fail
                    refine (CG.out _ x6).mono ?_
                    rintro e w7 ⟨rfl, x7⟩
                    clear y0 y1 y2 y3 y4 y5 y6 y7 ly
                    clear CF CG p0 p1 p2 lp
                    have XS := Lib.hid (XR.out.trans (x6.trans x7))
                    clear x6 x7
                    have pb := BX5.out.ext XS.out
                    have p0 := pb.c 0 _ rfl; have p1 := pb.c 1 _ rfl; have p2 := pb.c 2 _ rfl
                    have lp := pb.lt
                    clear pb
                    obtain ⟨qb, qo, rfl, cj⟩ := (H5.out.ext XS.out) j (by rw [LY.out]; exact hj)
                    have j0 : (0 : Int) ≤ (j : Int) := Int.natCast_nonneg _
                    have j1 : (j : Int) < (M : Int) := by omega
                    have hsb : (R : Int) + j - R = j := by omega
                    go_upto_region 20 with fail
                    refine wp_region_quiet_lit (by kernel_rfl) (by kernel_rfl) ?_
                    repeat (any_goals (first | go_big_quiet_step (fail) | quiet_step (fail) | simp only [t0,t1,t2,t3,hws]))
                    all_goals (refine wpQuiet_nil ?_; intro _ hw'; obtain ⟨nq, hw''⟩ := hw'; subst hw'')
                    go_wp2_with fail
                    go_roundw
                    case rel => exact ⟨((R : Int) + j) + 1, by omega, by omega, by go_num, Lib.hid (XS.out.trans ((Ext.refl _).drewN nq))⟩
                    case measure => simp [intOf] <;> omega
                · as_aux_lemma =>
                    have FR := bRef_no (i := i) HH.out (.inr (by simp only; omega))
                    have FW := bWord_no (i := i) HH.out (.inr (by simp only; omega))
                    have t0 : decide ((0 : Int) ≤ i) = true := decide_eq_true (by omega)
                    have t1 : decide (i < (R : Int)) = false := decide_eq_false (by omega)
                    have t2 : decide ((R : Int) ≤ i) = true := decide_eq_true (by omega)
                    have t3 : decide (i < (R : Int) + M) = false := decide_eq_false (by omega)
                    have HD := Lib.hid hD
                    clear hD
                    have CF := Lib.hid (body_Ref (PR.out.body.ext (X5.out.trans XR.out)) FR)
                    have CG := Lib.hid (fun (W : World) (hx : Ext wr W) => body_Word (PR.out.body.ext (X5.out.trans (XR.out.trans hx))) FW)
                    clear FR FW
                    have ybx := Y0.out.ext (PR.out.ext.trans (X5.out.trans XR.out))
                    have y0 := ybx.c 0 _ rfl; have y1 := ybx.c 1 _ rfl; have y2 := ybx.c 2 _ rfl; have y3 := ybx.c 3 _ rfl; have y4 := ybx.c 4 _ rfl; have y5 := ybx.c 5 _ rfl; have y6 := ybx.c 6 _ rfl; have y7 := ybx.c 7 _ rfl
                    have ly := ybx.lt
                    clear ybx
                    go_wp2_with fail
                    refine CF.out.mono ?_
                    rintro e w6 ⟨rfl, x6⟩
                    clear y0 y1 y2 y3 y4 y5 y6 y7 ly
                    have ybx := Y0.out.ext (PR.out.ext.trans (X5.out.trans (XR.out.trans x6)))
                    have y0 := ybx.c 0 _ rfl; have y1 := ybx.c 1 _ rfl; have y2 := ybx.c 2 _ rfl; have y3 := ybx.c 3 _ rfl; have y4 := ybx.c 4 _ rfl; have y5 := ybx.c 5 _ rfl; have y6 := ybx.c 6 _ rfl; have y7 := ybx.c 7 _ rfl
                    have ly := ybx.lt
                    clear ybx
                    go_wp2_with fail
                    refine (CG.out _ x6).mono ?_
                    rintro e w7 ⟨rfl, x7⟩
                    clear y0 y1 y2 y3 y4 y5 y6 y7 ly
                    clear CF CG p0 p1 p2 lp
                    have XS := Lib.hid (XR.out.trans (x6.trans x7))
                    clear x6 x7
                    have pb := BX5.out.ext XS.out
                    have p0 := pb.c 0 _ rfl; have p1 := pb.c 1 _ rfl; have p2 := pb.c 2 _ rfl
                    have lp := pb.lt
                    clear pb
                    clear hlt tl
                    go_upto_region 20 with fail
                    refine wp_region_quiet_lit (by kernel_rfl) (by kernel_rfl) ?_
                    repeat (any_goals (first | go_big_quiet_step (fail) | quiet_step (fail) | simp only [t0,t1,t2,t3,hws]))
                    all_goals (refine wpQuiet_nil ?_; intro _ hw'; obtain ⟨nq, hw''⟩ := hw'; subst hw'')
                    go_wp2_with fail
                    go_roundw
                    case rel => exact ⟨i + 1, by have := HD.out; omega, by have := HD.out; omega, by go_num, Lib.hid (XS.out.trans ((Ext.refl _).drewN nq))⟩
                    case measure => (have := HD.out; simp [intOf] <;> omega)
        · as_aux_lemma =>
            have bad := bRefs_bad HH.out hk0
            have CR := Lib.hid (body_Refs (PR.out.body.ext X3.out) bad.1)
            have CW := Lib.hid (fun (W : World) (hx : Ext W3 W) => body_Words (PR.out.body.ext (X3.out.trans hx)) bad.2)
            have t0 : (kh == 0) = false := by simpa using hk0
            have t1 : (kh != 0) = true := by simpa using hk0
            clear bad hk0
            have ybx := Y0.out.ext (PR.out.ext.trans X3.out)
            have y0 := ybx.c 0 _ rfl; have y1 := ybx.c 1 _ rfl; have y2 := ybx.c 2 _ rfl; have y3 := ybx.c 3 _ rfl; have y4 := ybx.c 4 _ rfl; have y5 := ybx.c 5 _ rfl; have y6 := ybx.c 6 _ rfl; have y7 := ybx.c 7 _ rfl
            have ly := ybx.lt
            clear ybx
            go_wp2_with fail
            refine CR.out.mono ?_
            rintro e w4 ⟨a4, c4, rfl, h4, x4⟩
            clear h4
            clear y0 y1 y2 y3 y4 y5 y6 y7 ly
            have ybx := Y0.out.ext (PR.out.ext.trans (X3.out.trans x4))
            have y0 := ybx.c 0 _ rfl; have y1 := ybx.c 1 _ rfl; have y2 := ybx.c 2 _ rfl; have y3 := ybx.c 3 _ rfl; have y4 := ybx.c 4 _ rfl; have y5 := ybx.c 5 _ rfl; have y6 := ybx.c 6 _ rfl; have y7 := ybx.c 7 _ rfl
            have ly := ybx.lt
            clear ybx
            go_wp2_with fail
            refine (CW.out _ x4).mono ?_
            rintro e w5 ⟨a5, c5, rfl, h5, x5⟩
            clear h5 CR CW
            clear y0 y1 y2 y3 y4 y5 y6 y7 ly
            have CA := Lib.hid (law11_awake w5 (PR.out.body.wid.ext (X3.out.trans (x4.trans x5))))
            have X5 := Lib.hid (X3.out.trans (x4.trans x5))
            clear x4 x5
            go_wp2_with fail
            refine CA.out.mono ?_
            rintro e w6 ⟨rfl, x6⟩
            clear CA
            go_wp2_with fail
            go_ret
            exact ⟨rfl, X0.out.trans (PR.out.ext.trans (X5.out.trans x6))⟩
  · have CM := Lib.hid (law11_made_no c 0 (by
      by_cases h1 : bigB c = true
      · exact .inl h1
      · exact .inr fun h2 => hg ⟨by simpa using h1, h2⟩) (H.out.ext X0.out))
    clear hg
    go_enter Tryz.func3, Tryz.ntmps3
    go_wp2_with fail
    clear hW0 hz b0 b1 b2 b3 b4 b5 bz
    refine CM.out.mono ?_
    rintro e w1 ⟨rfl, x1⟩
    have X1 := Lib.hid x1
    clear x1 CM
    go_wp2_with fail
    refine (law11_awake _ (HW.out.ext (X0.out.trans (X1.out.trans ((Ext.refl _).alloc _))))).mono ?_
    rintro e w2 ⟨rfl, x2⟩
    go_wp2_with fail
    go_ret
    exact ⟨rfl, X0.out.trans (X1.out.trans (((Ext.refl _).alloc _).trans x2))⟩

end Go.Proofs.YtnbngcagnchkdaaGreatDoor
