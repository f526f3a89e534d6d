/-
  Merged texts: GoneP, Law11p.
-/
import Derived.Test.YtnbngcagnchkdaaGreatDoorQ20
import Derived.Test.YtnbngcagnchkdaaGreatDoorQ15
import Derived.Test.YtnbngcagnchkdaaGreatDoorQ19
import Derived.Test.YtnbngcagnchkdaaGreatDoorQ09
import Derived.IntWalk
import Derived.Test.YtnbngcagnchkdaaGreatDoorQ08
set_option linter.unusedVariables false
set_option linter.unusedSimpArgs false
/-! Wiped, and made again, in plain Lean. -/
namespace Go.Proofs.YtnbngcagnchkdaaGreatDoor
open Go.RowKit
variable {c : Conf} {t : Nat} {ws : List Int}

theorem gone_plain (ko : KOk c) (ti : t < c.ts.length) (hl : ws.length = totalN c) (hb : baseN c t = 0) {n : Nat} (hn : n < nS c t) :
    ∃ (A S : Int) (K m N : Nat) (ws1 ws2 zs : List Int), kOf c t (n : Int) = K ∧ bSz c t (n : Int) = S ∧ bAd c t (n : Int) = A ∧ ws.length = N ∧ ws1.length = N ∧ zs.length = m ∧ S = (m : Int) + 1 ∧ 0 ≤ A ∧ 2 ≤ S ∧ S ≤ 64 ∧ A + S ≤ (N : Int) ∧ N ≤ 8388608 ∧
      bWipe c t ws (n : Int) = (ws1, 0) ∧ bHead c t ws1 (n : Int) = (hdnil, 5) ∧ (∀ k : Nat, nth ws1 k = if A ≤ (k : Int) ∧ (k : Int) < A + S then 0 else nth ws k) ∧ bMake c t ws1 (n : Int) ⟨(K : Int), 0, S - 1⟩ = (ws2, 0) ∧
      bWords c t ws2 (n : Int) = (zs, 0) ∧ zs = List.replicate m 0 := by
  have BI : bIn c t (n : Int) := ⟨by omega, by omega⟩
  have sb := slotB ko ti BI
  have s2 := sb.s2; have s64 := sb.s64; have a0 := sb.a0; have fit := sb.fit
  have tot := ko.total_le
  have reg := ko.region_in ti
  have zf := zero_fit ko ti hl BI
  obtain ⟨ws1, hws1⟩ : ∃ ws1, zeroL ws (bAt c t (n : Int) 0) (bSz c t (n : Int)).toNat = ws1 := ⟨_, rfl⟩
  have WP : bWipe c t ws (n : Int) = (ws1, 0) := by unfold bWipe; rw [if_pos BI, hws1]
  have hl1 : ws1.length = ws.length := by rw [← hws1, zeroL_len zf]
  have w10 : bwd c t ws1 (n : Int) 0 = 0 := by rw [← hws1, bwd_zero ko ti hl BI BI (by omega), if_pos rfl]
  have H5 : bHead c t ws1 (n : Int) = (hdnil, 5) := by unfold bHead; rw [if_pos BI, w10, if_neg (fun q => hdis_zero q.1)]
  obtain ⟨S, hS⟩ : ∃ S, bSz c t (n : Int) = S := ⟨_, rfl⟩
  obtain ⟨A, hA⟩ : ∃ A, bAd c t (n : Int) = A := ⟨_, rfl⟩
  obtain ⟨m, hm⟩ : ∃ m : Nat, S = (m : Int) + 1 := ⟨(S - 1).toNat, by omega⟩
  have at1 : bAt c t (n : Int) 0 = A.toNat := by unfold bAt; rw [hb, hA]; omega
  have hli : bLies c t (n : Int) ⟨(kOf c t (n : Int) : Int), 0, S - 1⟩ := by
    have k8 := sb.at_.lt; have := ko.cl.most
    refine ⟨⟨⟨by show (0 : Int) ≤ (kOf c t (n : Int) : Int); omega, ?_⟩, by show (0 : Int) ≤ 0; omega, by show (0 : Int) ≤ S - 1; omega, by show (0 : Int) ≤ 63; omega, by show S - 1 ≤ 63 - 0; omega⟩, rfl, by show 0 + (S - 1) + 1 ≤ _; omega⟩
    show (kOf c t (n : Int) : Int) < 8
    omega
  obtain ⟨ws2, hws2⟩ : ∃ ws2, (zeroL ws1 (bAt c t (n : Int) 0) (bSz c t (n : Int)).toNat).set (bAt c t (n : Int) 0) (hdword ⟨(kOf c t (n : Int) : Int), 0, S - 1⟩) = ws2 := ⟨_, rfl⟩
  have MK : bMake c t ws1 (n : Int) ⟨(kOf c t (n : Int) : Int), 0, S - 1⟩ = (ws2, 0) := by
    unfold bMake; rw [if_pos ⟨BI, hli⟩, if_neg (by rw [H5]; simp), hws2]
  have hh2 : bHead c t ws2 (n : Int) = (⟨(kOf c t (n : Int) : Int), 0, S - 1⟩, 0) := by rw [← hws2]; exact made_head ko ti (hl1.trans hl) BI hli
  obtain ⟨zs, hzs, lzs, fzs⟩ := bWords_full hh2
  have lzm : zs.length = m := by rw [lzs]; show (S - 1).toNat = m; omega
  have ezs : zs = List.replicate m 0 := by
    apply List.ext_getElem (by rw [lzm, List.length_replicate])
    intro j h1 h2
    have h3 := fzs j (by rw [← lzs]; exact h1)
    have h4 : bWord c t ws2 (n : Int) ((j : Nat) : Int) = (0, 0) := by
      rw [bWord_at hh2 (by show (0 : Int) ≤ j; omega) (by show (j : Int) < 0 + (S - 1); omega), ← hws2, made_wd ko ti (hl1.trans hl) BI BI (by omega), if_pos rfl, if_neg (by omega)]
    rw [show (⟨(kOf c t (n : Int) : Int), 0, S - 1⟩ : Hd).r + (j : Int) = ((j : Nat) : Int) by simp, h4] at h3
    have h5 : nth zs j = zs[j] := by unfold nth; simp [List.getD, h1]
    have h6 : 0 = nth zs j := congrArg Prod.fst h3
    rw [← h5, ← h6]
    simp
  refine ⟨A, S, kOf c t (n : Int), m, ws.length, ws1, ws2, zs, rfl, hS, hA, rfl, hl1, lzm, hm, by omega, by omega, by omega, by omega, by omega, WP, H5, fun k => ?_, MK, hzs, ezs⟩
  rw [← hws1, nth_zeroL zf, at1, hS]
  by_cases q : A ≤ (k : Int) ∧ (k : Int) < A + S
  · rw [if_pos q, if_pos (by omega)]
  · rw [if_neg q, if_neg (by omega)]

end Go.Proofs.YtnbngcagnchkdaaGreatDoor

/-! commonagelaw11: BodyGone. (Printed by wip/gen11q.py.) -/
namespace Go.Proofs.YtnbngcagnchkdaaGreatDoor
open Go.RowKit
variable {w w' W : World}

theorem madeW_at {W : World} {S m : Nat} (hs : W.heap.size = S) (u : TypeId) : At .u64 (W.alloc (.cells (madeCells #[.int .u64 0] m) u)) (some ⟨S, 0, none⟩) (List.replicate m 0) := by
  subst hs
  refine At.mk fun i hi => ?_
  rw [List.length_replicate] at hi
  rw [Nat.zero_add, cell_newN, made_at hi]
  simp [nth, List.getD, hi]

set_option maxRecDepth 100000 in
set_option maxHeartbeats 32000000 in
theorem law11_BodyGone {ca0 ta la : Option Addr} {cc0 tc lcc : Nat} (c : Conf) (l : List OAct) (y : OAct) (w : World) (hW : Wid w) (h : CfgAt w ca0 ta cc0 tc c) (hl : OActAt w la l) (hlm : l.length ≤ maxLen) (hy : y.Ok) :
    Calls Tryz.prog 7 #[.agg #[.slice ca0 c.cl.length cc0, .int .i64 c.page, .slice ta c.ts.length tc, .int .i64 c.wk, .int .i64 c.gr, .int .i64 c.gens], .slice la l.length lcc, .agg #[.int .u8 y.what, .int .i64 y.slot, .int .i64 y.i, .int .i64 y.to, .int .u64 y.w, .int .i64 y.hc, .int .i64 y.hr, .int .i64 y.hw]] w fun e w' => e = .returned (.bool true) ∧ Ext w w' := by
  have H := Lib.hid h; have HW := Lib.hid hW
  clear h hW
  have HL := Lib.hid hl; have HY := Lib.hid hy
  unfold maxLen at hlm
  clear hl hy
  obtain ⟨z, hz⟩ : ∃ z, w.heap.size = z := ⟨_, rfl⟩
  obtain ⟨W0, hW0, hB0, hY0, hX0⟩ := ba2 w hz ca0 ta cc0 tc c y
  have X0 := Lib.hid hX0; have B0 := Lib.hid hB0; have Y0 := Lib.hid hY0
  clear hX0 hB0 hY0
  have b0 := B0.out.c 0 _ rfl; have b1 := B0.out.c 1 _ rfl; have b2 := B0.out.c 2 _ rfl; have b3 := B0.out.c 3 _ rfl; have b4 := B0.out.c 4 _ rfl; have b5 := B0.out.c 5 _ rfl
  have bz := B0.out.lt
  by_cases hg : bigB c = false ∧ kcheck c = 0
  · obtain ⟨hg, h0⟩ := hg
    have ho := kcheck_ok h0
    have hi : 0 < c.ts.length := ho.head.2.2.1
    have CM := Lib.hid (law11_made (t := 0) c 0 (HW.out.ext X0.out) hg h0 (by decide) hi (by simp) (H.out.ext X0.out))
    obtain ⟨t, ht⟩ : ∃ t, 0 = t := ⟨0, rfl⟩
    rw [ht] at CM hi
    have HB0 := Lib.hid (show baseN c t = 0 by rw [← ht]; rfl)
    clear hg h0 ho ht
    go_enter Tryz.func7, Tryz.ntmps7
    go_wp2_with fail
    clear hW0 hz b0 b1 b2 b3 b4 b5 bz
    refine CM.out.mono ?_
    rintro e w1 ⟨bb, mm, gw, gb, pb, gp, d0, cap0, lb, lc, fb, fc, mb, mc, rfl, hb, hd, x1, hg⟩
    have HB := Lib.hid hb; have HD := Lib.hid hd; have X1 := Lib.hid x1; have HG := Lib.hid hg
    clear CM hb hd x1 hg
    go_upto_region 2 with fail
    obtain ⟨zq, hzq⟩ : ∃ zq, w1.heap.size = zq := ⟨_, rfl⟩
    obtain ⟨W1, hW1⟩ : ∃ W, w1.alloc (.cells #[.slice (some ⟨d0, 0, none⟩) c.ts.length cap0, .int .i64 t, .slice (some ⟨lb, 0, none⟩) (nS c t) lc, .slice (some ⟨fb, 0, none⟩) (nG c t) fc, .slice (some ⟨mb, 0, none⟩) (nG c t) mc, .int .i64 (wordsOf c t), .slice ca0 c.cl.length cc0] 41) = W := ⟨_, rfl⟩
    have HP : Hid (PlayB W0 bb mm gw gb pb gp zq d0 cap0 lb lc fb fc mb mc cc0 ca0 c t (List.replicate (totalN c) 0) W1) := Lib.hid (by
      rw [← hW1]
      exact PlayB.start HB.out HD.out X1.out HG.out hzq)
    rw [hW1, hzq]
    clear HB HD X1 HG hW1 hzq
    by_cases hin : 0 ≤ y.slot ∧ y.slot < (nS c t : Int)
    · have CH := Lib.hid (fun W : World => ref09_Has (lb := lb) (lc := lc) (fb := fb) (fc := fc) (mb := mb) (mc := mc) (ca := ca0) (cc := cc0) (c := c) (t := t) (s := y.slot) (w := W) true (decide_eq_true hin))
      unfold dpv at CH
      obtain ⟨n, hn⟩ : ∃ n : Nat, y.slot = n := ⟨y.slot.toNat, by omega⟩
      have hnn : n < nS c t := by omega
      have HN := Lib.hid hn
      rw [hn] at CH
      clear hin hn
      have q0 := HP.out.box.c 0 _ rfl; have q1 := HP.out.box.c 1 _ rfl; have q2 := HP.out.box.c 2 _ rfl; have q3 := HP.out.box.c 3 _ rfl; have q4 := HP.out.box.c 4 _ rfl; have q5 := HP.out.box.c 5 _ rfl; have q6 := HP.out.box.c 6 _ rfl
      have lz := HP.out.box.lt
      have ybx := Y0.out.ext HP.out.ext
      have y0 := ybx.c 0 _ rfl; have y1 := ybx.c 1 _ rfl; have y2 := ybx.c 2 _ rfl; have y3 := ybx.c 3 _ rfl; have y4 := ybx.c 4 _ rfl; have y5 := ybx.c 5 _ rfl; have y6 := ybx.c 6 _ rfl; have y7 := ybx.c 7 _ rfl
      have ly := ybx.lt
      clear ybx
      rw [HN.out] at y1
      go_wp2_with fail
      refine (CH.out _).mono ?_
      rintro e w2 ⟨rfl, x2⟩
      clear y0 y1 y2 y3 y4 y5 y6 y7 ly
      clear q0 q1 q2 q3 q4 q5 q6 lz CH
      replace HP := Lib.hid (HP.out.go x2)
      clear x2
      go_upto_region 5 with fail
      go_loopw [10] (fun kv wr => ∃ (k d cap : Nat) (ws : List Int), k ≤ l.length ∧ k ≤ 40 ∧ kv = .int .i64 k ∧ Hid (PlayB W0 bb mm gw gb pb gp zq d cap lb lc fb fc mb mc cc0 ca0 c t ws wr) ∧ Hid (RefOk c t ws)) (fun kv _ => 40 - (intOf kv).toNat)
      case atStart => exact ⟨0, d0, cap0, _, Nat.zero_le _, Nat.zero_le _, rfl, HP, Lib.hid (refOk_rep c t _)⟩
      case round =>
        clear HP
        obtain ⟨k, d, cap, ws, hk, hk40, rfl, PR, GD⟩ := hrel
        rcases (show (k < l.length ∧ k < 40) ∨ (k < l.length ∧ k = 40) ∨ k = l.length by omega) with ⟨hlt, h40⟩ | ⟨hlt, rfl⟩ | rfl
        · as_aux_lemma =>
          obtain ⟨ok, ab, ao, rfl, c0, c1, c2, c3, c4, c5, c6, c7⟩ := HL.out k hlt
          have OK := Lib.hid ok
          have XW := Lib.hid (X0.out.trans PR.out.ext)
          replace c0 := XW.out.cell c0; replace c1 := XW.out.cell c1; replace c2 := XW.out.cell c2; replace c3 := XW.out.cell c3; replace c4 := XW.out.cell c4; replace c5 := XW.out.cell c5; replace c6 := XW.out.cell c6; replace c7 := XW.out.cell c7
          clear ok
          generalize oActnth l k = y9 at *
          have q0 := PR.out.box.c 0 _ rfl; have q1 := PR.out.box.c 1 _ rfl; have q2 := PR.out.box.c 2 _ rfl; have q3 := PR.out.box.c 3 _ rfl; have q4 := PR.out.box.c 4 _ rfl; have q5 := PR.out.box.c 5 _ rfl; have q6 := PR.out.box.c 6 _ rfl
          have nq : ¬ isB gw zq := PR.out.ng
          have hk0 : (0 : Int) ≤ (k : Int) := Int.natCast_nonneg _
          have hk1 : (k : Int) < (l.length : Int) := by omega
          have CD := Lib.hid (law11_does_in (y := y9) PR.out (Ext.refl _).drew OK.out)
          have GA := Lib.hid (GD.out.act PR.out.body.ko PR.out.body.ti PR.out.body.mem.len y9.what y9.slot y9.i y9.to y9.w ⟨y9.hc, y9.hr, y9.hw⟩)
          go_upto_region 7 with fail
          go_region_with ((go_at_call 10; refine CD.out.mono ?_; rintro e w6 ⟨d6, cap6, rfl, hb6, hd6, hc6⟩; have zb := (PR.out.box.ext (Ext.refl _).drew).chg hc6 nq; have z0 := zb.c 0 _ rfl; have z1 := zb.c 1 _ rfl; have z2 := zb.c 2 _ rfl; have z3 := zb.c 3 _ rfl; have z4 := zb.c 4 _ rfl; have z5 := zb.c 5 _ rfl; have z6 := zb.c 6 _ rfl; have y0 := zb.f 0; have y1 := zb.f 1; have y2 := zb.f 2; have y3 := zb.f 3; have y4 := zb.f 4; have y5 := zb.f 5; have y6 := zb.f 6; clear zb))
          all_goals
            have zb := (PR.out.box.ext (Ext.refl _).drew).chg hc6 nq
            have PS := Lib.hid (PR.out.step hb6 (hd6.swap (Q := fun k => k = gw ∨ k = zq) fun k _ e => .inl e) ((Chg.of_ext (Ext.refl _).drew).trans hc6) (chg7 w6 zq (.slice (some ⟨d6, 0, none⟩) c.ts.length cap6) (.int .i64 t) (.slice (some ⟨lb, 0, none⟩) (nS c t) lc) (.slice (some ⟨fb, 0, none⟩) (nG c t) fc) (.slice (some ⟨mb, 0, none⟩) (nG c t) mc) (.int .i64 (wordsOf c t)) (.slice ca0 c.cl.length cc0)) (zb.set7 (.slice (some ⟨d6, 0, none⟩) c.ts.length cap6) (.int .i64 t) (.slice (some ⟨lb, 0, none⟩) (nS c t) lc) (.slice (some ⟨fb, 0, none⟩) (nG c t) fc) (.slice (some ⟨mb, 0, none⟩) (nG c t) mc) (.int .i64 (wordsOf c t)) (.slice ca0 c.cl.length cc0)))
            clear zb hb6 hd6 hc6 CD q0 q1 q2 q3 q4 q5 q6 z0 z1 z2 z3 z4 z5 z6 y0 y1 y2 y3 y4 y5 y6 c0 c1 c2 c3 c4 c5 c6 c7
            go_wp2_with fail
            go_roundw
            case rel => exact ⟨k + 1, d6, cap6, _, by omega, by omega, by go_num, PS, GA⟩
            case measure => simp [intOf] <;> omega
        all_goals as_aux_lemma =>
          go_upto_region 8 with fail
          obtain ⟨A, S, K, m, N, ws1, ws2, zs, hK, hS, hA, hN, hN1, lz, hm, a0, s2, s64, fit, tot, hW, h5, hnw, hM, hZ, ez⟩ := gone_plain PR.out.body.ko PR.out.body.ti PR.out.body.mem.len HB0.out hnn
          have HK := Lib.hid hK; have HS := Lib.hid hS; have HA := Lib.hid hA; have LN := Lib.hid hN; have LN1 := Lib.hid hN1; have LZ := Lib.hid lz; have HM := Lib.hid hm
          have WW := Lib.hid hW; have W5 := Lib.hid h5; have NW := Lib.hid hnw; have WM := Lib.hid hM; have WZ := Lib.hid hZ; have EZ := Lib.hid ez
          clear hK hS hA hN hN1 lz hm hW h5 hnw hM hZ ez
          have NY := Lib.hid (show ¬ isB gw (z + 1) by have h1 := PR.out.lg; have h2 := Y0.out.lt; unfold isB; omega)
          have CA1 := Lib.hid (mem_All PR.out.body.mem)
          go_wp2_with fail
          refine CA1.out.mono ?_
          rintro e w2 ⟨a2, c2, rfl, n2, x2⟩
          have R2 := Lib.hid n2.row
          have NA := Lib.hid (show ∀ b o, a2 = some ⟨b, o, none⟩ → 0 < ws.length → ¬ isB gw b by
            intro b o e1 e2 q
            obtain ⟨g, e3, e4, _⟩ := n2.own e2
            rw [e3] at e1
            cases e1
            have := PR.out.body.lt.2
            unfold isB at q
            omega)
          rw [LN.out]
          have C2 : Chg (isB gw) wr w2 := Chg.of_ext x2
          have ybx := (Y0.out.ext PR.out.ext).chg C2 NY.out
          have y0 := ybx.c 0 _ rfl; have y1 := ybx.c 1 _ rfl; have y2 := ybx.c 2 _ rfl; have y3 := ybx.c 3 _ rfl; have y4 := ybx.c 4 _ rfl; have y5 := ybx.c 5 _ rfl; have y6 := ybx.c 6 _ rfl; have y7 := ybx.c 7 _ rfl
          have ly := ybx.lt
          clear ybx
          rw [HN.out] at y1
          have CW := Lib.hid (body_Wipe (PR.out.body.ext x2) WW.out)
          clear n2 CA1
          go_wp2_with fail
          refine CW.out.mono ?_
          rintro e w3 ⟨rfl, h3, c3⟩
          replace R2 := Lib.hid (R2.out.chg c3 NA.out)
          have H3 := Lib.hid h3
          have C3 := Lib.hid (C2.trans c3)
          clear h3 c3 C2 x2 CW y0 y1 y2 y3 y4 y5 y6 y7 ly
          have ybx := (Y0.out.ext PR.out.ext).chg C3.out NY.out
          have y0 := ybx.c 0 _ rfl; have y1 := ybx.c 1 _ rfl; have y2 := ybx.c 2 _ rfl; have y3 := ybx.c 3 _ rfl; have y4 := ybx.c 4 _ rfl; have y5 := ybx.c 5 _ rfl; have y6 := ybx.c 6 _ rfl; have y7 := ybx.c 7 _ rfl
          have ly := ybx.lt
          clear ybx
          rw [HN.out] at y1
          obtain ⟨hx, hhx⟩ : ∃ hx, hdnil = hx := ⟨_, rfl⟩
          rw [hhx] at W5
          have CH := Lib.hid (body_Head H3.out W5.out)
          clear hhx
          go_wp2_with fail
          refine CH.out.mono ?_
          rintro e w4 ⟨rfl, x4⟩
          clear y0 y1 y2 y3 y4 y5 y6 y7 ly
          clear CH
          go_upto_region 11 with fail
          obtain ⟨W5', hW5⟩ : ∃ W, w4.alloc (.cells #[.int .i64 hx.c, .int .i64 hx.r, .int .i64 hx.w] 29) = W := ⟨_, rfl⟩
          have x5 : Ext w3 W5' := by rw [← hW5]; exact x4.trans ((Ext.refl _).alloc _)
          rw [hW5]
          replace R2 := Lib.hid (R2.out.ext x5)
          replace H3 := Lib.hid (H3.out.ext x5)
          replace C3 := Lib.hid (C3.out.trans (Chg.of_ext x5))
          clear x4 x5 hW5
          have CA2 := Lib.hid (mem_All H3.out.mem)
          go_wp2_with fail
          refine CA2.out.mono ?_
          rintro e w6 ⟨a6, c6, rfl, n6, x6⟩
          have R6 := Lib.hid n6.row
          rw [LN1.out]
          replace R2 := Lib.hid (R2.out.ext x6)
          replace H3 := Lib.hid (H3.out.ext x6)
          replace C3 := Lib.hid (C3.out.trans (Chg.of_ext x6))
          clear n6 x6 CA2
          have C6 := C3
          have HD := Lib.hid (PR.out.doc.chg C3.out fun k e => .inl e)
          have zb := PR.out.box.chg C3.out PR.out.ng
          have q0 := zb.c 0 _ rfl; have q1 := zb.c 1 _ rfl; have q2 := zb.c 2 _ rfl; have q3 := zb.c 3 _ rfl; have q4 := zb.c 4 _ rfl; have q5 := zb.c 5 _ rfl; have q6 := zb.c 6 _ rfl
          have lz := zb.lt
          clear zb
          have ybx := (Y0.out.ext PR.out.ext).chg C3.out NY.out
          have y0 := ybx.c 0 _ rfl; have y1 := ybx.c 1 _ rfl; have y2 := ybx.c 2 _ rfl; have y3 := ybx.c 3 _ rfl; have y4 := ybx.c 4 _ rfl; have y5 := ybx.c 5 _ rfl; have y6 := ybx.c 6 _ rfl; have y7 := ybx.c 7 _ rfl
          have ly := ybx.lt
          clear ybx
          rw [HN.out] at y1
          have l0 := HD.out.plan.l n hnn 0 _ rfl
          have l1 := HD.out.plan.l n hnn 1 _ rfl
          have l2 := HD.out.plan.l n hnn 2 _ rfl
          have l3 := HD.out.plan.l n hnn 3 _ rfl
          have e1 : nth c.cl (kOf c t (n : Int)) = S := HS.out
          have e2 : addrOf c t (n : Int) (kOf c t (n : Int)) = A := HA.out
          obtain ⟨Pg, hPg⟩ : ∃ Pg, pageOf c t (n : Int) (kOf c t (n : Int)) = Pg := ⟨_, rfl⟩
          rw [hPg] at l3
          rw [e1] at l1
          rw [e2] at l2
          rw [HK.out, Nat.add_zero] at l0
          have hn0 : (0 : Int) ≤ (n : Int) := Int.natCast_nonneg _
          have hn1 : (n : Int) < (nS c t : Int) := by omega
          clear e1 e2 hPg
          go_upto_region 13 with fail
          clear q0 q1 q2 q3 q4 q5 q6 l0 l1 l2 l3 lz hn0 hn1 y0 y1 y2 y3 y4 y5 y6 y7 ly
          obtain ⟨zs', hzs'⟩ : ∃ zs', w6.heap.size = zs' := ⟨_, rfl⟩
          obtain ⟨W7, hW7⟩ : ∃ W, w6.alloc (.cells #[.int .i64 K, .int .i64 S, .int .i64 A, .int .i64 Pg] 74) = W := ⟨_, rfl⟩
          have x7 : Ext w6 W7 := by rw [← hW7]; exact (Ext.refl _).alloc _
          have BS : Hid (BoxG W7 zs' [.int .i64 K, .int .i64 S, .int .i64 A, .int .i64 Pg]) := Lib.hid (by rw [← hW7]; exact BoxG.new w6 _ _ hzs')
          rw [hW7, hzs']
          replace R2 := Lib.hid (R2.out.ext x7)
          replace R6 := Lib.hid (R6.out.ext x7)
          replace H3 := Lib.hid (H3.out.ext x7)
          replace C3 := Lib.hid (C3.out.trans (Chg.of_ext x7))
          have HZ' := Lib.hid (show wr.heap.size ≤ zs' by rw [← hzs']; exact C6.out.size)
          clear x7 hW7 hzs' HD
          go_upto_region 14 with fail
          go_loopw [17] (fun kv wx => ∃ k : Nat, k ≤ N ∧ kv = .int .i64 k ∧ Hid (Ext W7 wx)) (fun kv _ => N - (intOf kv).toNat)
          case atStart => exact ⟨0, Nat.zero_le _, rfl, Lib.hid (Ext.refl _)⟩
          case round =>
            obtain ⟨k, hk, rfl, XR⟩ := hrel
            have pb := BS.out.ext XR.out
            have p0 := pb.c 0 _ rfl; have p1 := pb.c 1 _ rfl; have p2 := pb.c 2 _ rfl; have p3 := pb.c 3 _ rfl
            have lp := pb.lt
            clear pb
            by_cases hlt : k < N
            · as_aux_lemma =>
              obtain ⟨b2, o2, rfl, cw⟩ := (R2.out.ext XR.out) k (by rw [LN.out]; exact hlt)
              obtain ⟨b6, o6, rfl, cn⟩ := (R6.out.ext XR.out) k (by rw [LN1.out]; exact hlt)
              have nk := NW.out k
              have k0 : (0 : Int) ≤ (k : Int) := Int.natCast_nonneg _
              have k1 : (k : Int) < (N : Int) := by omega
              have hws : IntKind.i64.wrap (A + S) = A + S := IntWalk.i64_in _ (by omega)
              by_cases q : A ≤ (k : Int) ∧ (k : Int) < A + S
              · as_aux_lemma =>
                rw [if_pos q] at nk
                rw [nk] at cn
                have t0 : decide (A ≤ (k : Int)) = true := decide_eq_true q.1
                have t1 : decide ((k : Int) < A + S) = true := decide_eq_true q.2
                clear nk q
                go_upto_region 17 with fail
                go_quiet (fail)
                go_wp2_with fail
                go_roundw
                case rel => exact ⟨k + 1, by omega, by go_num, Lib.hid (XR.out.trans ((Ext.refl _).drewN nq))⟩
                case measure => simp [intOf] <;> omega
              · as_aux_lemma =>
                rw [if_neg q] at nk
                rw [nk] at cn
                generalize nth ws k = x at *
                clear nk
                by_cases q0 : A ≤ (k : Int)
                · have t0 : decide (A ≤ (k : Int)) = true := decide_eq_true q0
                  have t1 : decide ((k : Int) < A + S) = false := decide_eq_false (by omega)
                  clear q q0
                  go_upto_region 17 with fail
                  go_quiet (fail)
                  go_wp2_with fail
                  go_roundw
                  case rel => exact ⟨k + 1, by omega, by go_num, Lib.hid (XR.out.trans ((Ext.refl _).drewN nq))⟩
                  case measure => simp [intOf] <;> omega
                · have t0 : decide (A ≤ (k : Int)) = false := decide_eq_false q0
                  clear q q0
                  go_upto_region 17 with fail
                  go_quiet (fail)
                  go_wp2_with fail
                  go_roundw
                  case rel => exact ⟨k + 1, by omega, by go_num, Lib.hid (XR.out.trans ((Ext.refl _).drewN nq))⟩
                  case measure => simp [intOf] <;> omega
            · as_aux_lemma =>
              obtain rfl : k = N := by omega
              replace C3 := Lib.hid (C3.out.trans (Chg.of_ext XR.out))
              replace H3 := Lib.hid (H3.out.ext XR.out)
              have cm := body_Make ⟨(K : Int), 0, S - 1⟩ H3.out WM.out
              dsimp only at cm
              have CM := Lib.hid cm
              clear cm
              have ybx := (Y0.out.ext PR.out.ext).chg C3.out NY.out
              have y0 := ybx.c 0 _ rfl; have y1 := ybx.c 1 _ rfl; have y2 := ybx.c 2 _ rfl; have y3 := ybx.c 3 _ rfl; have y4 := ybx.c 4 _ rfl; have y5 := ybx.c 5 _ rfl; have y6 := ybx.c 6 _ rfl; have y7 := ybx.c 7 _ rfl
              have ly := ybx.lt
              clear ybx
              rw [HN.out] at y1
              go_wp2_with fail
              refine CM.out.mono ?_
              rintro e w8 ⟨rfl, h8, c8⟩
              clear y0 y1 y2 y3 y4 y5 y6 y7 ly
              clear CM
              have H8 := Lib.hid h8
              replace C3 := Lib.hid (C3.out.trans c8)
              have pb := (BS.out.ext XR.out).chg c8 (show ¬ isB gw zs' by have h1 := PR.out.body.lt.2; have h2 := HZ'.out; unfold isB; omega)
              clear p0 p1 p2 p3 lp h8
              have p0 := pb.c 0 _ rfl; have p1 := pb.c 1 _ rfl; have p2 := pb.c 2 _ rfl; have p3 := pb.c 3 _ rfl
              have lp := pb.lt
              have PB := Lib.hid pb
              clear pb c8
              have ybx := (Y0.out.ext PR.out.ext).chg C3.out NY.out
              have y0 := ybx.c 0 _ rfl; have y1 := ybx.c 1 _ rfl; have y2 := ybx.c 2 _ rfl; have y3 := ybx.c 3 _ rfl; have y4 := ybx.c 4 _ rfl; have y5 := ybx.c 5 _ rfl; have y6 := ybx.c 6 _ rfl; have y7 := ybx.c 7 _ rfl
              have ly := ybx.lt
              clear ybx
              rw [HN.out] at y1
              have CW := Lib.hid (body_Words H8.out WZ.out)
              go_wp2_with fail
              refine CW.out.mono ?_
              rintro e w9 ⟨a9, c9, rfl, h9, x9⟩
              rw [LZ.out]
              have R9 := Lib.hid h9
              clear y0 y1 y2 y3 y4 y5 y6 y7 ly
              clear CW h9 p0 p1 p2 p3 lp
              have PB9 := PB.out.ext x9
              have p0 := PB9.c 0 _ rfl; have p1 := PB9.c 1 _ rfl; have p2 := PB9.c 2 _ rfl; have p3 := PB9.c 3 _ rfl
              have lp := PB9.lt
              have hS1 : S - 1 = (m : Int) := by have := HM.out; omega
              have mm64 : m ≤ 64 := by have := HM.out; omega
              have HMK : ∀ W : World, (Instr.makeSlice 52 (.int .i64 (m : Int)) (.int .i64 (m : Int))).run Tryz.prog W = .ok (.slice (some ⟨W.heap.size, 0, none⟩) m m) (W.alloc (.cells (madeCells #[.int .u64 0] m) 27)) := fun W =>
                run_make_row' 52 27 (.int .u64 0) 8 Tryz.underlying52 info_w64 rfl .i64 .i64 m (by omega) (by omega) W
              have X9 := Lib.hid (C3.out.trans (Chg.of_ext x9))
              have H9 := Lib.hid (H8.out.ext x9)
              clear PB9 x9
              go_wp2_with fail
              have WX := Lib.hid (show zs.length ≤ maxLen by rw [LZ.out]; unfold maxLen; omega)
              have xa := (Ext.refl w9).alloc (.cells (madeCells #[.int .u64 0] m) 27)
              have cs := ref03_Same (ca := c9) (cb := m) zs zs true (by simp) (R9.out.ext xa) (by rw [EZ.out]; exact madeW_at rfl 27) WX.out WX.out
              rw [LZ.out] at cs
              have CS := Lib.hid cs
              clear cs
              refine CS.out.mono ?_
              rintro e wa ⟨rfl, xb⟩
              clear CS
              have CA := Lib.hid (law11_awake wa (H9.out.wid.ext (xa.trans xb)))
              go_wp2_with fail
              refine CA.out.mono ?_
              rintro e wb ⟨rfl, xc⟩
              go_wp2_with fail
              go_ret
              exact ⟨rfl, X0.out.trans ((X9.out.over PR.out.ext fun k e => by unfold isB at e; subst e; exact PR.out.lg).trans (xa.trans (xb.trans xc)))⟩
    · have CH := Lib.hid (fun W : World => ref09_Has (lb := lb) (lc := lc) (fb := fb) (fc := fc) (mb := mb) (mc := mc) (ca := ca0) (cc := cc0) (c := c) (t := t) (s := y.slot) (w := W) false (by rw [decide_eq_false_iff_not]; exact hin))
      unfold dpv at CH
      clear hin
      have q0 := HP.out.box.c 0 _ rfl; have q1 := HP.out.box.c 1 _ rfl; have q2 := HP.out.box.c 2 _ rfl; have q3 := HP.out.box.c 3 _ rfl; have q4 := HP.out.box.c 4 _ rfl; have q5 := HP.out.box.c 5 _ rfl; have q6 := HP.out.box.c 6 _ rfl
      have lz := HP.out.box.lt
      have ybx := Y0.out.ext HP.out.ext
      have y0 := ybx.c 0 _ rfl; have y1 := ybx.c 1 _ rfl; have y2 := ybx.c 2 _ rfl; have y3 := ybx.c 3 _ rfl; have y4 := ybx.c 4 _ rfl; have y5 := ybx.c 5 _ rfl; have y6 := ybx.c 6 _ rfl; have y7 := ybx.c 7 _ rfl
      have ly := ybx.lt
      clear ybx
      go_wp2_with fail
      refine (CH.out _).mono ?_
      rintro e w2 ⟨rfl, x2⟩
      clear y0 y1 y2 y3 y4 y5 y6 y7 ly
      clear q0 q1 q2 q3 q4 q5 q6 lz CH
      have CA := Lib.hid (law11_awake w2 (HP.out.body.wid.ext x2))
      go_wp2_with fail
      refine CA.out.mono ?_
      rintro e w6 ⟨rfl, x6⟩
      go_wp2_with fail
      go_ret
      exact ⟨rfl, X0.out.trans (HP.out.ext.trans (x2.trans x6))⟩
  · have CM := Lib.hid (law11_made_no c 0 (by
      by_cases h1 : bigB c = true
      · exact .inl h1
      · exact .inr fun h2 => hg ⟨by simpa using h1, h2⟩) (H.out.ext X0.out))
    clear hg
    go_enter Tryz.func7, Tryz.ntmps7
    go_wp2_with fail
    clear hW0 hz b0 b1 b2 b3 b4 b5 bz
    refine CM.out.mono ?_
    rintro e w1 ⟨rfl, x1⟩
    have X1 := Lib.hid x1
    clear x1 CM
    go_wp2_with fail
    refine (law11_awake _ (HW.out.ext (X0.out.trans (X1.out.trans ((Ext.refl _).alloc _))))).mono ?_
    rintro e w2 ⟨rfl, x2⟩
    go_wp2_with fail
    go_ret
    exact ⟨rfl, X0.out.trans (X1.out.trans (((Ext.refl _).alloc _).trans x2))⟩

end Go.Proofs.YtnbngcagnchkdaaGreatDoor
