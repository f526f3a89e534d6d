/-
  Merged texts: Law10h.
-/
import Derived.Test.YtlhajoamebfniaaDoorQ15
import Derived.Deep.RegionWith
set_option linter.unusedVariables false
set_option linter.unusedSimpArgs false
/-! commonagelaw10: ArenaLowest. -/
namespace Go.Proofs.YtlhajoamebfniaaDoor
open Go.RowKit
variable {P : Nat → Prop} {w0 w w' wr W : World} {b pb gp rb rg zq : Nat} {lb lc fb fc mb mc cc t qc : Nat} {ca qa : Option Addr} {c : Conf} {bs bs' : List Bool}

theorem TakeR.least {k p : Int} (ho : KOk c) (ht : t < c.ts.length) (hl : bs.length = nS c t) (h : TakeR c t bs k bs' p 0) :
    ∃ j s : Nat, k = j ∧ j < c.cl.length ∧ p = s ∧ s < bs.length ∧ kOf c t (s : Int) = j ∧ bnth bs s = false ∧ (∀ i : Nat, i < s → kOf c t (i : Int) = j → bnth bs i = true) ∧ bs' = bs.set s true := by
  rcases h with ⟨_, _, _, e⟩ | ⟨j, rfl, hj, ⟨s, h1, h2, h3, rfl, rfl, _⟩ | ⟨_, _, _, e⟩⟩
  · cases e
  · have hs : s < bs.length := by rw [hl]; exact ofClass_lt ho ht hj h1
    exact ⟨j, s, rfl, hj, rfl, hs, (kOf_eq ho ht hj (show s < nS c t by omega)).2 h1, h2, fun i hi hk => h3 i ((kOf_eq ho ht hj (show i < nS c t by omega)).1 hk) hi, rfl⟩
  · cases e
theorem set_back {s : Nat} (hs : s < bs.length) (h : bnth bs s = false) : (bs.set s true).set s false = bs := bext (by rw [List.length_set, List.length_set]) fun i _ => by
  rw [bnth_set (by rw [List.length_set]; exact hs), bnth_set hs]
  by_cases e : i = s
  · subst e; rw [if_pos rfl, h]
  · rw [if_neg e, if_neg e]
theorem give_back {s : Nat} (hs : s < bs.length) (h : bnth bs s = false) : giveR (bs.set s true) (s : Int) = (bs, 0) := by
  unfold giveR
  rw [List.length_set, if_neg (by omega), Int.toNat_natCast, bnth_set hs, if_pos rfl, if_pos rfl, set_back hs h]

set_option maxRecDepth 100000 in
set_option maxHeartbeats 16000000 in
theorem law10_ArenaLowest {ca0 ta la : Option Addr} {cc0 tc lcc : Nat} (c : Conf) (l : List AAct) (n : Int) (w : World) (hT : Tab w) (h : CfgAt w ca0 ta cc0 tc c) (hl : AActAt w la l) (hlm : l.length ≤ maxLen) :
    Calls Tryd.prog 6 #[.agg #[.slice ca0 c.cl.length cc0, .int .i64 c.page, .slice ta c.ts.length tc, .int .i64 c.wk, .int .i64 c.gr, .int .i64 c.gens], .slice la l.length lcc, .int .i64 n] w fun e w' => e = .returned (.bool true) ∧ Ext w w' := by
  have H := Lib.hid h; have HL := Lib.hid hl; have HT := Lib.hid hT
  unfold maxLen at hlm
  clear h hl hT
  obtain ⟨z, hz⟩ : ∃ z, w.heap.size = z := ⟨_, rfl⟩
  have HZ := Lib.hid hz
  obtain ⟨W0, hW0⟩ : ∃ W0, w.alloc (.cells #[.slice ca0 c.cl.length cc0, .int .i64 c.page, .slice ta c.ts.length tc, .int .i64 c.wk, .int .i64 c.gr, .int .i64 c.gens] 25) = W0 := ⟨_, rfl⟩
  have X0 : Hid (Ext w W0) := Lib.hid (by rw [← hW0]; exact (Ext.refl _).alloc _)
  have B0 : Hid (BoxAt W0 z [.slice ca0 c.cl.length cc0, .int .i64 c.page, .slice ta c.ts.length tc, .int .i64 c.wk, .int .i64 c.gr, .int .i64 c.gens]) := Lib.hid (by rw [← hW0]; exact BoxAt.new w _ _ hz)
  have b0 := B0.out.c 0 _ rfl; have b1 := B0.out.c 1 _ rfl; have b2 := B0.out.c 2 _ rfl; have b3 := B0.out.c 3 _ rfl; have b4 := B0.out.c 4 _ rfl; have b5 := B0.out.c 5 _ rfl
  by_cases hg : bigA c = false ∧ kcheck c = 0
  · obtain ⟨hg, h0⟩ := hg
    have ho := kcheck_ok h0
    have hi : 0 < c.ts.length := ho.head.2.2.1
    have KO := Lib.hid ho
    have CM := Lib.hid (law10_made (i := 0) c 0 (HT.out.ext X0.out) hg h0 (by decide) hi (by simp) (H.out.ext X0.out))
    obtain ⟨t, ht⟩ : ∃ t, 0 = t := ⟨0, rfl⟩
    rw [ht] at CM hi
    clear hg h0 ho ht
    go_enter Tryd.func6, Tryd.ntmps6
    go_wp2_with fail
    clear b0 b1 b2 b3 b4 b5
    refine CM.out.mono ?_
    rintro e w1 ⟨b, pb, gp, rb, rg, lb, lc, fb, fc, mb, mc, ca, cc, qa, qc, rfl, ho, hd⟩
    have HO := Lib.hid ho; have HD := Lib.hid hd
    clear ho hd CM
    go_wp2_with fail
    obtain ⟨zq, hzq⟩ : ∃ zq, w1.heap.size = zq := ⟨_, rfl⟩
    obtain ⟨W1, hW1⟩ : ∃ W, w1.alloc (.cells #[.slice (some ⟨lb, 0, none⟩) (nS c t) lc, .slice (some ⟨fb, 0, none⟩) (nG c t) fc, .slice (some ⟨mb, 0, none⟩) (nG c t) mc, .int .i64 (wordsOf c t), .slice ca c.cl.length cc, .slice qa (nS c t) qc] 53) = W := ⟨_, rfl⟩
    have HP : Hid (PlayA W0 b pb gp rb rg zq lb lc fb fc mb mc ca cc c t qa (List.replicate (nS c t) false) qc W1) := Lib.hid (by
      have := PlayA.start (lc := lc) (fc := fc) (mc := mc) (cc := cc) (qc := qc) HO.out HD.out hzq 53
      rw [List.length_replicate] at this
      rw [hW1] at this; exact this)
    rw [hW1, hzq]
    clear HO HD hW1 hzq
    go_loopw [9] (fun kv wr => ∃ (k : Nat) (bs : List Bool) (qa : Option Addr) (qc : Nat), k ≤ l.length ∧ k ≤ 60 ∧ kv = .int .i64 k ∧ Hid (PlayA W0 b pb gp rb rg zq lb lc fb fc mb mc ca cc c t qa bs qc wr)) (fun kv _ => 60 - (intOf kv).toNat)
    case atStart => exact ⟨0, _, qa, qc, Nat.zero_le _, Nat.zero_le _, rfl, HP⟩
    case round =>
      clear HP
      obtain ⟨k, bs, qa, qc, hk, hk80, rfl, PR⟩ := hrel
      rcases (show (k < l.length ∧ k < 60) ∨ (k < l.length ∧ k = 60) ∨ k = l.length by omega) with ⟨hlt, h80⟩ | ⟨hlt, rfl⟩ | rfl
      · obtain ⟨ok, ab, ao, rfl, c0, c1⟩ := HL.out k hlt
        have OK := Lib.hid ok
        have XW := Lib.hid (X0.out.trans PR.out.own.ext)
        replace c0 := XW.out.cell c0; replace c1 := XW.out.cell c1
        clear ok
        generalize aActnth l k = y at *
        have q0 := PR.out.box.c 0 _ rfl; have q1 := PR.out.box.c 1 _ rfl; have q2 := PR.out.box.c 2 _ rfl; have q3 := PR.out.box.c 3 _ rfl; have q4 := PR.out.box.c 4 _ rfl; have q5 := PR.out.box.c 5 _ rfl
        have hk0 : (0 : Int) ≤ (k : Int) := Int.natCast_nonneg _
        have hk1 : (k : Int) < (l.length : Int) := by omega
        have nq : ¬ arB b rg zq := by have := PR.out.nb; unfold arB; omega
        have CD := Lib.hid (law10_does (P := arZ b rg zq) (lc := lc) (fc := fc) (mc := mc) (cc := cc) (qc := qc) y (PR.out.own.ar.ext (Ext.refl _).drew) (PR.out.doc.ext (Ext.refl _).drew) (PR.out.own.tab.ext (Ext.refl _).drew) (fun k hk => PR.out.lt k hk) arZ_ar OK.out)
        go_wp2_with fail
        go_region_with ((go_at_call 22; refine CD.out.mono ?_; rintro e w6 ⟨bs2, qa2, qc2, rfl, ha6, hd6, hc6, hl6, ql6⟩; clear hl6 ql6; have zb := (PR.out.box.ext (Ext.refl _).drew).chg hc6 nq; have z0 := zb.c 0 _ rfl; have z1 := zb.c 1 _ rfl; have z2 := zb.c 2 _ rfl; have z3 := zb.c 3 _ rfl; have z4 := zb.c 4 _ rfl; have z5 := zb.c 5 _ rfl; have y0 := zb.f 0; have y1 := zb.f 1; have y2 := zb.f 2; have y3 := zb.f 3; have y4 := zb.f 4; have y5 := zb.f 5; clear zb))
        all_goals
          have PS := Lib.hid (PR.out.step (qc' := qc2) ha6 hd6 ((Chg.of_ext (Ext.refl _).drew).trans hc6) _ rfl)
          clear ha6 hd6 hc6 CD q0 q1 q2 q3 q4 q5 z0 z1 z2 z3 z4 z5 y0 y1 y2 y3 y4 y5 c0 c1
          go_wp2_with fail
          go_roundw
          case rel => exact ⟨k + 1, bs2, qa2, qc2, by omega, by omega, by go_num, PS⟩
          case measure => simp [intOf] <;> omega
      all_goals
        go_wp2_with fail
        refine (arena_Taken PR.out.own.ar).mono ?_
        rintro e w3 ⟨kb, kg, rfl, ht3, kl1, kl2, x3⟩
        have NK : Hid (¬ arB b rg kb ∧ ¬ arB b rg kg) := Lib.hid (by
          have h1 := PR.out.own.ar.lt
          have h2 := kl2 PR.out.own.ar.pos
          unfold arB; omega)
        have TK := Lib.hid ht3
        have PR3 := Lib.hid (PR.out.go x3)
        clear ht3 x3 kl1 kl2
        obtain ⟨U, hU⟩ : ∃ u, usedOf c t bs = u := ⟨_, rfl⟩
        obtain ⟨m, hm⟩ : ∃ m, bcnt bs bs.length = m := ⟨_, rfl⟩
        have UU := Lib.hid hU; have MM := Lib.hid hm
        clear hU hm
        go_wp2_with fail
        refine (arena_Used PR3.out.own.ar UU.out).mono ?_
        rintro e w' ⟨rfl, rfl⟩
        obtain ⟨bs2, p, ee, hg⟩ := take_exists PR3.out.own.ar.plan.ok PR3.out.own.ar.plan.ti bs n
        have G := Lib.hid hg
        have LN := Lib.hid PR3.out.own.ar.len
        have nb16 := PR3.out.own.ar.plan.ok.nS_le PR3.out.own.ar.plan.ti
        clear hg
        go_wp2_with fail
        refine (arena_Take PR3.out.own.ar PR3.out.own.tab G.out).mono ?_
        rintro e w7 ⟨rfl, ha7, hc7⟩
        have HC7 := Lib.hid hc7
        have TK7 := Lib.hid (TK.out.chg hc7 NK.out.1 fun _ => NK.out.2)
        by_cases he : ee = 0
        · subst he
          obtain ⟨j, s, rfl, hj1, rfl, hs, hks, hb1, hle, rfl⟩ := G.out.least KO.out hi LN.out
          have nqz : ¬ arB b rg zq := by have := PR3.out.nb; unfold arB; omega
          have O7 := Lib.hid (PR3.out.own.turn ha7 hc7)
          have D7 := Lib.hid (PR3.out.doc.chg hc7 arZ_ar)
          have BX := Lib.hid (PR3.out.box.chg hc7 nqz)
          have q0 := BX.out.c 0 _ rfl
          have hsN : s < nS c t := by have := LN.out; omega
          have cs := D7.out.plan.l s hsN 0 _ rfl
          rw [Nat.add_zero, hks] at cs
          have GG := Lib.hid (fun W (x : Ext w7 W) (i : Nat) (r : Bool) (hr : bnth bs i = r) => row_Get (i := (i : Int)) bs r (TK7.out.ext x) (by rw [bget_nat]; exact hr))
          have GB := Lib.hid (give_back hs hb1)
          have HB1 := Lib.hid hb1; have HLE := Lib.hid hle; have HA7 := Lib.hid ha7
          have HSB := Lib.hid hs
          have ts0 : decide ((s : Int) < 0) = false := by simp
          have ts1 : decide ((nS c t : Int) ≤ (s : Int)) = false := by simp; omega
          have ts2 : decide (nS c t ≤ s) = false := by simp; omega
          have tjj : ((j : Int) != (j : Int)) = false := by simp
          have tjj2 : ((j : Int) == (j : Int)) = true := by simp
          clear hb1 hle ha7 hc7 hks hs
          go_wp2_with fail
          clear q0 cs
          refine (GG.out _ (Ext.refl _) s false HB1.out).mono ?_
          rintro e w' ⟨rfl, rfl⟩
          go_wp2_with fail
          refine (arena_Has true HA7.out (by rw [bget_nat, bnth_set HSB.out, if_pos rfl])).mono ?_
          rintro e w' ⟨rfl, rfl⟩
          go_wp2_with fail
          go_loopw [14] (fun iv wr => ∃ i : Nat, i ≤ s ∧ iv = .int .i64 i ∧ Hid (Ext w7 wr)) (fun iv _ => s - (intOf iv).toNat)
          case atStart => exact ⟨0, Nat.zero_le _, rfl, Lib.hid (Ext.refl _)⟩
          case round =>
            obtain ⟨i, hi2, rfl, XL⟩ := hrel
            by_cases hlt2 : i < s
            · have hiN : i < nS c t := by omega
              have q0 := (BX.out.ext XL.out).c 0 _ rfl
              have cs := (D7.out.ext XL.out).plan.l i hiN 0 _ rfl
              rw [Nat.add_zero] at cs
              have hi0 : (0 : Int) ≤ (i : Int) := Int.natCast_nonneg _
              have hi1 : (i : Int) < (nS c t : Int) := by omega
              by_cases hk2 : kOf c t (i : Int) = j
              · have GI := Lib.hid (GG.out _ XL.out i true (HLE.out i hlt2 hk2))
                rw [hk2] at cs
                clear hk2
                go_wp2_with fail
                refine GI.out.mono ?_
                rintro e w' ⟨rfl, rfl⟩
                go_wp2_with fail
                go_roundw
                case rel => exact ⟨i + 1, by omega, by go_num, XL⟩
                case measure => simp [intOf]; omega
              · have tk : (((kOf c t (i : Int) : Nat) : Int) == (j : Int)) = false := by simp; omega
                clear hk2
                generalize kOf c t (i : Int) = kk at *
                go_wp2_with fail
                go_roundw
                case rel => exact ⟨i + 1, by omega, by go_num, XL⟩
                case measure => simp [intOf]; omega
            · obtain rfl : i = s := by omega
              go_wp2_with fail
              refine (arena_Give (O7.out.ar.ext XL.out) GB.out).mono ?_
              rintro e w8 ⟨rfl, ha8, hc8⟩
              have O8 := Lib.hid ((O7.out.go XL.out).turn ha8 hc8)
              have C8 := Lib.hid (((Chg.of_ext XL.out).trans hc8))
              clear ha8 hc8
              go_wp2_with fail
              refine (arena_Take O8.out.ar O8.out.tab G.out).mono ?_
              rintro e w9 ⟨rfl, ha9, hc9⟩
              have O9 := Lib.hid (O8.out.turn ha9 hc9)
              have C9 := Lib.hid (C8.out.trans hc9)
              clear ha9 hc9
              go_wp2_with fail
              refine (arena_Give O9.out.ar GB.out).mono ?_
              rintro e w10 ⟨rfl, ha10, hc10⟩
              have O10 := Lib.hid (O9.out.turn ha10 hc10)
              have T10 := Lib.hid (TK7.out.chg (C9.out.trans hc10) NK.out.1 fun _ => NK.out.2)
              clear ha10 hc10
              go_wp2_with fail
              refine (arena_Used O10.out.ar UU.out).mono ?_
              rintro e w' ⟨rfl, rfl⟩
              go_wp2_with fail
              refine (arena_Count m O10.out.ar MM.out).mono ?_
              rintro e w' ⟨rfl, rfl⟩
              go_wp2_with fail
              refine (row_Count bs m T10.out MM.out).mono ?_
              rintro e w' ⟨rfl, rfl⟩
              go_wp2_with fail
              refine (law10_awake _ O10.out.tab).mono ?_
              rintro e w11 ⟨rfl, x11⟩
              go_wp2_with fail
              go_ret
              exact ⟨rfl, X0.out.trans (O10.out.ext.trans x11)⟩
        · obtain ⟨eb, rfl, he2⟩ := G.out.no he
          obtain rfl : bs = bs2 := eb.symm
          have O7 := Lib.hid (PR3.out.own.turn ha7 hc7)
          have te : (ee != 0) = true := by simpa using he
          clear ha7 hc7 he2 eb
          go_wp2_with fail
          refine (arena_Used O7.out.ar UU.out).mono ?_
          rintro e w' ⟨rfl, rfl⟩
          go_wp2_with fail
          refine (arena_Count m O7.out.ar MM.out).mono ?_
          rintro e w' ⟨rfl, rfl⟩
          go_wp2_with fail
          refine (row_Count bs m TK7.out MM.out).mono ?_
          rintro e w' ⟨rfl, rfl⟩
          go_wp2_with fail
          refine (law10_awake _ O7.out.tab).mono ?_
          rintro e w11 ⟨rfl, x11⟩
          go_wp2_with fail
          go_ret
          exact ⟨rfl, X0.out.trans (O7.out.ext.trans x11)⟩
  · have CM := Lib.hid (law10_made_no c 0 (by
      by_cases h1 : bigA c = true
      · exact .inl h1
      · exact .inr fun h2 => hg ⟨by simpa using h1, h2⟩) (H.out.ext X0.out))
    clear hg
    go_enter Tryd.func6, Tryd.ntmps6
    go_wp2_with fail
    clear b0 b1 b2 b3 b4 b5
    refine CM.out.mono ?_
    rintro e w1 ⟨rfl, x1⟩
    have X1 := Lib.hid x1
    clear x1 CM
    go_wp2_with fail
    refine (law10_awake _ (HT.out.ext (X0.out.trans (X1.out.trans ((Ext.refl _).alloc _))))).mono ?_
    rintro e w2 ⟨rfl, x2⟩
    go_wp2_with fail
    go_ret
    exact ⟨rfl, X0.out.trans (X1.out.trans (((Ext.refl _).alloc _).trans x2))⟩

end Go.Proofs.YtlhajoamebfniaaDoor
