/-
  Merged texts: Law10i.
-/
import Derived.Test.YtlhajoamebfniaaDoorQ16
set_option linter.unusedVariables false
set_option linter.unusedSimpArgs false
/-! commonagelaw10: ArenaEach. -/
namespace Go.Proofs.YtlhajoamebfniaaDoor
open Go.RowKit
variable {P : Nat → Prop} {w0 w w' wr W : World} {b pb gp rb rg zq : Nat} {lb lc fb fc mb mc cc t qc : Nat} {ca qa : Option Addr} {c : Conf} {bs bs' r : List Bool}

/-- What is left where the slots of r from i on have been given. -/
def glF (bs r : List Bool) (i : Nat) : List Bool := (List.range bs.length).map fun j => bnth bs j && !(decide (i ≤ j) && bnth r j)
theorem glF_len (bs r : List Bool) (i : Nat) : (glF bs r i).length = bs.length := by unfold glF; simp
theorem glF_nth (bs r : List Bool) (i j : Nat) : bnth (glF bs r i) j = (bnth bs j && !(decide (i ≤ j) && bnth r j)) := by
  by_cases h : j < bs.length
  · unfold glF bnth; simp [List.getD, h]
  · rw [bnth_out (by rw [glF_len]; omega), bnth_out (bs := bs) (by omega)]; rfl
theorem glF_all (bs r : List Bool) : glF bs r bs.length = bs := bext (glF_len _ _ _) fun j hj => by
  rw [glF_len] at hj
  rw [glF_nth, decide_eq_false (by omega)]; simp
theorem glF_zero (bs r : List Bool) : glF bs r 0 = bless bs r := bext (by rw [glF_len, bless_len]) fun j _ => by rw [glF_nth, bless_nth]; simp
theorem glF_skip {j : Nat} (h : bnth r j = false) : glF bs r (j + 1) = glF bs r j := bext (by rw [glF_len, glF_len]) fun i _ => by
  rw [glF_nth, glF_nth]
  by_cases e : i = j
  · subst e; rw [h]; simp
  · have : decide (j + 1 ≤ i) = decide (j ≤ i) := by
      by_cases g : j ≤ i
      · rw [decide_eq_true g, decide_eq_true (by omega)]
      · rw [decide_eq_false g, decide_eq_false (by omega)]
    rw [this]
theorem glF_give {j : Nat} (hj : j < bs.length) (h : bnth r j = true) (hb : bnth bs j = true) : giveR (glF bs r (j + 1)) (j : Int) = (glF bs r j, 0) := by
  have h1 : bnth (glF bs r (j + 1)) j = true := by rw [glF_nth, hb, decide_eq_false (by omega)]; rfl
  unfold giveR
  rw [glF_len, if_neg (by omega), Int.toNat_natCast, if_pos h1]
  refine Prod.ext ?_ rfl
  refine bext (by rw [List.length_set, glF_len, glF_len]) fun i _ => ?_
  rw [bnth_set (by rw [glF_len]; exact hj), glF_nth, glF_nth]
  by_cases e : i = j
  · subst e; rw [if_pos rfl, h]; simp
  · rw [if_neg e]
    have : decide (j + 1 ≤ i) = decide (j ≤ i) := by
      by_cases g : j ≤ i
      · rw [decide_eq_true g, decide_eq_true (by omega)]
      · rw [decide_eq_false g, decide_eq_false (by omega)]
    rw [this]
/-- Beside another arena's turns. -/
theorem OwnA.beside {b2 rg2 : Nat} (h : OwnA w0 w b pb gp rb rg c t bs) (hc : Chg (arB b2 rg2) w w') (n1 : ¬ arB b2 rg2 b ∧ ¬ arB b2 rg2 pb ∧ ¬ arB b2 rg2 gp ∧ ¬ arB b2 rg2 rb ∧ ¬ arB b2 rg2 rg) (n2 : ¬ arB b2 rg2 0) (hl : ∀ k, arB b2 rg2 k → w0.heap.size ≤ k) : OwnA w0 w' b pb gp rb rg c t bs :=
  ⟨h.ar.chg hc n1.1 ⟨n1.2.1, n1.2.2.1⟩ ⟨n1.2.2.2.1, n1.2.2.2.2⟩, h.tab.chg hc n2, hc.over h.ext hl, h.lb, h.lg⟩

set_option maxRecDepth 100000 in
set_option maxHeartbeats 16000000 in
theorem law10_ArenaEach {ca0 ta la : Option Addr} {cc0 tc lcc : Nat} (c : Conf) (l : List AAct) (mk : Int) (w : World) (hT : Tab w) (h : CfgAt w ca0 ta cc0 tc c) (hl : AActAt w la l) (hlm : l.length ≤ maxLen) (hmk : 0 ≤ mk ∧ mk ≤ 255) :
    Calls Tryd.prog 7 #[.agg #[.slice ca0 c.cl.length cc0, .int .i64 c.page, .slice ta c.ts.length tc, .int .i64 c.wk, .int .i64 c.gr, .int .i64 c.gens], .slice la l.length lcc, .int .u8 mk] w fun e w' => e = .returned (.bool true) ∧ Ext w w' := by
  have H := Lib.hid h; have HL := Lib.hid hl; have HT := Lib.hid hT
  unfold maxLen at hlm
  obtain ⟨m0, m1⟩ := hmk
  have hwm : IntKind.i64.wrap mk = mk := IntWalk.i64_in _ (by omega)
  clear h hl hT
  obtain ⟨z, hz⟩ : ∃ z, w.heap.size = z := ⟨_, rfl⟩
  have HZ := Lib.hid hz
  obtain ⟨W0, hW0⟩ : ∃ W0, w.alloc (.cells #[.slice ca0 c.cl.length cc0, .int .i64 c.page, .slice ta c.ts.length tc, .int .i64 c.wk, .int .i64 c.gr, .int .i64 c.gens] 25) = W0 := ⟨_, rfl⟩
  have X0 : Hid (Ext w W0) := Lib.hid (by rw [← hW0]; exact (Ext.refl _).alloc _)
  have B0 : Hid (BoxAt W0 z [.slice ca0 c.cl.length cc0, .int .i64 c.page, .slice ta c.ts.length tc, .int .i64 c.wk, .int .i64 c.gr, .int .i64 c.gens]) := Lib.hid (by rw [← hW0]; exact BoxAt.new w _ _ hz)
  have b0 := B0.out.c 0 _ rfl; have b1 := B0.out.c 1 _ rfl; have b2 := B0.out.c 2 _ rfl; have b3 := B0.out.c 3 _ rfl; have b4 := B0.out.c 4 _ rfl; have b5 := B0.out.c 5 _ rfl
  by_cases hg : bigA c = false ∧ kcheck c = 0
  · obtain ⟨hg, h0⟩ := hg
    have ho := kcheck_ok h0
    have hi : 0 < c.ts.length := ho.head.2.2.1
    have KO := Lib.hid ho
    have CM := Lib.hid (law10_made (i := 0) c 0 (HT.out.ext X0.out) hg h0 (by decide) hi (by simp) (H.out.ext X0.out))
    obtain ⟨t, ht⟩ : ∃ t, 0 = t := ⟨0, rfl⟩
    rw [ht] at CM hi
    clear hg h0 ho ht
    go_enter Tryd.func7, Tryd.ntmps7
    go_wp2_with fail
    clear b0 b1 b2 b3 b4 b5
    refine CM.out.mono ?_
    rintro e w1 ⟨b, pb, gp, rb, rg, lb, lc, fb, fc, mb, mc, ca, cc, qa, qc, rfl, ho, hd⟩
    have HO := Lib.hid ho; have HD := Lib.hid hd
    clear ho hd CM
    go_wp2_with fail
    obtain ⟨zq, hzq⟩ : ∃ zq, w1.heap.size = zq := ⟨_, rfl⟩
    obtain ⟨W1, hW1⟩ : ∃ W, w1.alloc (.cells #[.slice (some ⟨lb, 0, none⟩) (nS c t) lc, .slice (some ⟨fb, 0, none⟩) (nG c t) fc, .slice (some ⟨mb, 0, none⟩) (nG c t) mc, .int .i64 (wordsOf c t), .slice ca c.cl.length cc, .slice qa (nS c t) qc] 53) = W := ⟨_, rfl⟩
    have HP : Hid (PlayA W0 b pb gp rb rg zq lb lc fb fc mb mc ca cc c t qa (List.replicate (nS c t) false) qc W1) := Lib.hid (by
      have := PlayA.start (lc := lc) (fc := fc) (mc := mc) (cc := cc) (qc := qc) HO.out HD.out hzq 53
      rw [List.length_replicate] at this
      rw [hW1] at this; exact this)
    rw [hW1, hzq]
    clear HO HD hW1 hzq
    go_loopw [9] (fun kv wr => ∃ (k : Nat) (bs : List Bool) (qa : Option Addr) (qc : Nat), k ≤ l.length ∧ k ≤ 60 ∧ kv = .int .i64 k ∧ Hid (PlayA W0 b pb gp rb rg zq lb lc fb fc mb mc ca cc c t qa bs qc wr)) (fun kv _ => 60 - (intOf kv).toNat)
    case atStart => exact ⟨0, _, qa, qc, Nat.zero_le _, Nat.zero_le _, rfl, HP⟩
    case round =>
      clear HP
      obtain ⟨k, bs, qa, qc, hk, hk80, rfl, PR⟩ := hrel
      rcases (show (k < l.length ∧ k < 60) ∨ (k < l.length ∧ k = 60) ∨ k = l.length by omega) with ⟨hlt, h80⟩ | ⟨hlt, rfl⟩ | rfl
      · obtain ⟨ok, ab, ao, rfl, c0, c1⟩ := HL.out k hlt
        have OK := Lib.hid ok
        have XW := Lib.hid (X0.out.trans PR.out.own.ext)
        replace c0 := XW.out.cell c0; replace c1 := XW.out.cell c1
        clear ok
        generalize aActnth l k = y at *
        have q0 := PR.out.box.c 0 _ rfl; have q1 := PR.out.box.c 1 _ rfl; have q2 := PR.out.box.c 2 _ rfl; have q3 := PR.out.box.c 3 _ rfl; have q4 := PR.out.box.c 4 _ rfl; have q5 := PR.out.box.c 5 _ rfl
        have hk0 : (0 : Int) ≤ (k : Int) := Int.natCast_nonneg _
        have hk1 : (k : Int) < (l.length : Int) := by omega
        have nq : ¬ arB b rg zq := by have := PR.out.nb; unfold arB; omega
        have CD := Lib.hid (law10_does (P := arZ b rg zq) (lc := lc) (fc := fc) (mc := mc) (cc := cc) (qc := qc) y (PR.out.own.ar.ext (Ext.refl _).drew) (PR.out.doc.ext (Ext.refl _).drew) (PR.out.own.tab.ext (Ext.refl _).drew) (fun k hk => PR.out.lt k hk) arZ_ar OK.out)
        go_wp2_with fail
        go_region_with ((go_at_call 22; refine CD.out.mono ?_; rintro e w6 ⟨bs2, qa2, qc2, rfl, ha6, hd6, hc6, hl6, ql6⟩; clear hl6 ql6; have zb := (PR.out.box.ext (Ext.refl _).drew).chg hc6 nq; have z0 := zb.c 0 _ rfl; have z1 := zb.c 1 _ rfl; have z2 := zb.c 2 _ rfl; have z3 := zb.c 3 _ rfl; have z4 := zb.c 4 _ rfl; have z5 := zb.c 5 _ rfl; have y0 := zb.f 0; have y1 := zb.f 1; have y2 := zb.f 2; have y3 := zb.f 3; have y4 := zb.f 4; have y5 := zb.f 5; clear zb))
        all_goals
          have PS := Lib.hid (PR.out.step (qc' := qc2) ha6 hd6 ((Chg.of_ext (Ext.refl _).drew).trans hc6) _ rfl)
          clear ha6 hd6 hc6 CD q0 q1 q2 q3 q4 q5 z0 z1 z2 z3 z4 z5 y0 y1 y2 y3 y4 y5 c0 c1
          go_wp2_with fail
          go_roundw
          case rel => exact ⟨k + 1, bs2, qa2, qc2, by omega, by omega, by go_num, PS⟩
          case measure => simp [intOf] <;> omega
      all_goals
        have q0 := PR.out.box.c 0 _ rfl
        go_wp2_with fail
        refine (arena_Copy PR.out.own.ar).mono ?_
        rintro e w3 ⟨_, rfl, b2, rb2, rg2, rfl, ho, lb2, lrb2, lrg2, x3⟩
        have PR3 := Lib.hid (PR.out.go x3)
        have HO2 := Lib.hid ho
        have LT := Lib.hid (show b < b2 ∧ rb < b2 ∧ rg < b2 ∧ pb < b2 ∧ gp < b2 ∧ b < rg2 ∧ rb < rg2 ∧ rg < rg2 ∧ pb < rg2 ∧ gp < rg2 ∧ zq < b2 ∧ zq < rg2 ∧ b < rb2 ∧ rg < rb2 by
          have h1 := PR.out.own.ar.lt; have h2 := PR.out.box.lt; omega)
        have NP := Lib.hid (And.intro PR3.out.own.ar.n3 PR3.out.own.ar.n4)
        clear ho lb2 lrb2 lrg2 x3 q0
        have q0 := PR3.out.box.c 0 _ rfl; have q1 := PR3.out.box.c 1 _ rfl; have q2 := PR3.out.box.c 2 _ rfl; have q3 := PR3.out.box.c 3 _ rfl; have q4 := PR3.out.box.c 4 _ rfl; have q5 := PR3.out.box.c 5 _ rfl
        have CR := Lib.hid (law10_row (lc := lc) (fc := fc) (mc := mc) (cc := cc) (qc := qc) (n := mk) PR3.out.doc (by omega))
        go_wp2_with fail
        clear q0 q1 q2 q3 q4 q5
        refine CR.out.mono ?_
        rintro e w4 ⟨xb, xg, g, gcap, r, rfl, hra, hrb, hrl, k1, k2, k3, hsub, x4⟩
        have SUB := Lib.hid (hsub m0)
        have RL := Lib.hid hrl
        have PR4 := Lib.hid (PR3.out.go x4)
        have HO4 := Lib.hid (HO2.out.ext x4)
        have RB := Lib.hid hrb
        have GN := Lib.hid (show xg ≠ rg ∧ b2 < g ∧ rg2 < g ∧ b < g ∧ rg < g by
          have h1 := HO2.out.lt; have h2 := PR3.out.own.ar.lt; omega)
        have CGA := Lib.hid (arena_GiveAll (bs' := bless bs r) (q := 0) PR4.out.own.ar PR4.out.own.tab hra GN.out.1 RL.out (by
          unfold giveAllR
          rw [if_pos (fun i _ hi => SUB.out i hi)]))
        have np := PR4.out.own.ar.pos
        have nb16 := PR4.out.own.ar.plan.ok.nS_le PR4.out.own.ar.plan.ti
        have hq64 : bs.length ≤ 16384 := by rw [PR4.out.own.ar.len]; exact nb16
        have nbs := PR4.out.own.ar.len
        have LNS := Lib.hid nbs
        clear hra hrb hrl k1 k2 k3 hsub x4 CR nb16 nbs
        go_wp2_with fail
        refine CGA.out.mono ?_
        rintro e w5 ⟨rfl, ha5, hc5⟩
        have A5 := Lib.hid (PR4.out.own.turn ha5 hc5)
        have nga : ¬ arB b rg g := by have := GN.out; unfold arB; omega
        have O5 : Hid (ArenaAt w5 b2 pb gp rb2 rg2 c t bs) := Lib.hid (HO4.out.chg hc5 (by have := LT.out; unfold arB; omega) ⟨by have := NP.out.1; unfold arB; omega, by have := NP.out.2; unfold arB; omega⟩ ⟨by have := LT.out; unfold arB; omega, by have := LT.out; unfold arB; omega⟩)
        have R5 := Lib.hid (RB.out.chg hc5 (fun x o e => by cases e; exact nga))
        clear ha5 hc5 CGA
        have k0 : IntKind.i64.wrap ((bs.length : Int) - 1) = (bs.length : Int) - 1 := IntWalk.i64_in _ (by omega)
        go_wp2_with fail
        clear k0
        go_loopw [13] (fun iv wr => ∃ i : Nat, i ≤ bs.length ∧ iv = .int .i64 ((i : Int) - 1) ∧ Hid (ArenaAt wr b2 pb gp rb2 rg2 c t (glF bs r i)) ∧ Hid (Chg (arB b2 rg2) w5 wr)) (fun iv _ => (intOf iv + 1).toNat)
        case atStart => exact ⟨bs.length, Nat.le_refl _, rfl, Lib.hid (by rw [glF_all]; exact O5.out), Lib.hid (Chg.refl _ _)⟩
        case round =>
          obtain ⟨i, hi2, rfl, OA, CO⟩ := hrel
          by_cases hlt2 : 0 < i
          · obtain ⟨j, rfl⟩ : ∃ j, i = j + 1 := ⟨i - 1, by omega⟩
            have ej : (((j + 1 : Nat) : Int) - 1) = (j : Int) := by omega
            have R6 := R5.out.chg CO.out (fun x o e => by cases e; have := GN.out; unfold arB; omega)
            obtain ⟨_, _, e0, ck⟩ := R6 j (by have := RL.out; omega)
            cases e0
            rw [Nat.zero_add] at ck
            have hj0 : (0 : Int) ≤ (j : Int) := Int.natCast_nonneg _
            have hj1 : (j : Int) < (bs.length : Int) := by omega
            have kj : IntKind.i64.wrap ((j : Int) - 1) = (j : Int) - 1 := IntWalk.i64_in _ (by omega)
            have tj : decide ((0 : Int) ≤ (j : Int)) = true := by simp
            rw [ej]
            clear R6 hi2 hlt2 ej
            cases hb : bnth r j
            · rw [hb] at ck
              have OA2 : Hid (ArenaAt wr b2 pb gp rb2 rg2 c t (glF bs r j)) := Lib.hid (by rw [← glF_skip hb]; exact OA.out)
              clear hb
              go_wp2_with fail
              go_roundw
              case rel => exact ⟨j, by omega, rfl, OA2, CO⟩
              case measure => simp [intOf]
            · rw [hb] at ck
              have GG := Lib.hid (glF_give (bs := bs) (by omega) hb (SUB.out j hb))
              clear hb
              go_wp2_with fail
              refine (arena_Give OA.out GG.out).mono ?_
              rintro e w6 ⟨rfl, ha6, hc6⟩
              have OA2 := Lib.hid ha6
              have CO2 := Lib.hid (CO.out.trans hc6)
              clear ha6 hc6
              go_wp2_with fail
              go_roundw
              case rel => exact ⟨j, by omega, rfl, OA2, CO2⟩
              case measure => simp [intOf]
          · obtain rfl : i = 0 := by omega
            rw [show (((0 : Nat) : Int) - 1) = -1 from rfl]
            have OB : Hid (ArenaAt wr b2 pb gp rb2 rg2 c t (bless bs r)) := Lib.hid (by rw [← glF_zero]; exact OA.out)
            have A6 : Hid (OwnA W0 wr b pb gp rb rg c t (bless bs r)) := Lib.hid (A5.out.beside CO.out (by have := LT.out; unfold arB; omega) (by
              have h1 := PR4.out.nb; have := LT.out; unfold arB; omega) (by
              intro k hk; have h1 := PR4.out.own.ext.size; have h2 := PR4.out.lz; have := LT.out; rcases hk with rfl | rfl <;> omega))
            have R6 := Lib.hid (R5.out.chg CO.out (fun x o e => by cases e; have := GN.out; unfold arB; omega))
            go_wp2_with fail
            go_loopw [14] (fun iv wq => ∃ i : Nat, i ≤ bs.length ∧ iv = .int .i64 i ∧ Hid (Ext wr wq)) (fun iv _ => bs.length - (intOf iv).toNat)
            case atStart => exact ⟨0, Nat.zero_le _, rfl, Lib.hid (Ext.refl _)⟩
            case round =>
              obtain ⟨i, hi2, rfl, XL⟩ := hrel
              by_cases hlt2 : i < bs.length
              · obtain ⟨_, _, e0, ck⟩ := (R6.out.ext XL.out) i (by have := RL.out; omega)
                cases e0
                rw [Nat.zero_add] at ck
                have hi0 : (0 : Int) ≤ (i : Int) := Int.natCast_nonneg _
                have hi1 : (i : Int) < (bs.length : Int) := by omega
                obtain ⟨v, hv⟩ : ∃ v, bnth (bless bs r) i = v := ⟨_, rfl⟩
                have HA := Lib.hid (arena_Has v (A6.out.ar.ext XL.out) (by rw [bget_nat]; exact hv))
                have HB := Lib.hid (arena_Has v (OB.out.ext XL.out) (by rw [bget_nat]; exact hv))
                have VV : Hid (bnth r i = true → v = false) := Lib.hid fun h => by rw [← hv, bless_nth, h]; simp
                clear hv
                obtain ⟨q, hq⟩ : ∃ q, bnth r i = q := ⟨_, rfl⟩
                rw [hq] at ck VV
                clear hq
                cases v
                · go_wp2_with fail
                  refine HA.out.mono ?_
                  rintro e w' ⟨rfl, rfl⟩
                  go_wp2_with fail
                  refine HB.out.mono ?_
                  rintro e w' ⟨rfl, rfl⟩
                  cases q
                  · go_wp2_with fail
                    go_roundw
                    case rel => exact ⟨i + 1, by omega, by go_num, XL⟩
                    case measure => simp [intOf]; omega
                  · go_wp2_with fail
                    refine HA.out.mono ?_
                    rintro e w' ⟨rfl, rfl⟩
                    go_wp2_with fail
                    go_roundw
                    case rel => exact ⟨i + 1, by omega, by go_num, XL⟩
                    case measure => simp [intOf]; omega
                · have hqf : q = false := by
                    cases q with
                    | false => rfl
                    | true => exact absurd (VV.out rfl) (by simp)
                  subst hqf
                  go_wp2_with fail
                  refine HA.out.mono ?_
                  rintro e w' ⟨rfl, rfl⟩
                  go_wp2_with fail
                  refine HB.out.mono ?_
                  rintro e w' ⟨rfl, rfl⟩
                  go_wp2_with fail
                  go_roundw
                  case rel => exact ⟨i + 1, by omega, by go_num, XL⟩
                  case measure => simp [intOf]; omega
              · obtain rfl : i = bs.length := by omega
                obtain ⟨U, hU⟩ : ∃ u, usedOf c t (bless bs r) = u := ⟨_, rfl⟩
                obtain ⟨m, hm⟩ : ∃ m, bcnt (bless bs r) (bless bs r).length = m := ⟨_, rfl⟩
                have UU := Lib.hid hU; have MM := Lib.hid hm
                clear hU hm
                go_wp2_with fail
                refine (arena_Used (A6.out.ar.ext XL.out) UU.out).mono ?_
                rintro e w' ⟨rfl, rfl⟩
                go_wp2_with fail
                refine (arena_Used (OB.out.ext XL.out) UU.out).mono ?_
                rintro e w' ⟨rfl, rfl⟩
                go_wp2_with fail
                refine (arena_Count m (A6.out.ar.ext XL.out) MM.out).mono ?_
                rintro e w' ⟨rfl, rfl⟩
                go_wp2_with fail
                refine (arena_Count m (OB.out.ext XL.out) MM.out).mono ?_
                rintro e w' ⟨rfl, rfl⟩
                go_wp2_with fail
                refine (law10_awake _ (A6.out.tab.ext XL.out)).mono ?_
                rintro e w11 ⟨rfl, x11⟩
                go_wp2_with fail
                go_ret
                exact ⟨rfl, X0.out.trans (A6.out.ext.trans (XL.out.trans x11))⟩
  · have CM := Lib.hid (law10_made_no c 0 (by
      by_cases h1 : bigA c = true
      · exact .inl h1
      · exact .inr fun h2 => hg ⟨by simpa using h1, h2⟩) (H.out.ext X0.out))
    clear hg
    go_enter Tryd.func7, Tryd.ntmps7
    go_wp2_with fail
    clear b0 b1 b2 b3 b4 b5
    refine CM.out.mono ?_
    rintro e w1 ⟨rfl, x1⟩
    have X1 := Lib.hid x1
    clear x1 CM
    go_wp2_with fail
    refine (law10_awake _ (HT.out.ext (X0.out.trans (X1.out.trans ((Ext.refl _).alloc _))))).mono ?_
    rintro e w2 ⟨rfl, x2⟩
    go_wp2_with fail
    go_ret
    exact ⟨rfl, X0.out.trans (X1.out.trans (((Ext.refl _).alloc _).trans x2))⟩

end Go.Proofs.YtlhajoamebfniaaDoor
