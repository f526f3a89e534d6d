/-
  Merged texts: Law10g.
-/
import Derived.Test.YtlhajoamebfniaaDoorQ13
import Derived.Deep.CutRange
set_option linter.unusedVariables false
set_option linter.unusedSimpArgs false
/-! commonagelaw10: ArenaRoom. -/
namespace Go.Proofs.YtlhajoamebfniaaDoor
open Go.RowKit
variable {P : Nat → Prop} {w0 w w' wr W : World} {b pb gp rb rg zq : Nat} {lb lc fb fc mb mc cc t qc : Nat} {ca qa : Option Addr} {c : Conf} {bs bs' : List Bool}

/-- A class that is full uses its slots' words. -/
theorem full_used {k : Nat} (ho : KOk c) (ht : t < c.ts.length) (hk : k < c.cl.length) (hf : ∀ i : Nat, ofClass c t k i → bnth bs i = true) : slotsOf c t k * nth c.cl k ≤ usedOf c t bs := by
  have bd := ho.bounds ht hk
  have c2 := bd.c2
  have hn := ho.nS_eq ht
  have m1 := sS_mono ho ht (a := k + 1) (b := c.cl.length) (by omega) (Nat.le_refl _)
  have sk := (ho.sS_le ht (k := k) (by omega)).1
  have e1 : sS c t (k + 1) = sS c t k + slotsOf c t k := rfl
  have s1 := bd.s1
  have key : ∀ n, n ≤ nS c t → cntK c t k n * nth c.cl k ≤ usedTo c t bs n := by
    intro n
    induction n with
    | zero => intro _; unfold cntK usedTo; rw [if_pos (by omega)]; omega
    | succ n ih =>
      intro hle
      have ih := ih (by omega)
      rw [usedTo_succ]
      have sz := szOf_bd ho ht (s := n) (by omega)
      by_cases hin : sS c t k ≤ (n : Int) ∧ (n : Int) < sS c t (k + 1)
      · have hk2 := (kOf_eq ho ht hk (show n < nS c t by omega)).2 hin
        have hs : szOf c t n = nth c.cl k := by unfold szOf; rw [hk2]
        rw [hf n hin, hs]
        have e : cntK c t k (n + 1) = cntK c t k n + 1 := by
          unfold cntK
          (repeat' split) <;> omega
        rw [e, Int.add_mul]
        simp only [if_true]
        omega
      · have e : cntK c t k (n + 1) = cntK c t k n := by
          unfold cntK
          (repeat' split) <;> omega
        rw [e]
        split <;> omega
  have := key (nS c t) (Nat.le_refl _)
  have e : cntK c t k (nS c t) = slotsOf c t k := by unfold cntK; (repeat' split) <;> omega
  rw [e] at this
  exact this
/-- As long as there is room, Take is not refused. -/
theorem room_take {k : Nat} {p e : Int} (ho : KOk c) (ht : t < c.ts.length) (hk : k < c.cl.length) (h : TakeR c t bs (k : Int) bs' p e) (hr : usedOf c t bs + nth c.cl k ≤ (tnth c.ts t).q) : e = 0 := by
  rcases h with ⟨hn, _⟩ | ⟨j, e1, hj, ⟨s, _, _, _, _, _, he⟩ | ⟨hf, _⟩⟩
  · omega
  · exact he
  · obtain rfl : k = j := by omega
    have h1 := full_used ho ht hk hf
    have c2 := (ho.bounds ht hk).c2
    have h2 := Int.lt_ediv_add_one_mul_self (tnth c.ts t).q (show 0 < nth c.cl k by omega)
    rw [Int.add_mul] at h2
    unfold slotsOf at h1
    omega
/-- What is told of a slot that is taken. -/
theorem TakeR.ok {k p : Int} (ho : KOk c) (ht : t < c.ts.length) (hl : bs.length = nS c t) (h : TakeR c t bs k bs' p 0) :
    ∃ j s : Nat, k = j ∧ j < c.cl.length ∧ p = s ∧ s < bs.length ∧ bnth bs s = false ∧ bnth bs' s = true ∧ usedOf c t bs' = usedOf c t bs + nth c.cl j := by
  rcases h with ⟨_, _, _, e⟩ | ⟨j, rfl, hj, ⟨s, h1, h2, _, rfl, rfl, _⟩ | ⟨_, _, _, e⟩⟩
  · cases e
  · have hs : s < bs.length := by rw [hl]; exact ofClass_lt ho ht hj h1
    have hk2 := (kOf_eq ho ht hj (show s < nS c t by omega)).2 h1
    refine ⟨j, s, rfl, hj, rfl, hs, h2, by rw [bnth_set hs, if_pos rfl], ?_⟩
    rw [used_take hl hs h2]; unfold szOf; rw [hk2]
  · cases e
theorem TakeR.no {k p e : Int} (h : TakeR c t bs k bs' p e) (he : e ≠ 0) : bs' = bs ∧ p = 0 ∧ (e = 2 ∨ e = 6) := by
  rcases h with ⟨_, h1, h2, h3⟩ | ⟨j, rfl, hj, ⟨s, _, _, _, _, _, h3⟩ | ⟨_, h1, h2, h3⟩⟩
  · exact ⟨h1, h2, .inl h3⟩
  · exact absurd h3 he
  · exact ⟨h1, h2, .inr h3⟩
theorem PlayA.turn (h : PlayA w0 b pb gp rb rg zq lb lc fb fc mb mc ca cc c t qa bs qc wr) (ha : ArenaAt w' b pb gp rb rg c t bs) (hc : Chg (arB b rg) wr w') : PlayA w0 b pb gp rb rg zq lb lc fb fc mb mc ca cc c t qa bs qc w' :=
  ⟨h.own.turn ha hc, h.doc.chg hc arZ_ar, h.box.chg hc (by have := h.nb; unfold arB; omega), h.lz, h.nb⟩

set_option maxRecDepth 100000 in
set_option maxHeartbeats 16000000 in
theorem law10_ArenaRoom {ca0 ta la : Option Addr} {cc0 tc lcc : Nat} (c : Conf) (tn : Int) (l : List AAct) (w : World) (hT : Tab w) (h : CfgAt w ca0 ta cc0 tc c) (htn : 0 ≤ tn ∧ tn ≤ 255) (hl : AActAt w la l) (hlm : l.length ≤ maxLen) :
    Calls Tryd.prog 5 #[.agg #[.slice ca0 c.cl.length cc0, .int .i64 c.page, .slice ta c.ts.length tc, .int .i64 c.wk, .int .i64 c.gr, .int .i64 c.gens], .int .u8 tn, .slice la l.length lcc] w fun e w' => e = .returned (.bool true) ∧ Ext w w' := by
  have H := Lib.hid h; have HL := Lib.hid hl; have HT := Lib.hid hT
  unfold maxLen at hlm
  clear h hl hT
  obtain ⟨z, hz⟩ : ∃ z, w.heap.size = z := ⟨_, rfl⟩
  have HZ := Lib.hid hz
  obtain ⟨W0, hW0⟩ : ∃ W0, w.alloc (.cells #[.slice ca0 c.cl.length cc0, .int .i64 c.page, .slice ta c.ts.length tc, .int .i64 c.wk, .int .i64 c.gr, .int .i64 c.gens] 25) = W0 := ⟨_, rfl⟩
  have X0 : Hid (Ext w W0) := Lib.hid (by rw [← hW0]; exact (Ext.refl _).alloc _)
  have B0 : Hid (BoxAt W0 z [.slice ca0 c.cl.length cc0, .int .i64 c.page, .slice ta c.ts.length tc, .int .i64 c.wk, .int .i64 c.gr, .int .i64 c.gens]) := Lib.hid (by rw [← hW0]; exact BoxAt.new w _ _ hz)
  have b0 := B0.out.c 0 _ rfl; have b1 := B0.out.c 1 _ rfl; have b2 := B0.out.c 2 _ rfl; have b3 := B0.out.c 3 _ rfl; have b4 := B0.out.c 4 _ rfl; have b5 := B0.out.c 5 _ rfl
  by_cases hg : bigA c = false ∧ kcheck c = 0
  · obtain ⟨hg, h0⟩ := hg
    have ho := kcheck_ok h0
    obtain ⟨t, hmod, hi⟩ := mod_nat (tn := tn) ho.head.2.2.1
    have CM := Lib.hid (law10_made c tn (HT.out.ext X0.out) hg h0 htn hi hmod (H.out.ext X0.out))
    have KO := Lib.hid ho
    have t1 := ho.head.2.2.1
    have t8 := ho.head.2.2.2.1
    have c8 := ho.cl.most
    have q4 := (ho.bounds hi ho.cl.pos).q4096
    have q2 : 2 ≤ (tnth c.ts t).q := by have := (ho.bounds hi ho.cl.pos).cq; have := (ho.bounds hi ho.cl.pos).c2; omega
    obtain ⟨t0, t255⟩ := htn
    have n0 : ¬ c.ts.length = 0 := by omega
    have nz : ¬ (c.ts.length : Int) = 0 := by omega
    have hmt : tn.tmod c.ts.length = t := by rw [Int.tmod_eq_emod_of_nonneg t0]; exact hmod
    have hwi : IntKind.i64.wrap (t : Int) = t := IntWalk.i64_in _ (by omega)
    have hwt : IntKind.i64.wrap tn = tn := IntWalk.i64_in _ (by omega)
    have ht0 : (0 : Int) ≤ (t : Int) := Int.natCast_nonneg _
    have ht1 : (t : Int) < (c.ts.length : Int) := by omega
    obtain ⟨tb, to_, rfl, htc⟩ := H.out.ts.pos (by omega)
    obtain ⟨cb, co, rfl, hcl⟩ := H.out.cl.pos ho.cl.pos
    have HCL := Lib.hid (fun i hi => X0.out.cell (hcl i hi))
    have cp := ho.cl.pos
    obtain ⟨tq, _⟩ := htc t hi
    have TQ := Lib.hid (X0.out.cell tq)
    clear hg h0 ho hmod htc tq hcl
    go_enter Tryd.func5, Tryd.ntmps5
    go_wp2_with fail
    clear b0 b1 b2 b3 b4 b5
    refine CM.out.mono ?_
    rintro e w1 ⟨b, pb, gp, rb, rg, lb, lc, fb, fc, mb, mc, ca, cc, qa, qc, rfl, ho, hd⟩
    have HO := Lib.hid ho; have HD := Lib.hid hd
    have b0 := ho.ext.cell (B0.out.c 0 _ rfl); have b2 := ho.ext.cell (B0.out.c 2 _ rfl)
    have z0 : z < w1.heap.size := cell_lt b0
    clear ho hd CM
    go_wp2_with fail
    obtain ⟨zq, hzq⟩ : ∃ zq, w1.heap.size = zq := ⟨_, rfl⟩
    obtain ⟨W1, hW1⟩ : ∃ W, w1.alloc (.cells #[.slice (some ⟨lb, 0, none⟩) (nS c t) lc, .slice (some ⟨fb, 0, none⟩) (nG c t) fc, .slice (some ⟨mb, 0, none⟩) (nG c t) mc, .int .i64 (wordsOf c t), .slice ca c.cl.length cc, .slice qa (nS c t) qc] 53) = W := ⟨_, rfl⟩
    have HP : Hid (PlayA W0 b pb gp rb rg zq lb lc fb fc mb mc ca cc c t qa (List.replicate (nS c t) false) qc W1) := Lib.hid (by
      have := PlayA.start (lc := lc) (fc := fc) (mc := mc) (cc := cc) (qc := qc) HO.out HD.out hzq 53
      rw [List.length_replicate] at this
      rw [hW1] at this; exact this)
    rw [hW1, hzq]
    have tq := HP.out.own.ext.cell TQ.out
    clear b0 b2 z0
    have b0 := HP.out.own.ext.cell (B0.out.c 0 _ rfl); have b2 := HP.out.own.ext.cell (B0.out.c 2 _ rfl)
    clear HO HD hW1 hzq
    go_quiet (fail)
    clear hmt hwt tq b0 b2
    go_wp2_with fail
    have HP2 := Lib.hid (HP.out.go ((Ext.refl _).drewN nq))
    clear HP
    go_loopw [10] (fun kv wr => ∃ (k : Nat) (bs : List Bool) (qa : Option Addr) (qc : Nat), k ≤ l.length ∧ k ≤ 80 ∧ kv = .int .i64 k ∧ Hid (PlayA W0 b pb gp rb rg zq lb lc fb fc mb mc ca cc c t qa bs qc wr)) (fun kv _ => 80 - (intOf kv).toNat)
    case atStart => exact ⟨0, _, qa, qc, Nat.zero_le _, Nat.zero_le _, rfl, HP2⟩
    case round =>
      clear HP2
      obtain ⟨k, bs, qa, qc, hk, hk80, rfl, PR⟩ := hrel
      rcases (show (k < l.length ∧ k < 80) ∨ (k < l.length ∧ k = 80) ∨ k = l.length by omega) with ⟨hlt, h80⟩ | ⟨hlt, rfl⟩ | rfl
      · obtain ⟨ok, ab, ao, rfl, c0, c1⟩ := HL.out k hlt
        have OK := Lib.hid ok
        have XW := Lib.hid (X0.out.trans PR.out.own.ext)
        replace c0 := XW.out.cell c0; replace c1 := XW.out.cell c1
        clear ok
        generalize aActnth l k = y at *
        obtain ⟨wh, n⟩ := y
        dsimp only at c0 c1
        obtain ⟨⟨wh0, wh1⟩, ok2⟩ := (show (0 ≤ wh ∧ wh ≤ 255) ∧ (-9223372036854775808 ≤ n ∧ n ≤ 9223372036854775807) from OK.out)
        have hk0 : (0 : Int) ≤ (k : Int) := Int.natCast_nonneg _
        have hk1 : (k : Int) < (l.length : Int) := by omega
        have lz : zq < wr.heap.size := PR.out.box.lt
        have zl : z < wr.heap.size := by have h1 := B0.out.lt; have h2 := PR.out.own.ext.size; omega
        go_upto_region 10 with fail
        obtain ⟨yb, hyb⟩ : ∃ y, wr.heap.size = y := ⟨_, rfl⟩
        obtain ⟨W2, hW2⟩ : ∃ W, wr.alloc (.cells #[.int .u8 wh, .int .i64 n] 59) = W := ⟨_, rfl⟩
        have x2 : Ext wr W2 := by rw [← hW2]; exact (Ext.refl _).alloc _
        have YB : Hid (BoxAt W2 yb [.int .u8 wh, .int .i64 n]) := Lib.hid (by rw [← hW2]; exact BoxAt.new wr _ _ hyb)
        rw [hW2, hyb]
        have PR2 := Lib.hid (PR.out.go x2)
        have lt5 := Lib.hid (show b < yb ∧ rg < yb by have := PR.out.own.ar.lt; omega)
        clear x2 hW2 hyb c0 c1
        obtain ⟨U, hU⟩ : ∃ u, usedOf c t bs = u := ⟨_, rfl⟩
        have CU := Lib.hid (fun W (x : Ext W2 W) => arena_Used (PR2.out.own.ar.ext x) hU)
        have UB := usedOf_bd PR2.out.own.ar.plan.ok PR2.out.own.ar.plan.ti bs
        rw [hU] at UB
        obtain ⟨U0, U1⟩ := UB
        have UU := Lib.hid hU
        clear hU
        go_cut [13] from 38 to 152 (fun f wx => ∃ fb : Bool, f = .bool fb ∧ Hid (fb = true → ∃ j : Nat, n = j ∧ j < c.cl.length ∧ U + nth c.cl j ≤ (tnth c.ts t).q) ∧ Hid (Ext W2 wx))
        case first =>
          have b0 := PR2.out.own.ext.cell (B0.out.c 0 _ rfl)
          by_cases hj : 0 ≤ n ∧ n < (c.cl.length : Int)
          · obtain ⟨j, rfl⟩ := Int.eq_ofNat_of_zero_le hj.1
            have hj1 : j < c.cl.length := by omega
            have bd := KO.out.bounds hi hj1
            have s2 := bd.c2; have s64 := bd.c64
            have cj := PR2.out.own.ext.cell (HCL.out j hj1)
            obtain ⟨S, hS⟩ : ∃ S, nth c.cl j = S := ⟨_, rfl⟩
            rw [hS] at cj s2 s64
            have t0 : decide ((0 : Int) ≤ (j : Int)) = true := by simp
            have t1 : decide ((j : Int) < (c.cl.length : Int)) = true := decide_eq_true (by omega)
            have k1 : IntKind.i64.wrap ((c.cl.length : Int) - 1) = (c.cl.length : Int) - 1 := IntWalk.i64_in _ (by omega)
            have k2 : IntKind.i64.wrap (U + S) = U + S := IntWalk.i64_in _ (by omega)
            have hj0 : (0 : Int) ≤ (j : Int) := Int.natCast_nonneg _
            have SJ := Lib.hid hS
            have k3 : (if (c.cl.length : Int) - 1 < (j : Int) then (c.cl.length : Int) - 1 else (j : Int)) = (j : Int) := if_neg (by omega)
            have k4 : (if (0 : Int) < (j : Int) then (j : Int) else 0) = (j : Int) := by split <;> omega
            have k5 : (if 0 < j then (j : Int) else 0) = (j : Int) := by split <;> omega
            clear hj bd hS
            go_quiet ((go_at_call 24; exact Calls.quiet_of_same (flip (CU.out _ ((Ext.refl _).drewN _)))))
            go_wp2_with fail
            go_meet
            exact ⟨_, rfl, Lib.hid (fun h => ⟨j, rfl, hj1, by rw [SJ.out]; exact of_decide_eq_true h⟩), Lib.hid ((Ext.refl _).drewN _)⟩
          · by_cases hn : n < 0
            · have t0 : decide ((0 : Int) ≤ n) = false := decide_eq_false (by omega)
              clear hj
              go_quiet (fail)
              go_wp2_with fail
              go_meet
              exact ⟨_, rfl, Lib.hid (fun h => by simp at h), Lib.hid ((Ext.refl _).drewN _)⟩
            · have t0 : decide ((0 : Int) ≤ n) = true := decide_eq_true (by omega)
              have t1 : decide (n < (c.cl.length : Int)) = false := decide_eq_false (by omega)
              clear hj
              go_quiet (fail)
              go_wp2_with fail
              go_meet
              exact ⟨_, rfl, Lib.hid (fun h => by simp at h), Lib.hid ((Ext.refl _).drewN _)⟩
        case rest =>
          obtain ⟨fb, rfl, FB, XC⟩ := hcut
          go_wp2_with fail
          refine (arena_Taken (PR2.out.own.ar.ext XC.out)).mono ?_
          rintro e w3 ⟨kb, kg, rfl, ht3, kl1, kl2, x3⟩
          have NK : Hid (¬ arB b rg kb ∧ ¬ arB b rg kg) := Lib.hid (by
            have h1 := (PR2.out.own.ar.ext XC.out).lt
            have h2 := kl2 PR2.out.own.ar.pos
            unfold arB; omega)
          have TK := Lib.hid ht3
          have X3 := Lib.hid (XC.out.trans x3)
          have a0 := X3.out.cell (YB.out.c 0 _ rfl)
          clear ht3 x3 XC kl1 kl2
          go_wp2_with fail
          refine (CU.out _ X3.out).mono ?_
          rintro e w' ⟨rfl, rfl⟩
          have PR3 := Lib.hid (PR2.out.go X3.out)
          have YB3 := Lib.hid (YB.out.ext X3.out)
          have a1 := YB3.out.c 1 _ rfl
          have q0 := (PR3.out.box).c 0 _ rfl; have q1 := (PR3.out.box).c 1 _ rfl; have q2 := (PR3.out.box).c 2 _ rfl; have q3 := (PR3.out.box).c 3 _ rfl; have q4 := (PR3.out.box).c 4 _ rfl; have q5 := (PR3.out.box).c 5 _ rfl
          obtain ⟨yy, hyy⟩ : ∃ y, wh % 4 = y := ⟨_, rfl⟩
          have YY := Lib.hid hyy
          by_cases hy : 1 < yy
          · have ty : decide ((1 : Int) < yy) = true := decide_eq_true hy
            clear hy
            go_wp2_with fail
            clear q0 q1 q2 q3 q4 q5 a0 a1 ty
            have CD := Lib.hid (law10_does (P := arZ b rg zq) (lc := lc) (fc := fc) (mc := mc) (cc := cc) (qc := qc) ⟨wh, n⟩ PR3.out.own.ar PR3.out.doc PR3.out.own.tab PR3.out.lt arZ_ar OK.out)
            dsimp only at CD
            refine CD.out.mono ?_
            rintro e w6 ⟨bs2, qa2, qc2, rfl, ha6, hd6, hc6, hl6, ql6⟩
            have nq : ¬ arB b rg zq := by have := PR3.out.nb; unfold arB; omega
            have zb6 := PR3.out.box.chg hc6 nq
            have z0 := zb6.c 0 _ rfl; have z1 := zb6.c 1 _ rfl; have z2 := zb6.c 2 _ rfl; have z3 := zb6.c 3 _ rfl; have z4 := zb6.c 4 _ rfl; have z5 := zb6.c 5 _ rfl
            have y0 := zb6.f 0; have y1 := zb6.f 1; have y2 := zb6.f 2; have y3 := zb6.f 3; have y4 := zb6.f 4; have y5 := zb6.f 5
            clear zb6
            have PS := Lib.hid (PR3.out.step (qc' := qc2) ha6 hd6 hc6 _ rfl)
            clear ha6 hd6 hc6 hl6 ql6 CD nq
            go_wp2_with fail
            go_roundw
            case rel => exact ⟨k + 1, bs2, qa2, qc2, by omega, by omega, by go_num, PS⟩
            case measure => simp [intOf] <;> omega
          · have ty : decide ((1 : Int) < yy) = false := decide_eq_false hy
            clear hy
            go_wp2_with fail
            clear q0 q1 q2 q3 q4 q5 a0 a1 ty
            obtain ⟨bs2, p, ee, hg⟩ := take_exists PR3.out.own.ar.plan.ok PR3.out.own.ar.plan.ti bs n
            have G := Lib.hid hg
            have LN := Lib.hid PR3.out.own.ar.len
            have nqz : ¬ arB b rg zq := by have := PR3.out.nb; unfold arB; omega
            have nzz : ¬ arB b rg z := by have h1 := PR3.out.own.lb; have h2 := PR3.out.own.lg; have h3 := B0.out.lt; unfold arB; omega
            have nkb : ¬ arB b rg kb ∧ ¬ arB b rg kg := NK.out
            clear hg
            refine (arena_Take PR3.out.own.ar PR3.out.own.tab G.out).mono ?_
            rintro e w7 ⟨rfl, ha7, hc7⟩
            have HA7 := Lib.hid ha7; have HC7 := Lib.hid hc7
            have GG := Lib.hid (fun W (x : Ext w7 W) (r : Bool) (hr : bget bs p = r) => row_Get bs r ((TK.out.chg hc7 nkb.1 (fun _ => nkb.2)).ext x) hr)
            have GH := Lib.hid (fun W (x : Ext w7 W) (r : Bool) (hr : bget bs2 p = r) => arena_Has r (ha7.ext x) hr)
            clear ha7 hc7
            by_cases he : ee = 0
            · subst he
              obtain ⟨j, s, rfl, hj1, rfl, hs, hb1, hb2, hu⟩ := G.out.ok KO.out hi LN.out
              have bd := KO.out.bounds hi hj1
              have s2 := bd.c2; have s64 := bd.c64
              have cj := HC7.out.cell (p := ⟨cb, co + j, none⟩) (by have h1 : cb < W0.heap.size := cell_lt (HCL.out j hj1); have h2 := PR3.out.own.lb; have h3 := PR3.out.own.lg; show ¬ arB b rg cb; unfold arB; omega) (PR3.out.own.ext.cell (HCL.out j hj1))
              have b0 := HC7.out.cell (p := ⟨z, 0, none⟩) nzz (PR3.out.own.ext.cell (B0.out.c 0 _ rfl))
              replace GG := Lib.hid (fun W x => GG.out W x false (by rw [bget_nat]; exact hb1))
              replace GH := Lib.hid (fun W x => GH.out W x true (by rw [bget_nat]; exact hb2))
              obtain ⟨S, hS⟩ : ∃ S, nth c.cl j = S := ⟨_, rfl⟩
              have GU := Lib.hid (fun W (x : Ext w7 W) => arena_Used (u := U + S) (HA7.out.ext x) (by rw [hu, UU.out, hS]))
              rw [hS] at cj s2 s64
              have k2 : IntKind.i64.wrap (U + S) = U + S := IntWalk.i64_in _ (by omega)
              have hj0 : (0 : Int) ≤ (j : Int) := Int.natCast_nonneg _
              have hj2 : (j : Int) < (c.cl.length : Int) := by omega
              clear hu hb1 hb2 bd hS
              cases fb
              · clear FB
                go_wp2_with fail
                go_quiet ((first | (go_at_call 27; exact Calls.quiet_of_same (flip (GG.out _ ((Ext.refl _).drewN _)))) | (go_at_call 28; exact Calls.quiet_of_same (flip (GH.out _ ((Ext.refl _).drewN _)))) | (go_at_call 24; exact Calls.quiet_of_same (flip (GU.out _ ((Ext.refl _).drewN _))))))
                have XQ := Lib.hid ((Ext.refl w7).drewN nq)
                have zb5 := (PR3.out.box.chg HC7.out nqz).ext XQ.out
                have q0 := zb5.c 0 _ rfl; have q1 := zb5.c 1 _ rfl; have q2 := zb5.c 2 _ rfl; have q3 := zb5.c 3 _ rfl; have q4 := zb5.c 4 _ rfl; have q5 := zb5.c 5 _ rfl
                clear zb5
                have D7 := Lib.hid ((PR3.out.doc.chg HC7.out arZ_ar).ext XQ.out)
                have CT := Lib.hid (ref10_Take (lc := lc) (fc := fc) (mc := mc) (cc := cc) (qc := qc) D7.out (fun k hk => Nat.lt_of_lt_of_le (PR3.out.lt k hk) (Nat.le_trans HC7.out.size XQ.out.size)) G.out)
                unfold dav at CT
                go_wp2_with fail
                clear q0 q1 q2 q3 q4 q5
                refine CT.out.mono ?_
                rintro e w8 ⟨qa2, qc2, rfl, hd8, x8, ql8⟩
                have zb8 := (PR3.out.box.chg HC7.out nqz).ext (XQ.out.trans x8)
                have z0 := zb8.c 0 _ rfl; have z1 := zb8.c 1 _ rfl; have z2 := zb8.c 2 _ rfl; have z3 := zb8.c 3 _ rfl; have z4 := zb8.c 4 _ rfl; have z5 := zb8.c 5 _ rfl
                have y0 := zb8.f 0; have y1 := zb8.f 1; have y2 := zb8.f 2; have y3 := zb8.f 3; have y4 := zb8.f 4; have y5 := zb8.f 5
                clear zb8
                have PS := Lib.hid (PR3.out.step (qc' := qc2) ((HA7.out.ext XQ.out).ext x8) hd8 (HC7.out.trans (Chg.of_ext (XQ.out.trans x8))) _ rfl)
                clear hd8 x8 ql8 CT
                go_wp2_with fail
                go_roundw
                case rel => exact ⟨k + 1, bs2, qa2, qc2, by omega, by omega, by go_num, PS⟩
                case measure => simp [intOf] <;> omega
              · clear FB
                go_wp2_with fail
                go_quiet ((first | (go_at_call 27; exact Calls.quiet_of_same (flip (GG.out _ ((Ext.refl _).drewN _)))) | (go_at_call 28; exact Calls.quiet_of_same (flip (GH.out _ ((Ext.refl _).drewN _)))) | (go_at_call 24; exact Calls.quiet_of_same (flip (GU.out _ ((Ext.refl _).drewN _))))))
                have XQ := Lib.hid ((Ext.refl w7).drewN nq)
                have zb5 := (PR3.out.box.chg HC7.out nqz).ext XQ.out
                have q0 := zb5.c 0 _ rfl; have q1 := zb5.c 1 _ rfl; have q2 := zb5.c 2 _ rfl; have q3 := zb5.c 3 _ rfl; have q4 := zb5.c 4 _ rfl; have q5 := zb5.c 5 _ rfl
                clear zb5
                have D7 := Lib.hid ((PR3.out.doc.chg HC7.out arZ_ar).ext XQ.out)
                have CT := Lib.hid (ref10_Take (lc := lc) (fc := fc) (mc := mc) (cc := cc) (qc := qc) D7.out (fun k hk => Nat.lt_of_lt_of_le (PR3.out.lt k hk) (Nat.le_trans HC7.out.size XQ.out.size)) G.out)
                unfold dav at CT
                go_wp2_with fail
                clear q0 q1 q2 q3 q4 q5
                refine CT.out.mono ?_
                rintro e w8 ⟨qa2, qc2, rfl, hd8, x8, ql8⟩
                have zb8 := (PR3.out.box.chg HC7.out nqz).ext (XQ.out.trans x8)
                have z0 := zb8.c 0 _ rfl; have z1 := zb8.c 1 _ rfl; have z2 := zb8.c 2 _ rfl; have z3 := zb8.c 3 _ rfl; have z4 := zb8.c 4 _ rfl; have z5 := zb8.c 5 _ rfl
                have y0 := zb8.f 0; have y1 := zb8.f 1; have y2 := zb8.f 2; have y3 := zb8.f 3; have y4 := zb8.f 4; have y5 := zb8.f 5
                clear zb8
                have PS := Lib.hid (PR3.out.step (qc' := qc2) ((HA7.out.ext XQ.out).ext x8) hd8 (HC7.out.trans (Chg.of_ext (XQ.out.trans x8))) _ rfl)
                clear hd8 x8 ql8 CT
                go_wp2_with fail
                go_roundw
                case rel => exact ⟨k + 1, bs2, qa2, qc2, by omega, by omega, by go_num, PS⟩
                case measure => simp [intOf] <;> omega
            · obtain ⟨eb, rfl, he2⟩ := G.out.no he
              obtain rfl : bs = bs2 := eb.symm
              have GU := Lib.hid (fun W (x : Ext w7 W) => arena_Used (u := U) (HA7.out.ext x) UU.out)
              have hfb : fb = false := by
                cases fb with
                | false => rfl
                | true =>
                  obtain ⟨j, rfl, hj1, hj2⟩ := FB.out rfl
                  exact absurd (room_take KO.out hi hj1 G.out (by rw [UU.out]; exact hj2)) he
              subst hfb
              have te : (ee == 0) = false := by simpa using he
              have te2 : (ee != 0) = true := by simpa using he
              clear FB
              go_wp2_with fail
              go_quiet ((first | (go_at_call 27; exact Calls.quiet_of_same (flip (GG.out _ ((Ext.refl _).drewN _)))) | (go_at_call 28; exact Calls.quiet_of_same (flip (GH.out _ ((Ext.refl _).drewN _)))) | (go_at_call 24; exact Calls.quiet_of_same (flip (GU.out _ ((Ext.refl _).drewN _))))))
              go_wp2_with fail
              have PS := Lib.hid ((PR3.out.turn HA7.out HC7.out).go ((Ext.refl w7).drewN nq))
              go_roundw
              case rel => exact ⟨k + 1, bs, qa, qc, by omega, by omega, by go_num, PS⟩
              case measure => simp [intOf] <;> omega
      all_goals
        go_wp2_with fail
        refine (law10_awake _ PR.out.own.tab).mono ?_
        rintro e w8 ⟨rfl, x8⟩
        go_wp2_with fail
        go_ret
        exact ⟨rfl, X0.out.trans (PR.out.own.ext.trans x8)⟩
  · have CM := Lib.hid (law10_made_no c tn (by
      by_cases h1 : bigA c = true
      · exact .inl h1
      · exact .inr fun h2 => hg ⟨by simpa using h1, h2⟩) (H.out.ext X0.out))
    clear hg
    go_enter Tryd.func5, Tryd.ntmps5
    go_wp2_with fail
    clear b0 b1 b2 b3 b4 b5
    refine CM.out.mono ?_
    rintro e w1 ⟨rfl, x1⟩
    have X1 := Lib.hid x1
    clear x1 CM
    go_wp2_with fail
    refine (law10_awake _ (HT.out.ext (X0.out.trans (X1.out.trans ((Ext.refl _).alloc _))))).mono ?_
    rintro e w2 ⟨rfl, x2⟩
    go_wp2_with fail
    go_ret
    exact ⟨rfl, X0.out.trans (X1.out.trans (((Ext.refl _).alloc _).trans x2))⟩
end Go.Proofs.YtlhajoamebfniaaDoor
