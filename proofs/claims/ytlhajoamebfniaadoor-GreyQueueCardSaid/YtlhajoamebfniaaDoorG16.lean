/-
  Merged texts: Law17f, Wf, GreRow, CfgRow, Door, BitsRow.
-/
import Derived.Test.YtlhajoamebfniaaDoorG15
import Derived.ProofKit
import Derived.OpenShut
import Derived.Test.YtlhajoamebfniaaDoorProg
import Derived.Deep.Slices
import Derived.Deep.Fields
import Derived.Test.YtlhajoamebfniaaDoorG01
import Derived.Test.YtlhajoamebfniaaDoorRows
import Derived.LaidMore
import Derived.Test.YtlhajoamebfniaaDoorG07
set_option linter.unusedVariables false
set_option linter.unusedSimpArgs false
/-! commonagelaw17: GreyAll. (Printed by wip/gen17l.py.) -/
namespace Go.Proofs.YtlhajoamebfniaaDoor
open Go.RowKit
variable {w0 w w' wr W : World} {b pb gp ob og db dg rg zq lb fb mb pk tk : Nat} {ca : Option Addr} {c : Conf} {t n : Nat} {g g' : GS} {V V' : List Value} {put : List Bool} {told : List Int}

/-- A grey, the document's plan, a row of truths and one of numbers that lie behind them. -/
structure AG (w0 : World) (b pb gp ob og db dg rg zq lb fb mb : Nat) (ca : Option Addr) (pk tk : Nat) (c : Conf) (t n : Nat) (V : List Value) (g : GS) (put : List Bool) (told : List Int) (wr : World) : Prop where
  bg : BG w0 b pb gp ob og db dg rg zq c t n V g wr
  plan : DPlan wr lb fb mb ca c t
  np : ¬ (grB b og dg rg lb ∨ zq ≤ lb) ∧ ¬ (grB b og dg rg fb ∨ zq ≤ fb) ∧ ¬ (grB b og dg rg mb ∨ zq ≤ mb)
  nc : ∀ x o, ca = some ⟨x, o, none⟩ → ¬ (grB b og dg rg x ∨ zq ≤ x)
  pr : BAt wr (some ⟨pk, 0, none⟩) put
  tr : At .i64 wr (some ⟨tk, 0, none⟩) told
  fp : ∀ o, wr.frozen? ⟨pk, o, none⟩ = false
  ft : ∀ o, wr.frozen? ⟨tk, o, none⟩ = false
  lt : zq < pk ∧ pk < tk ∧ tk < wr.heap.size
theorem AG.go (h : AG w0 b pb gp ob og db dg rg zq lb fb mb ca pk tk c t n V g put told wr) (hx : Ext wr w') : AG w0 b pb gp ob og db dg rg zq lb fb mb ca pk tk c t n V g put told w' := by
  have l := h.lt
  exact ⟨h.bg.go hx, h.plan.ext hx, h.np, h.nc, h.pr.ext hx, h.tr.ext hx, fun o => by rw [hx.frozen (p := ⟨pk, o, none⟩) (by show pk < _; omega)]; exact h.fp o, fun o => by rw [hx.frozen (p := ⟨tk, o, none⟩) (by show tk < _; omega)]; exact h.ft o, l.1, l.2.1, Nat.lt_of_lt_of_le l.2.2 hx.size⟩
theorem AG.turn (h : AG w0 b pb gp ob og db dg rg zq lb fb mb ca pk tk c t n V g put told wr) (ho : OwnG w0 w' b pb gp ob og db dg rg c t n g') (hc : Chg (grB b og dg rg) wr w') : AG w0 b pb gp ob og db dg rg zq lb fb mb ca pk tk c t n V g' put told w' := by
  have l := h.lt
  have np := h.np
  have nk : ∀ k, zq < k → ¬ grB b og dg rg k := fun k hk q => by have := h.bg.gb _ q; omega
  exact ⟨h.bg.turn ho hc, h.plan.at hc (fun q => np.1 (.inl q)) (fun q => np.2.1 (.inl q)) (fun q => np.2.2 (.inl q)) (fun x o e q => h.nc x o e (.inl q)), np, h.nc, h.pr.chg hc (fun b o e q => by cases e; exact nk _ l.1 q), h.tr.chg hc (fun b o e _ q => by cases e; exact nk _ (by omega) q), fun o => by rw [hc.frozen (p := ⟨pk, o, none⟩) (by show pk < _; omega) (nk _ l.1)]; exact h.fp o, fun o => by rw [hc.frozen (p := ⟨tk, o, none⟩) (by show tk < _; omega) (nk tk (by omega))]; exact h.ft o, l.1, l.2.1, Nat.lt_of_lt_of_le l.2.2 hc.size⟩
theorem AG.setP (h : AG w0 b pb gp ob og db dg rg zq lb fb mb ca pk tk c t n V g put told wr) {j : Nat} (hj : j < put.length) (v : Bool) : AG w0 b pb gp ob og db dg rg zq lb fb mb ca pk tk c t n V g (put.set j v) told (wr.setCell ⟨pk, j, none⟩ (.bool v)) := by
  have l := h.lt
  have np := h.np
  have n1 : lb < zq := by have := fun q => np.1 (.inr q); omega
  have n2 : fb < zq := by have := fun q => np.2.1 (.inr q); omega
  have n3 : mb < zq := by have := fun q => np.2.2 (.inr q); omega
  have hc := (Chg.refl (fun k => k = pk) wr).setCell (p := ⟨pk, j, none⟩) (.inl rfl) (.bool v)
  exact ⟨h.bg.past hc (fun k e => by omega), h.plan.at hc (by omega) (by omega) (by omega) (fun x o e q => h.nc x o e (.inr (by omega))), np, h.nc, h.pr.set hj v, h.tr.chg hc (fun b o e _ q => by cases e; omega), fun o => by rw [World.frozen?_setCell]; exact h.fp o, fun o => by rw [World.frozen?_setCell]; exact h.ft o, l.1, l.2.1, by simpa using l.2.2⟩
theorem AG.setT (h : AG w0 b pb gp ob og db dg rg zq lb fb mb ca pk tk c t n V g put told wr) {j : Nat} (hj : j < told.length) (v : Int) : AG w0 b pb gp ob og db dg rg zq lb fb mb ca pk tk c t n V g put (told.set j v) (wr.setCell ⟨tk, j, none⟩ (.int .i64 v)) := by
  have l := h.lt
  have np := h.np
  have n1 : lb < zq := by have := fun q => np.1 (.inr q); omega
  have n2 : fb < zq := by have := fun q => np.2.1 (.inr q); omega
  have n3 : mb < zq := by have := fun q => np.2.2 (.inr q); omega
  have hc := (Chg.refl (fun k => k = tk) wr).setCell (p := ⟨tk, j, none⟩) (.inl rfl) (.int .i64 v)
  exact ⟨h.bg.past hc (fun k e => by omega), h.plan.at hc (by omega) (by omega) (by omega) (fun x o e q => h.nc x o e (.inr (by omega))), np, h.nc, h.pr.chg hc (fun b o e q => by cases e; omega), h.tr.set hj v, fun o => by rw [World.frozen?_setCell]; exact h.fp o, fun o => by rw [World.frozen?_setCell]; exact h.ft o, l.1, l.2.1, by simpa using l.2.2⟩
theorem AG.pc (h : AG w0 b pb gp ob og db dg rg zq lb fb mb ca pk tk c t n V g put told wr) {j : Nat} (hj : j < put.length) : wr.cell? ⟨pk, j, none⟩ = some (.bool (bnth put j)) := by
  obtain ⟨b, o, e, hc⟩ := h.pr j hj
  cases e; rwa [Nat.zero_add] at hc
theorem AG.tc (h : AG w0 b pb gp ob og db dg rg zq lb fb mb ca pk tk c t n V g put told wr) {j : Nat} (hj : j < told.length) : wr.cell? ⟨tk, j, none⟩ = some (.int .i64 (nth told j)) := by
  obtain ⟨b, o, e, hc⟩ := h.tr j hj
  cases e; rwa [Nat.zero_add] at hc
theorem madeB_at {W : World} {S m : Nat} (hs : W.heap.size = S) (u : TypeId) : BAt (W.alloc (.cells (madeCells #[.bool false] m) u)) (some ⟨S, 0, none⟩) (List.replicate m false) := by
  subst hs
  refine BAt.mk fun i hi => ?_
  rw [List.length_replicate] at hi
  rw [Nat.zero_add, bnth_rep0, cell_newN, made_at hi]
theorem madeI_at {W : World} {S m : Nat} (hs : W.heap.size = S) (u : TypeId) : At .i64 (W.alloc (.cells (madeCells #[.int .i64 0] m) u)) (some ⟨S, 0, none⟩) (List.replicate m 0) := by
  subst hs
  refine At.mk fun i hi => ?_
  rw [List.length_replicate] at hi
  rw [Nat.zero_add, cell_newN, made_at hi]
  simp [nth, List.getD, hi]

set_option maxRecDepth 100000 in
set_option maxHeartbeats 32000000 in
theorem law17_GreyAll {ca0 ta la : Option Addr} {cc0 tc lcc : Nat} (c : Conf) (l : List GAct) (w : World) (hT : Tab w) (h : CfgAt w ca0 ta cc0 tc c) (hl : GActAt w la l) (hlm : l.length ≤ maxLen) :
    Calls Tryd.prog 3 #[.agg #[.slice ca0 c.cl.length cc0, .int .i64 c.page, .slice ta c.ts.length tc, .int .i64 c.wk, .int .i64 c.gr, .int .i64 c.gens], .slice la l.length lcc] w fun e w' => e = .returned (.bool true) ∧ Ext w w' := by
  have H := Lib.hid h; have HL := Lib.hid hl; have HT := Lib.hid hT
  unfold maxLen at hlm
  clear h hl hT
  obtain ⟨z, hz⟩ : ∃ z, w.heap.size = z := ⟨_, rfl⟩
  have HZ := Lib.hid hz
  obtain ⟨W0, hW0⟩ : ∃ W0, w.alloc (.cells #[.slice ca0 c.cl.length cc0, .int .i64 c.page, .slice ta c.ts.length tc, .int .i64 c.wk, .int .i64 c.gr, .int .i64 c.gens] 25) = W0 := ⟨_, rfl⟩
  have X0 : Hid (Ext w W0) := Lib.hid (by rw [← hW0]; exact (Ext.refl _).alloc _)
  have B0 : Hid (BoxG W0 z [.slice ca0 c.cl.length cc0, .int .i64 c.page, .slice ta c.ts.length tc, .int .i64 c.wk, .int .i64 c.gr, .int .i64 c.gens]) := Lib.hid (by rw [← hW0]; exact BoxG.new w _ _ hz)
  have b0 := B0.out.c 0 _ rfl; have b1 := B0.out.c 1 _ rfl; have b2 := B0.out.c 2 _ rfl; have b3 := B0.out.c 3 _ rfl; have b4 := B0.out.c 4 _ rfl; have b5 := B0.out.c 5 _ rfl
  by_cases hg : bigA c = false ∧ kcheck c = 0
  · obtain ⟨hg, h0⟩ := hg
    have ho := kcheck_ok h0
    obtain ⟨t, hmod, hi⟩ := mod_nat (tn := 0) ho.head.2.2.1
    obtain ⟨n, hn⟩ := cfg_gr h0
    have CM := Lib.hid (law17_made c 0 (HT.out.ext X0.out) hg h0 (by decide) hi hmod hn (H.out.ext X0.out))
    have n64 : 1 ≤ n ∧ n ≤ 64 := by have := ho.head.2.2.2.2.2.2.1; have := ho.head.2.2.2.2.2.2.2.1; omega
    have sp := ho.nS_pos hi; have sl := ho.nS_le hi
    have mkb := gmake_bools (nS c t) (by omega)
    have mki := gmake_ints (nS c t) (by omega)
    have HK := Lib.hid ho; have HI := Lib.hid hi
    clear hg h0 ho hmod hn
    go_enter Tryd.func3, Tryd.ntmps3
    go_wp2_with fail
    clear b0 b1 b2 b3 b4 b5
    refine CM.out.mono ?_
    rintro e w1 ⟨b, pb, gp, ob, og, db, dg, rg, V, rfl, ho, hd⟩
    have HO := Lib.hid ho
    obtain ⟨lb, lc, fb, fc, mb, mc, ca, cc, qa, qc, oa, oc, da, dc, pg, a, rfl, hd⟩ := hd
    have HDG := Lib.hid hd.widen
    clear ho hd CM
    unfold gvs
    go_upto_region 4 with fail
    obtain ⟨zq, hzq⟩ : ∃ zq, w1.heap.size = zq := ⟨_, rfl⟩
    obtain ⟨W1, hW1⟩ : ∃ W, w1.alloc (.cells #[.slice (some ⟨lb, 0, none⟩) (nS c t) lc, .slice (some ⟨fb, 0, none⟩) (nG c t) fc, .slice (some ⟨mb, 0, none⟩) (nG c t) mc, .int .i64 (wordsOf c t), .slice ca c.cl.length cc, .int .i64 n, .slice qa (clearG c t).q.length qc, .slice oa (clearG c t).ow.length oc, .slice da (clearG c t).di.length dc, .int .i64 pg, .int .i64 a] 33) = W := ⟨_, rfl⟩
    have x1 : Ext w1 W1 := by rw [← hW1]; exact (Ext.refl _).alloc _
    have BG1 : Hid (BG W0 b pb gp ob og db dg rg zq c t n [.slice (some ⟨lb, 0, none⟩) (nS c t) lc, .slice (some ⟨fb, 0, none⟩) (nG c t) fc, .slice (some ⟨mb, 0, none⟩) (nG c t) mc, .int .i64 (wordsOf c t), .slice ca c.cl.length cc, .int .i64 n, .slice qa (clearG c t).q.length qc, .slice oa (clearG c t).ow.length oc, .slice da (clearG c t).di.length dc, .int .i64 pg, .int .i64 a] (clearG c t) W1) := Lib.hid (by
      obtain ⟨f, hf⟩ := HO.out.gr
      have l := hf.lt
      have tb : 0 < w1.heap.size := cell_lt (HO.out.tab 0 (by decide))
      have := HO.out.ext.size
      exact ⟨HO.out.go x1, by rw [← hW1]; exact BoxG.new w1 _ _ hzq, by omega, by omega⟩)
    have D1 := Lib.hid (HDG.out.ext x1)
    have S1 : Hid (W1.heap.size = zq + 1) := Lib.hid (by rw [← hW1]; simp [hzq])
    have ZQ := Lib.hid hzq
    rw [hW1, hzq]
    clear HO HDG hW1 hzq x1
    have q0 := BG1.out.box.c 0 _ rfl
    have lz := BG1.out.box.lt
    go_upto_region 6 with fail
    obtain ⟨tk, htk⟩ : ∃ tk, W1.heap.size + 1 = tk := ⟨_, rfl⟩
    obtain ⟨pk, hpk⟩ : ∃ pk, W1.heap.size = pk := ⟨_, rfl⟩
    obtain ⟨W3, hW3⟩ : ∃ W, (W1.alloc (.cells (madeCells #[.bool false] (nS c t)) 4)).alloc (.cells (madeCells #[.int .i64 0] (nS c t)) 3) = W := ⟨_, rfl⟩
    have A0 : Hid (AG W0 b pb gp ob og db dg rg zq lb fb mb ca pk tk c t n [.slice (some ⟨lb, 0, none⟩) (nS c t) lc, .slice (some ⟨fb, 0, none⟩) (nG c t) fc, .slice (some ⟨mb, 0, none⟩) (nG c t) mc, .int .i64 (wordsOf c t), .slice ca c.cl.length cc, .int .i64 n, .slice qa (clearG c t).q.length qc, .slice oa (clearG c t).ow.length oc, .slice da (clearG c t).di.length dc, .int .i64 pg, .int .i64 a] (clearG c t) (List.replicate (nS c t) false) (List.replicate (nS c t) 0) W3) := Lib.hid (by
      have x3 : Ext W1 W3 := by rw [← hW3]; exact ((Ext.refl _).alloc _).alloc _
      have s1 := S1.out
      have zz := ZQ.out
      have np := D1.out.np
      refine ⟨BG1.out.go x3, D1.out.plan.ext x3, ?_, fun x o e q => D1.out.nc x o e ?_, ?_, ?_, fun o => ?_, fun o => ?_, by omega, by omega, ?_⟩
      · rw [zz] at np; exact np
      · rw [zz]; exact q
      · rw [← hW3]; exact (madeB_at hpk _).ext ((Ext.refl _).alloc _)
      · rw [← hW3]; exact madeI_at (by simp; omega) _
      · rw [← hW3, ((Ext.refl _).alloc _).frozen (p := ⟨pk, o, none⟩) (by simp; omega)]; exact World.frozen?_alloc_at _ _ _ _ hpk.symm
      · rw [← hW3]; exact World.frozen?_alloc_at _ _ _ _ (by simp; omega)
      · rw [← hW3]; simp; omega)
    rw [hW3, htk, hpk]
    have PT := Lib.hid (show tk = pk + 1 by omega)
    clear BG1 D1 q0 lz hW3 htk hpk mkb mki S1 ZQ
    go_upto_region 8 with fail
    go_loopw [9, 10, 11] (fun sv ov kv wr => ∃ (S O k : Nat) (g : GS) (put : List Bool) (told : List Int), k ≤ l.length ∧ k ≤ 100 ∧ O ≤ 64 * k ∧ S ≤ O ∧ sv = .int .i64 S ∧ ov = .int .i64 O ∧ kv = .int .i64 k ∧ Hid (GInv c t n g put told S O) ∧ Hid (AG W0 b pb gp ob og db dg rg zq lb fb mb ca pk tk c t n [.slice (some ⟨lb, 0, none⟩) (nS c t) lc, .slice (some ⟨fb, 0, none⟩) (nG c t) fc, .slice (some ⟨mb, 0, none⟩) (nG c t) mc, .int .i64 (wordsOf c t), .slice ca c.cl.length cc, .int .i64 n, .slice qa (clearG c t).q.length qc, .slice oa (clearG c t).ow.length oc, .slice da (clearG c t).di.length dc, .int .i64 pg, .int .i64 a] g put told wr)) (fun _ _ kv _ => 100 - (intOf kv).toNat)
    case atStart => exact ⟨0, 0, 0, _, _, _, Nat.zero_le _, Nat.zero_le _, Nat.zero_le _, Nat.zero_le _, rfl, rfl, rfl, Lib.hid (GInv.start HK.out HI.out), A0⟩
    case round =>
      clear A0
      obtain ⟨S, O, k, g, put, told, hk, hk100, hO, hSO, rfl, rfl, rfl, GI, AR⟩ := hrel
      rcases (show (k < l.length ∧ k < 100) ∨ (k < l.length ∧ k = 100) ∨ k = l.length by omega) with ⟨hlt, h100⟩ | ⟨hlt, rfl⟩ | rfl
      · obtain ⟨ok, ab, ao, rfl, c0, c1⟩ := HL.out k hlt
        have OK := Lib.hid ok
        have XW := Lib.hid (X0.out.trans AR.out.bg.own.ext)
        replace c0 := XW.out.cell c0; replace c1 := XW.out.cell c1
        clear ok XW
        generalize gActnth l k = y at *
        obtain ⟨wh, s⟩ := y
        have hk0 : (0 : Int) ≤ (k : Int) := Int.natCast_nonneg _
        have hk1 : (k : Int) < (l.length : Int) := by omega
        go_upto_region 11 with fail
        obtain ⟨W2, hW2⟩ : ∃ W, wr.alloc (.cells #[.int .u8 wh, .int .i64 s] 38) = W := ⟨_, rfl⟩
        obtain ⟨xb, hxb⟩ : ∃ xb, wr.heap.size = xb := ⟨_, rfl⟩
        have BX : Hid (BoxG W2 xb [.int .u8 wh, .int .i64 s]) := Lib.hid (by rw [← hW2]; exact BoxG.new wr _ _ hxb)
        have XZ := Lib.hid (show tk < xb by have := AR.out.lt; omega)
        replace AR := Lib.hid (AR.out.go (show Ext wr W2 by rw [← hW2]; exact (Ext.refl _).alloc _))
        rw [hW2, hxb]
        clear hW2 hxb c0 c1
        have hwh : 0 ≤ wh ∧ wh ≤ 255 := OK.out.1
        have hw0 := Int.emod_nonneg wh (show (5 : Int) ≠ 0 by decide)
        have hw1 := Int.emod_lt_of_pos wh (show (0 : Int) < 5 by decide)
        obtain ⟨y, hy⟩ : ∃ y, wh % 5 = y := ⟨_, rfl⟩
        rw [hy] at hw0 hw1
        rcases (show y = 0 ∨ y = 1 ∨ y = 2 ∨ y = 3 ∨ y = 4 by omega) with rfl | rfl | rfl | rfl | rfl
        · as_aux_lemma =>
          by_cases hs : 0 ≤ s ∧ s < (nS c t : Int)
          · obtain ⟨j, rfl⟩ : ∃ j : Nat, s = j := ⟨s.toNat, by omega⟩
            have hj : j < nS c t := by omega
            have HAS := Lib.hid (fun W : World => ref09_Has (lb := lb) (lc := lc) (fb := fb) (fc := fc) (mb := mb) (mc := mc) (ca := ca) (cc := cc) (c := c) (t := t) (s := (j : Int)) (w := W) true (by simpa using hj))
            unfold dpv at HAS
            have HJ := Lib.hid hj
            have jp : j < put.length := by rw [GI.out.pl]; exact hj
            have j0 : (0 : Int) ≤ (j : Int) := Int.natCast_nonneg _
            have j1 : (j : Int) < (nS c t : Int) := by omega
            clear hs
            have q0 := AR.out.bg.box.c 0 _ rfl; have q1 := AR.out.bg.box.c 1 _ rfl; have q2 := AR.out.bg.box.c 2 _ rfl; have q3 := AR.out.bg.box.c 3 _ rfl; have q4 := AR.out.bg.box.c 4 _ rfl
            have x0 := BX.out.c 0 _ rfl; have x1 := BX.out.c 1 _ rfl
            have lq := AR.out.bg.box.lt; have lx := BX.out.lt
            go_upto_region 14 with fail
            go_wp2_with fail
            refine (HAS.out _).mono ?_
            rintro e wH ⟨rfl, xH⟩
            replace AR := Lib.hid (AR.out.go xH)
            replace BX := Lib.hid (BX.out.ext xH)
            clear q0 q1 q2 q3 q4 x0 x1 lq lx
            clear xH HAS
            have x1 := BX.out.c 1 _ rfl; have lx := BX.out.lt
            have cp := AR.out.pc jp
            have pkl : pk < wH.heap.size := by have := AR.out.lt; omega
            cases hb : bnth put j
            · rw [hb] at cp
              have HB := Lib.hid hb
              clear hb
              have fp := AR.out.fp j
              go_upto_region 16 with fail
              replace AR := Lib.hid (AR.out.setP jp true)
              replace BX := Lib.hid (BX.out.far (p := ⟨pk, j, none⟩) (by have := AR.out.lt; have := XZ.out; show pk ≠ xb; omega) (.bool true))
              obtain ⟨W4, hW4⟩ : ∃ W, wH.setCell ⟨pk, j, none⟩ (.bool true) = W := ⟨_, rfl⟩
              rw [hW4] at AR BX ⊢
              clear hW4 cp fp x1 lx pkl
              have x1 := BX.out.c 1 _ rfl; have lx := BX.out.lt
              obtain ⟨m, hm⟩ : ∃ m, g.q.length = m := ⟨_, rfl⟩
              have HM := Lib.hid hm
              clear hm
              go_wp2_with fail
              refine (own_Len AR.out.bg.own HM.out).mono ?_
              rintro e wL ⟨rfl, rfl⟩
              by_cases hq : g.q.length < n
              · obtain ⟨hp, gi⟩ := GI.out.putQ HJ.out HB.out hq
                have GI1 := Lib.hid gi; have HP := Lib.hid hp
                clear gi hp hq
                go_wp2_with fail
                refine (own_Put AR.out.bg.own HP.out).mono ?_
                rintro e wA ⟨rfl, ho, hc⟩
                replace AR := Lib.hid (AR.out.turn ho hc)
                replace BX := Lib.hid (BX.out.chg hc (fun q => by have := AR.out.bg.gb _ q; have := AR.out.lt; have := XZ.out; omega))
                clear ho hc
                clear x1 lx
                obtain ⟨m1, hm1⟩ : ∃ m1, m + 1 = m1 := ⟨_, rfl⟩
                go_wp2_with fail
                refine (own_Len (m := m1) AR.out.bg.own (by rw [← hm1, ← HM.out]; simp)).mono ?_
                rintro e wL ⟨rfl, rfl⟩
                have tq : decide ((m1 : Int) = (m : Int)) = false := decide_eq_false (by omega)
                have tq' : decide (m1 = m) = false := decide_eq_false (by omega)
                have tq2 : ((m1 : Int) == (m : Int)) = false := beq_eq_false_iff_ne.2 (by omega)
                go_wp2_with fail
                go_roundw
                case rel => exact ⟨S, O, k + 1, _, _, _, by omega, by omega, by omega, by omega, by first | rfl | go_num, by first | rfl | go_num, by go_num, GI1, AR⟩
                case measure => simp [intOf]; omega
              · obtain ⟨hp, gi⟩ := GI.out.putO HJ.out HB.out hq
                have GI1 := Lib.hid gi; have HP := Lib.hid hp
                clear gi hp hq
                go_wp2_with fail
                refine (own_Put AR.out.bg.own HP.out).mono ?_
                rintro e wA ⟨rfl, ho, hc⟩
                replace AR := Lib.hid (AR.out.turn ho hc)
                replace BX := Lib.hid (BX.out.chg hc (fun q => by have := AR.out.bg.gb _ q; have := AR.out.lt; have := XZ.out; omega))
                clear ho hc
                clear x1 lx
                go_wp2_with fail
                refine (own_Len (m := m) AR.out.bg.own HM.out).mono ?_
                rintro e wL ⟨rfl, rfl⟩
                have tq2 : ((m : Int) == (m : Int)) = true := beq_self_eq_true _
                have sf := slFacts HK.out HI.out HJ.out
                have cl := AR.out.plan.l j HJ.out 3 _ rfl
                rw [sf.pg] at cl
                obtain ⟨p, hp⟩ : ∃ p, pgN c t j = p := ⟨_, rfl⟩
                have hpg := sf.lt
                rw [hp] at cl hpg
                obtain ⟨M, hM⟩ : ∃ M, mnN c t p = M := ⟨_, rfl⟩
                have hM64 := mnN_le HK.out HI.out hpg
                have cm : wA.cell? ⟨mb, p, none⟩ = some (.int .i64 (M : Int)) := by
                  have pf := pgFacts HK.out HI.out hpg
                  obtain ⟨b, o, e, hc⟩ := AR.out.plan.m p (by simpa [manys] using hpg)
                  cases e
                  have e5 : nth (manys c t (nG c t)) p = (M : Int) := by
                    rw [← hM, ← pf.mn]; simp [manys, nth, List.getD, hpg]
                  rw [e5, Nat.zero_add] at hc; exact hc
                rw [hp, hM] at GI1
                rw [hp] at AR
                rw [hM] at hM64
                have p0 : (0 : Int) ≤ (p : Int) := Int.natCast_nonneg _
                have p1 : (p : Int) < (nG c t : Int) := by omega
                have hwO : IntKind.i64.wrap ((O : Int) + (M : Int)) = (O : Int) + M := IntWalk.i64_in _ (by omega)
                have q0 := AR.out.bg.box.c 0 _ rfl; have q1 := AR.out.bg.box.c 1 _ rfl; have q2 := AR.out.bg.box.c 2 _ rfl; have q3 := AR.out.bg.box.c 3 _ rfl; have q4 := AR.out.bg.box.c 4 _ rfl
                have x0 := BX.out.c 0 _ rfl; have x1 := BX.out.c 1 _ rfl
                have lq := AR.out.bg.box.lt; have lx := BX.out.lt
                clear sf hp hM
                go_upto_region 20 with fail
                go_quiet (fail)
                have AQ := fun q => Lib.hid (AR.out.go ((Ext.refl wA).drewN q))
                clear q0 q1 q2 q3 q4 x0 x1 lq lx cl cm
                go_wp2_with fail
                go_roundw
                case rel => exact ⟨S, O + M, k + 1, _, _, _, by omega, by omega, by omega, by omega, by first | rfl | go_num, by first | rfl | go_num, by go_num, GI1, AQ _⟩
                case measure => simp [intOf]; omega
            · rw [hb] at cp
              clear hb
              go_wp2_with fail
              clear cp
              go_roundw
              case rel => exact ⟨S, O, k + 1, _, _, _, by omega, by omega, by omega, by omega, by first | rfl | go_num, by first | rfl | go_num, by go_num, GI, AR⟩
              case measure => simp [intOf]; omega
          · have HAS := Lib.hid (fun W : World => ref09_Has (lb := lb) (lc := lc) (fb := fb) (fc := fc) (mb := mb) (mc := mc) (ca := ca) (cc := cc) (c := c) (t := t) (s := s) (w := W) false (by simpa using hs))
            unfold dpv at HAS
            clear hs
            have q0 := AR.out.bg.box.c 0 _ rfl; have q1 := AR.out.bg.box.c 1 _ rfl; have q2 := AR.out.bg.box.c 2 _ rfl; have q3 := AR.out.bg.box.c 3 _ rfl; have q4 := AR.out.bg.box.c 4 _ rfl
            have x0 := BX.out.c 0 _ rfl; have x1 := BX.out.c 1 _ rfl
            have lq := AR.out.bg.box.lt; have lx := BX.out.lt
            go_upto_region 14 with fail
            go_wp2_with fail
            refine (HAS.out _).mono ?_
            rintro e wH ⟨rfl, xH⟩
            replace AR := Lib.hid (AR.out.go xH)
            clear q0 q1 q2 q3 q4 x0 x1 lq lx
            clear xH HAS
            go_wp2_with fail
            go_roundw
            case rel => exact ⟨S, O, k + 1, _, _, _, by omega, by omega, by omega, by omega, by first | rfl | go_num, by first | rfl | go_num, by go_num, GI, AR⟩
            case measure => simp [intOf]; omega
        · as_aux_lemma =>
          by_cases hs : 0 ≤ s ∧ s < (nS c t : Int)
          · obtain ⟨j, rfl⟩ : ∃ j : Nat, s = j := ⟨s.toNat, by omega⟩
            have hj : j < nS c t := by omega
            have HAS := Lib.hid (fun W : World => ref09_Has (lb := lb) (lc := lc) (fb := fb) (fc := fc) (mb := mb) (mc := mc) (ca := ca) (cc := cc) (c := c) (t := t) (s := (j : Int)) (w := W) true (by simpa using hj))
            unfold dpv at HAS
            have HJ := Lib.hid hj
            have jp : j < put.length := by rw [GI.out.pl]; exact hj
            have j0 : (0 : Int) ≤ (j : Int) := Int.natCast_nonneg _
            have j1 : (j : Int) < (nS c t : Int) := by omega
            clear hs
            have q0 := AR.out.bg.box.c 0 _ rfl; have q1 := AR.out.bg.box.c 1 _ rfl; have q2 := AR.out.bg.box.c 2 _ rfl; have q3 := AR.out.bg.box.c 3 _ rfl; have q4 := AR.out.bg.box.c 4 _ rfl
            have x0 := BX.out.c 0 _ rfl; have x1 := BX.out.c 1 _ rfl
            have lq := AR.out.bg.box.lt; have lx := BX.out.lt
            go_upto_region 14 with fail
            go_wp2_with fail
            refine (HAS.out _).mono ?_
            rintro e wH ⟨rfl, xH⟩
            replace AR := Lib.hid (AR.out.go xH)
            replace BX := Lib.hid (BX.out.ext xH)
            clear q0 q1 q2 q3 q4 x0 x1 lq lx
            clear xH HAS
            have x1 := BX.out.c 1 _ rfl; have lx := BX.out.lt
            have cp := AR.out.pc jp
            have pkl : pk < wH.heap.size := by have := AR.out.lt; omega
            cases hb : bnth put j
            · rw [hb] at cp
              have HB := Lib.hid hb
              clear hb
              have fp := AR.out.fp j
              go_upto_region 16 with fail
              replace AR := Lib.hid (AR.out.setP jp true)
              replace BX := Lib.hid (BX.out.far (p := ⟨pk, j, none⟩) (by have := AR.out.lt; have := XZ.out; show pk ≠ xb; omega) (.bool true))
              obtain ⟨W4, hW4⟩ : ∃ W, wH.setCell ⟨pk, j, none⟩ (.bool true) = W := ⟨_, rfl⟩
              rw [hW4] at AR BX ⊢
              clear hW4 cp fp x1 lx pkl
              have x1 := BX.out.c 1 _ rfl; have lx := BX.out.lt
              obtain ⟨m, hm⟩ : ∃ m, g.q.length = m := ⟨_, rfl⟩
              have HM := Lib.hid hm
              clear hm
              go_wp2_with fail
              refine (own_Len AR.out.bg.own HM.out).mono ?_
              rintro e wL ⟨rfl, rfl⟩
              by_cases hq : g.q.length < n
              · obtain ⟨hp, gi⟩ := GI.out.putQ HJ.out HB.out hq
                have GI1 := Lib.hid gi; have HP := Lib.hid hp
                clear gi hp hq
                go_wp2_with fail
                refine (own_Put AR.out.bg.own HP.out).mono ?_
                rintro e wA ⟨rfl, ho, hc⟩
                replace AR := Lib.hid (AR.out.turn ho hc)
                replace BX := Lib.hid (BX.out.chg hc (fun q => by have := AR.out.bg.gb _ q; have := AR.out.lt; have := XZ.out; omega))
                clear ho hc
                clear x1 lx
                obtain ⟨m1, hm1⟩ : ∃ m1, m + 1 = m1 := ⟨_, rfl⟩
                go_wp2_with fail
                refine (own_Len (m := m1) AR.out.bg.own (by rw [← hm1, ← HM.out]; simp)).mono ?_
                rintro e wL ⟨rfl, rfl⟩
                have tq : decide ((m1 : Int) = (m : Int)) = false := decide_eq_false (by omega)
                have tq' : decide (m1 = m) = false := decide_eq_false (by omega)
                have tq2 : ((m1 : Int) == (m : Int)) = false := beq_eq_false_iff_ne.2 (by omega)
                go_wp2_with fail
                go_roundw
                case rel => exact ⟨S, O, k + 1, _, _, _, by omega, by omega, by omega, by omega, by first | rfl | go_num, by first | rfl | go_num, by go_num, GI1, AR⟩
                case measure => simp [intOf]; omega
              · obtain ⟨hp, gi⟩ := GI.out.putO HJ.out HB.out hq
                have GI1 := Lib.hid gi; have HP := Lib.hid hp
                clear gi hp hq
                go_wp2_with fail
                refine (own_Put AR.out.bg.own HP.out).mono ?_
                rintro e wA ⟨rfl, ho, hc⟩
                replace AR := Lib.hid (AR.out.turn ho hc)
                replace BX := Lib.hid (BX.out.chg hc (fun q => by have := AR.out.bg.gb _ q; have := AR.out.lt; have := XZ.out; omega))
                clear ho hc
                clear x1 lx
                go_wp2_with fail
                refine (own_Len (m := m) AR.out.bg.own HM.out).mono ?_
                rintro e wL ⟨rfl, rfl⟩
                have tq2 : ((m : Int) == (m : Int)) = true := beq_self_eq_true _
                have sf := slFacts HK.out HI.out HJ.out
                have cl := AR.out.plan.l j HJ.out 3 _ rfl
                rw [sf.pg] at cl
                obtain ⟨p, hp⟩ : ∃ p, pgN c t j = p := ⟨_, rfl⟩
                have hpg := sf.lt
                rw [hp] at cl hpg
                obtain ⟨M, hM⟩ : ∃ M, mnN c t p = M := ⟨_, rfl⟩
                have hM64 := mnN_le HK.out HI.out hpg
                have cm : wA.cell? ⟨mb, p, none⟩ = some (.int .i64 (M : Int)) := by
                  have pf := pgFacts HK.out HI.out hpg
                  obtain ⟨b, o, e, hc⟩ := AR.out.plan.m p (by simpa [manys] using hpg)
                  cases e
                  have e5 : nth (manys c t (nG c t)) p = (M : Int) := by
                    rw [← hM, ← pf.mn]; simp [manys, nth, List.getD, hpg]
                  rw [e5, Nat.zero_add] at hc; exact hc
                rw [hp, hM] at GI1
                rw [hp] at AR
                rw [hM] at hM64
                have p0 : (0 : Int) ≤ (p : Int) := Int.natCast_nonneg _
                have p1 : (p : Int) < (nG c t : Int) := by omega
                have hwO : IntKind.i64.wrap ((O : Int) + (M : Int)) = (O : Int) + M := IntWalk.i64_in _ (by omega)
                have q0 := AR.out.bg.box.c 0 _ rfl; have q1 := AR.out.bg.box.c 1 _ rfl; have q2 := AR.out.bg.box.c 2 _ rfl; have q3 := AR.out.bg.box.c 3 _ rfl; have q4 := AR.out.bg.box.c 4 _ rfl
                have x0 := BX.out.c 0 _ rfl; have x1 := BX.out.c 1 _ rfl
                have lq := AR.out.bg.box.lt; have lx := BX.out.lt
                clear sf hp hM
                go_upto_region 20 with fail
                go_quiet (fail)
                have AQ := fun q => Lib.hid (AR.out.go ((Ext.refl wA).drewN q))
                clear q0 q1 q2 q3 q4 x0 x1 lq lx cl cm
                go_wp2_with fail
                go_roundw
                case rel => exact ⟨S, O + M, k + 1, _, _, _, by omega, by omega, by omega, by omega, by first | rfl | go_num, by first | rfl | go_num, by go_num, GI1, AQ _⟩
                case measure => simp [intOf]; omega
            · rw [hb] at cp
              clear hb
              go_wp2_with fail
              clear cp
              go_roundw
              case rel => exact ⟨S, O, k + 1, _, _, _, by omega, by omega, by omega, by omega, by first | rfl | go_num, by first | rfl | go_num, by go_num, GI, AR⟩
              case measure => simp [intOf]; omega
          · have HAS := Lib.hid (fun W : World => ref09_Has (lb := lb) (lc := lc) (fb := fb) (fc := fc) (mb := mb) (mc := mc) (ca := ca) (cc := cc) (c := c) (t := t) (s := s) (w := W) false (by simpa using hs))
            unfold dpv at HAS
            clear hs
            have q0 := AR.out.bg.box.c 0 _ rfl; have q1 := AR.out.bg.box.c 1 _ rfl; have q2 := AR.out.bg.box.c 2 _ rfl; have q3 := AR.out.bg.box.c 3 _ rfl; have q4 := AR.out.bg.box.c 4 _ rfl
            have x0 := BX.out.c 0 _ rfl; have x1 := BX.out.c 1 _ rfl
            have lq := AR.out.bg.box.lt; have lx := BX.out.lt
            go_upto_region 14 with fail
            go_wp2_with fail
            refine (HAS.out _).mono ?_
            rintro e wH ⟨rfl, xH⟩
            replace AR := Lib.hid (AR.out.go xH)
            clear q0 q1 q2 q3 q4 x0 x1 lq lx
            clear xH HAS
            go_wp2_with fail
            go_roundw
            case rel => exact ⟨S, O, k + 1, _, _, _, by omega, by omega, by omega, by omega, by first | rfl | go_num, by first | rfl | go_num, by go_num, GI, AR⟩
            case measure => simp [intOf]; omega
        · as_aux_lemma =>
          obtain ⟨⟨g', y, is⟩, hN⟩ : ∃ r, nextG g = r := ⟨_, rfl⟩
          have q0 := AR.out.bg.box.c 0 _ rfl; have q1 := AR.out.bg.box.c 1 _ rfl; have q2 := AR.out.bg.box.c 2 _ rfl; have q3 := AR.out.bg.box.c 3 _ rfl; have q4 := AR.out.bg.box.c 4 _ rfl
          have x0 := BX.out.c 0 _ rfl; have x1 := BX.out.c 1 _ rfl
          have lq := AR.out.bg.box.lt; have lx := BX.out.lt
          go_wp2_with fail
          refine (own_Next AR.out.bg.own hN).mono ?_
          clear q0 q1 q2 q3 q4 x0 x1 lq lx
          rintro e wA ⟨rfl, ho, hc⟩
          replace AR := Lib.hid (AR.out.turn ho hc)
          replace BX := Lib.hid (BX.out.chg hc (fun q => by have := AR.out.bg.gb _ q; have := AR.out.lt; have := XZ.out; omega))
          clear ho hc
          rcases GI.out.next hN with ⟨rfl, rfl, hq⟩ | ⟨rfl, sN, rfl, hsN, gi, hm⟩
          · clear hN hq
            go_wp2_with fail
            go_roundw
            case rel => exact ⟨S, O, k + 1, _, _, _, by omega, by omega, by omega, by omega, by first | rfl | go_num, by first | rfl | go_num, by go_num, GI, AR⟩
            case measure => simp [intOf]; omega
          · have GI1 := Lib.hid gi
            clear gi hm hN
            have ct := AR.out.tc (j := sN) (by rw [GI.out.tl]; exact hsN); have ft := AR.out.ft sN
            have l1 := GI.out.le1 hsN; have l0 := GI.out.nn sN hsN
            have AT := Lib.hid (AR.out.setT (j := sN) (by rw [GI.out.tl]; exact hsN) (nth told sN + 1))
            obtain ⟨tv, htv⟩ : ∃ tv, nth told sN = tv := ⟨_, rfl⟩
            rw [htv] at ct l0 l1 AT GI1
            have hwr : IntKind.i64.wrap (tv + 1) = tv + 1 := IntWalk.i64_in _ (by omega)
            have hws : IntKind.i64.wrap (sN : Int) = sN := IntWalk.i64_in _ (by omega)
            have s0 : (0 : Int) ≤ (sN : Int) := Int.natCast_nonneg _
            have s1 : (sN : Int) < (nS c t : Int) := by omega
            have tkl := AR.out.lt.2.2
            clear htv
            go_wp2_with fail
            go_roundw
            case rel => exact ⟨S, O, k + 1, _, _, _, by omega, by omega, by omega, by omega, by first | rfl | go_num, by first | rfl | go_num, by go_num, GI1, AT⟩
            case measure => simp [intOf]; omega
        · as_aux_lemma =>
          obtain ⟨⟨g', y, is, went⟩, hN⟩ : ∃ r, walkG c t g = r := ⟨_, rfl⟩
          have q0 := AR.out.bg.box.c 0 _ rfl; have q1 := AR.out.bg.box.c 1 _ rfl; have q2 := AR.out.bg.box.c 2 _ rfl; have q3 := AR.out.bg.box.c 3 _ rfl; have q4 := AR.out.bg.box.c 4 _ rfl
          have x0 := BX.out.c 0 _ rfl; have x1 := BX.out.c 1 _ rfl
          have lq := AR.out.bg.box.lt; have lx := BX.out.lt
          go_wp2_with fail
          refine (own_Walk AR.out.bg.own hN).mono ?_
          clear q0 q1 q2 q3 q4 x0 x1 lq lx
          rintro e wA ⟨rfl, ho, hc⟩
          replace AR := Lib.hid (AR.out.turn ho hc)
          replace BX := Lib.hid (BX.out.chg hc (fun q => by have := AR.out.bg.gb _ q; have := AR.out.lt; have := XZ.out; omega))
          clear ho hc
          rcases GI.out.walk hN with ⟨rfl, rfl, rfl, hq⟩ | ⟨rfl, rfl, gi, hm⟩ | ⟨rfl, rfl, sN, rfl, hsN, gi, hm⟩
          · clear hN hq
            go_wp2_with fail
            go_roundw
            case rel => exact ⟨S, O, k + 1, _, _, _, by omega, by omega, by omega, by omega, by first | rfl | go_num, by first | rfl | go_num, by go_num, GI, AR⟩
            case measure => simp [intOf]; omega
          · have GI1 := Lib.hid gi
            clear gi hm hN
            have hwS : IntKind.i64.wrap ((S : Int) + 1) = (S : Int) + 1 := IntWalk.i64_in _ (by omega)
            have hS1 : S + 1 ≤ O := by have := GI1.out.fuel; omega
            go_wp2_with fail
            go_roundw
            case rel => exact ⟨S + 1, O, k + 1, _, _, _, by omega, by omega, by omega, by omega, by first | rfl | go_num, by first | rfl | go_num, by go_num, GI1, AR⟩
            case measure => simp [intOf]; omega
          · have GI1 := Lib.hid gi
            clear gi hm hN
            have hwS : IntKind.i64.wrap ((S : Int) + 1) = (S : Int) + 1 := IntWalk.i64_in _ (by omega)
            have hS1 : S + 1 ≤ O := by have := GI1.out.fuel; omega
            have ct := AR.out.tc (j := sN) (by rw [GI.out.tl]; exact hsN); have ft := AR.out.ft sN
            have l1 := GI.out.le1 hsN; have l0 := GI.out.nn sN hsN
            have AT := Lib.hid (AR.out.setT (j := sN) (by rw [GI.out.tl]; exact hsN) (nth told sN + 1))
            obtain ⟨tv, htv⟩ : ∃ tv, nth told sN = tv := ⟨_, rfl⟩
            rw [htv] at ct l0 l1 AT GI1
            have hwr : IntKind.i64.wrap (tv + 1) = tv + 1 := IntWalk.i64_in _ (by omega)
            have hws : IntKind.i64.wrap (sN : Int) = sN := IntWalk.i64_in _ (by omega)
            have s0 : (0 : Int) ≤ (sN : Int) := Int.natCast_nonneg _
            have s1 : (sN : Int) < (nS c t : Int) := by omega
            have tkl := AR.out.lt.2.2
            clear htv
            go_wp2_with fail
            go_roundw
            case rel => exact ⟨S + 1, O, k + 1, _, _, _, by omega, by omega, by omega, by omega, by first | rfl | go_num, by first | rfl | go_num, by go_num, GI1, AT⟩
            case measure => simp [intOf]; omega
        · as_aux_lemma =>
          have q0 := AR.out.bg.box.c 0 _ rfl; have q1 := AR.out.bg.box.c 1 _ rfl; have q2 := AR.out.bg.box.c 2 _ rfl; have q3 := AR.out.bg.box.c 3 _ rfl; have q4 := AR.out.bg.box.c 4 _ rfl
          have x0 := BX.out.c 0 _ rfl; have x1 := BX.out.c 1 _ rfl
          have lq := AR.out.bg.box.lt; have lx := BX.out.lt
          go_wp2_with fail
          go_roundw
          case rel => exact ⟨S, O, k + 1, _, _, _, by omega, by omega, by omega, by omega, by first | rfl | go_num, by first | rfl | go_num, by go_num, GI, AR⟩
          case measure => simp [intOf]; omega
      all_goals as_aux_lemma =>
        have hO6 : O ≤ 6400 := by omega
        have MS := GI.out.msr_le n64.2 hO6
        clear HL
        go_upto_region 36 with fail
        go_loopw [9, 19] (fun sv iv wr => ∃ (S i : Nat) (g : GS) (told : List Int), i + msr c t g ≤ 6464 ∧ S ≤ O ∧ sv = .int .i64 S ∧ iv = .int .i64 i ∧ Hid (GInv c t n g put told S O) ∧ Hid (AG W0 b pb gp ob og db dg rg zq lb fb mb ca pk tk c t n [.slice (some ⟨lb, 0, none⟩) (nS c t) lc, .slice (some ⟨fb, 0, none⟩) (nG c t) fc, .slice (some ⟨mb, 0, none⟩) (nG c t) mc, .int .i64 (wordsOf c t), .slice ca c.cl.length cc, .int .i64 n, .slice qa (clearG c t).q.length qc, .slice oa (clearG c t).ow.length oc, .slice da (clearG c t).di.length dc, .int .i64 pg, .int .i64 a] g put told wr)) (fun _ iv _ => 100000 - (intOf iv).toNat)
        case atStart => exact ⟨S, 0, g, told, by omega, hSO, rfl, rfl, GI, AR⟩
        case round =>
          clear AR GI hSO MS
          obtain ⟨S, i, g, told, hi, hSO, rfl, rfl, GI, AR⟩ := hrel
          have hwS : IntKind.i64.wrap ((S : Int) + 1) = (S : Int) + 1 := IntWalk.i64_in _ (by omega)
          have hwi : IntKind.i64.wrap ((i : Int) + 1) = (i : Int) + 1 := IntWalk.i64_in _ (by omega)
          have HI6 := Lib.hid hi
          have ti : decide ((i : Int) < 100000) = true := decide_eq_true (by omega)
          have ti' : decide (i < 100000) = true := decide_eq_true (by omega)
          have ti2 : i < 100000 := by omega
          have ti3 : (i : Int) < 100000 := by omega
          clear hi
          cases he : emptyG g
          · as_aux_lemma =>
            have HE := Lib.hid he
            clear he
            go_wp2_with fail
            refine (own_Empty false AR.out.bg.own HE.out).mono ?_
            rintro e wE ⟨rfl, _, xE⟩
            replace AR := Lib.hid (AR.out.go xE)
            clear xE ti ti' ti2 ti3
            obtain ⟨⟨g', y, is⟩, hN⟩ : ∃ r, nextG g = r := ⟨_, rfl⟩
            go_wp2_with fail
            refine (own_Next AR.out.bg.own hN).mono ?_
            rintro e wA ⟨rfl, ho, hc⟩
            replace AR := Lib.hid (AR.out.turn ho hc)
            clear ho hc
            rcases GI.out.next hN with ⟨rfl, e1, hq⟩ | ⟨rfl, sN, rfl, hsN, gi, hm⟩
            · rw [e1] at AR
              clear e1
              have NG := GI.out.goes HE.out hq
              clear hN
              obtain ⟨⟨g2, y2, is, went⟩, hW⟩ : ∃ r, walkG c t g = r := ⟨_, rfl⟩
              go_wp2_with fail
              refine (own_Walk AR.out.bg.own hW).mono ?_
              rintro e wA ⟨rfl, ho, hc⟩
              replace AR := Lib.hid (AR.out.turn ho hc)
              clear ho hc
              rcases GI.out.walk hW with ⟨rfl, rfl, rfl, hh⟩ | ⟨rfl, rfl, gi, hm⟩ | ⟨rfl, rfl, sN, rfl, hsN, gi, hm⟩
              · exact absurd (hh hq) NG
              · have GI1 := Lib.hid gi
                have hS1 : S + 1 ≤ O := by have := GI1.out.fuel; omega
                clear gi hW NG hq
                go_wp2_with fail
                go_roundw
                case rel => exact ⟨S + 1, i + 1, _, _, by have := HI6.out; omega, by omega, by first | rfl | go_num, by go_num, GI1, AR⟩
                case measure => have := HI6.out; simp [intOf]; omega
              · have GI1 := Lib.hid gi
                have hS1 : S + 1 ≤ O := by have := GI1.out.fuel; omega
                clear gi hW NG hq
                have ct := AR.out.tc (j := sN) (by rw [GI.out.tl]; exact hsN); have ft := AR.out.ft sN
                have l1 := GI.out.le1 hsN; have l0 := GI.out.nn sN hsN
                have AT := Lib.hid (AR.out.setT (j := sN) (by rw [GI.out.tl]; exact hsN) (nth told sN + 1))
                obtain ⟨tv, htv⟩ : ∃ tv, nth told sN = tv := ⟨_, rfl⟩
                rw [htv] at ct l0 l1 AT GI1
                have hwr : IntKind.i64.wrap (tv + 1) = tv + 1 := IntWalk.i64_in _ (by omega)
                have hws : IntKind.i64.wrap (sN : Int) = sN := IntWalk.i64_in _ (by omega)
                have s0 : (0 : Int) ≤ (sN : Int) := Int.natCast_nonneg _
                have s1 : (sN : Int) < (nS c t : Int) := by omega
                have tkl := AR.out.lt.2.2
                clear htv
                go_wp2_with fail
                go_roundw
                case rel => exact ⟨S + 1, i + 1, _, _, by have := HI6.out; omega, by omega, by first | rfl | go_num, by go_num, GI1, AT⟩
                case measure => have := HI6.out; simp [intOf]; omega
            · have GI1 := Lib.hid gi
              clear gi hN
              have ct := AR.out.tc (j := sN) (by rw [GI.out.tl]; exact hsN); have ft := AR.out.ft sN
              have l1 := GI.out.le1 hsN; have l0 := GI.out.nn sN hsN
              have AT := Lib.hid (AR.out.setT (j := sN) (by rw [GI.out.tl]; exact hsN) (nth told sN + 1))
              obtain ⟨tv, htv⟩ : ∃ tv, nth told sN = tv := ⟨_, rfl⟩
              rw [htv] at ct l0 l1 AT GI1
              have hwr : IntKind.i64.wrap (tv + 1) = tv + 1 := IntWalk.i64_in _ (by omega)
              have hws : IntKind.i64.wrap (sN : Int) = sN := IntWalk.i64_in _ (by omega)
              have s0 : (0 : Int) ≤ (sN : Int) := Int.natCast_nonneg _
              have s1 : (sN : Int) < (nS c t : Int) := by omega
              have tkl := AR.out.lt.2.2
              clear htv
              go_wp2_with fail
              go_roundw
              case rel => exact ⟨S, i + 1, _, _, by have := HI6.out; omega, by omega, by first | rfl | go_num, by go_num, GI1, AT⟩
              case measure => have := HI6.out; simp [intOf]; omega
          · as_aux_lemma =>
            obtain ⟨f1, f2, f3, f4⟩ := GI.out.fin he
            have HE := Lib.hid he
            have F1 := Lib.hid f1; have F4 := Lib.hid f4; have F3 := Lib.hid f3
            clear he f1 f3 f4
            go_wp2_with fail
            refine (own_Empty true AR.out.bg.own HE.out).mono ?_
            rintro e wE ⟨rfl, _, xE⟩
            replace AR := Lib.hid (AR.out.go xE)
            clear xE ti ti' ti2 ti3 hwi
            go_upto_region 50 with fail
            go_loopw [23] (fun kv wr => ∃ j : Nat, j ≤ nS c t ∧ kv = .int .i64 j ∧ Hid (AG W0 b pb gp ob og db dg rg zq lb fb mb ca pk tk c t n [.slice (some ⟨lb, 0, none⟩) (nS c t) lc, .slice (some ⟨fb, 0, none⟩) (nG c t) fc, .slice (some ⟨mb, 0, none⟩) (nG c t) mc, .int .i64 (wordsOf c t), .slice ca c.cl.length cc, .int .i64 n, .slice qa (clearG c t).q.length qc, .slice oa (clearG c t).ow.length oc, .slice da (clearG c t).di.length dc, .int .i64 pg, .int .i64 a] g put told wr)) (fun kv _ => nS c t - (intOf kv).toNat)
            case atStart => exact ⟨0, Nat.zero_le _, rfl, AR⟩
            case round =>
              clear AR
              obtain ⟨j, hj, rfl, AR⟩ := hrel
              by_cases hlt : j < nS c t
              · have cp := AR.out.pc (j := j) (by rw [GI.out.pl]; exact hlt)
                have ct := AR.out.tc (j := j) (by rw [GI.out.tl]; exact hlt)
                rw [F1.out j hlt] at ct
                have lt := AR.out.lt
                have pl : pk < wr.heap.size := by omega
                have tl := lt.2.2
                have j0 : (0 : Int) ≤ (j : Int) := Int.natCast_nonneg _
                have j1 : (j : Int) < (nS c t : Int) := by omega
                clear lt
                cases hb : bnth put j
                all_goals
                  rw [hb] at cp ct
                  simp only [Bool.toNat_false, Bool.toNat_true, Int.natCast_zero, Int.natCast_one] at ct
                  clear hb
                  go_upto_region 52 with fail
                  have d0 := fun d os => cell_regrown cp d os; have d1 := fun d os => cell_regrown ct d os
                  refine wp_region_quiet_below (by kernel_rfl) (by kernel_rfl) ?_
                  repeat (any_goals (first | go_big_quiet_step (fail) | quiet_step (fail)))
                  refine wpQuiet_nil ?_
                  intro _ hw'
                  obtain ⟨⟨dq, osq⟩, hw''⟩ := hw'
                  obtain ⟨WQ, hWQ⟩ := grown_ex hw''
                  have xq := hWQ.2
                  obtain rfl := hWQ.1
                  clear hw'' hWQ
                  replace AR := Lib.hid (AR.out.go xq)
                  clear d0 d1 cp ct pl tl xq
                  go_wp2_with fail
                  go_roundw
                  case rel => exact ⟨j + 1, by omega, by go_num, AR⟩
                  case measure => simp [intOf]; omega
              · obtain rfl : j = nS c t := by omega
                have tso : decide ((S : Int) ≤ (O : Int)) = true := decide_eq_true (by omega)
                go_wp2_with fail
                refine (own_Empty true AR.out.bg.own HE.out).mono ?_
                rintro e wE ⟨rfl, _, xE⟩
                replace AR := Lib.hid (AR.out.go xE)
                clear xE
                go_wp2_with fail
                refine (own_Len (m := 0) AR.out.bg.own F3.out).mono ?_
                rintro e wL ⟨rfl, rfl⟩
                go_wp2_with fail
                refine (own_Owed (m := 0) AR.out.bg.own F4.out).mono ?_
                rintro e wL ⟨rfl, rfl⟩
                go_wp2_with fail
                refine (law17_awake _ AR.out.bg.own.tab).mono ?_
                rintro e w9 ⟨rfl, x9⟩
                go_wp2_with fail
                go_ret
                exact ⟨rfl, X0.out.trans (AR.out.bg.own.ext.trans x9)⟩
  · have CM := Lib.hid (law17_made_no c 0 (by
      by_cases h1 : bigA c = true
      · exact .inl h1
      · exact .inr fun h2 => hg ⟨by simpa using h1, h2⟩) (H.out.ext X0.out))
    clear hg
    go_enter Tryd.func3, Tryd.ntmps3
    go_wp2_with fail
    clear b0 b1 b2 b3 b4 b5
    refine CM.out.mono ?_
    rintro e w1 ⟨rfl, x1⟩
    have X1 := Lib.hid x1
    clear x1 CM
    go_wp2_with fail
    refine (law17_awake _ (HT.out.ext (X0.out.trans (X1.out.trans ((Ext.refl _).alloc _))))).mono ?_
    rintro e w2 ⟨rfl, x2⟩
    go_wp2_with fail
    go_ret
    exact ⟨rfl, X0.out.trans (X1.out.trans (((Ext.refl _).alloc _).trans x2))⟩

end Go.Proofs.YtlhajoamebfniaaDoor

/-! What a literal's being well formed says of numbers. -/
namespace Go.Proofs.YtlhajoamebfniaaDoor

theorem wf8 {n : Int} (h : (Lit.int .u8 n).wf = true) : 0 ≤ n ∧ n ≤ 255 := by
  simp [Lit.wf, IntKind.min, IntKind.max, IntKind.signed, IntKind.bits] at h; omega
theorem wf16 {n : Int} (h : (Lit.int .u16 n).wf = true) : 0 ≤ n ∧ n ≤ 65535 := by
  simp [Lit.wf, IntKind.min, IntKind.max, IntKind.signed, IntKind.bits] at h; omega
theorem wf32 {n : Int} (h : (Lit.int .u32 n).wf = true) : 0 ≤ n ∧ n ≤ 4294967295 := by
  simp [Lit.wf, IntKind.min, IntKind.max, IntKind.signed, IntKind.bits] at h; omega
theorem wfi {n : Int} (h : (Lit.int .i64 n).wf = true) : -9223372036854775808 ≤ n ∧ n ≤ 9223372036854775807 := by
  simp [Lit.wf, IntKind.min, IntKind.max, IntKind.signed, IntKind.bits] at h; omega
theorem wf64 {n : Int} (h : (Lit.int .u64 n).wf = true) : 0 ≤ n ∧ n < 18446744073709551616 := by
  simp [Lit.wf, IntKind.min, IntKind.max, IntKind.signed, IntKind.bits] at h; omega

end Go.Proofs.YtlhajoamebfniaaDoor

/-! Acts (commonagelaw17.Act), rows of small numbers among a law's arguments, opened. -/
namespace Go.Proofs.YtlhajoamebfniaaDoor
open Go.ChangeShapes Go.WideShapes Go.ChangeAt Go.RowKit Go.Deep

set_option maxRecDepth 100000 in
theorem open_u8s {H : Type} {enc : TypeId × Value → H} {w : World} {base b0 : Nat} {v : Value} {d : DataW H} {p : List MemPlace}
    (hv : Value.okWide Tryd.prog w .any b0 82 v) (h : DataW.Trod enc Tryd.prog w base (fun _ => true) true 82 v d p) :
    ∃ (a : Option Addr) (cap : Nat) (l : List Int), v = .slice a l.length cap ∧ At .u8 w a l ∧ l.length ≤ maxLen ∧ ∀ x ∈ l, 0 ≤ x ∧ x ≤ 255 := by
  obtain ⟨a, len, cap, rfl⟩ := okWide_slice Tryd.underlying82 hv
  obtain ⟨fuel, hf⟩ := h
  have key : ∃ zs : List Int, (a = none ∧ len = 0 ∧ cap = 0 ∧ zs = []) ∨ ∃ x, a = some x ∧ len ≤ cap ∧ cap ≤ maxLen ∧ zs.length = cap ∧ (∀ i, i < zs.length → w.cell? (x.add i) = some (.int .u8 (zs.getD i 0))) ∧ ∀ n ∈ zs, (Lit.int .u8 n).wf = true := by
    rcases open_ints Tryd.underlying82 Tryd.underlying5 (by kernel_rfl) hf with ⟨hcs, _⟩ | ⟨x, l, c, zs, hcs, _, hl, hm, hz, _, hcell, hwz⟩
    · simp [Value.cells] at hcs
      obtain ⟨rfl, rfl, rfl⟩ := hcs
      exact ⟨[], .inl ⟨rfl, rfl, rfl, rfl⟩⟩
    · simp [Value.cells] at hcs
      obtain ⟨rfl, rfl, rfl⟩ := hcs
      exact ⟨zs, .inr ⟨_, rfl, hl, hm, by simpa using hz, hcell, hwz⟩⟩
  obtain ⟨zs, hz⟩ := key
  obtain ⟨h1, h2, h3, h4⟩ := At.of_row hz
  exact ⟨a, cap, zs.take len, by rw [h2], h1, by rw [h2]; exact h3, fun x hx => wf8 (h4 x hx)⟩

theorem choose_GAct {n : Nat} {Q : Nat → GAct → Prop} (h : ∀ i, i < n → ∃ t, Q i t) : ∃ ts : List GAct, ts.length = n ∧ ∀ i, i < n → Q i (gActnth ts i) := by
  induction n with
  | zero => exact ⟨[], rfl, fun i hi => absurd hi (Nat.not_lt_zero _)⟩
  | succ n ih =>
    obtain ⟨ts, hl, hq⟩ := ih fun i hi => h i (by omega)
    obtain ⟨t, ht⟩ := h n (by omega)
    refine ⟨ts ++ [t], by simp [hl], fun i hi => ?_⟩
    rcases Nat.lt_or_ge i n with c | c
    · have : gActnth (ts ++ [t]) i = gActnth ts i := by simp [gActnth, List.getD, List.getElem?_append, hl, c]
      rw [this]; exact hq i c
    · obtain rfl : i = n := by omega
      have : gActnth (ts ++ [t]) i = t := by simp [gActnth, List.getD, ← hl]
      rw [this]; exact ht
theorem cells_GAct : Tryd.prog.cellsOf 38 = 2 := by kernel_rfl
theorem cells_GAct_i64 : Tryd.prog.cellsOf 3 = 1 := by kernel_rfl
theorem cells_GAct_u8 : Tryd.prog.cellsOf 5 = 1 := by kernel_rfl
theorem gAct_spot {w : World} {a : Addr} {v : Value} (h : w.cell? a = some v) : a.spot = none := by
  obtain ⟨b, o, s⟩ := a
  cases s with
  | none => rfl
  | some s =>
    simp [World.cell?] at h
    split at h <;> cases h
set_option maxRecDepth 100000 in
theorem open_GAct {H : Type} {enc : TypeId × Value → H} {w : World} {base b0 : Nat} {v : Value} {d : DataW H} {p : List MemPlace}
    (hv : Value.okWide Tryd.prog w .any b0 26 v) (h : DataW.Trod enc Tryd.prog w base (fun _ => true) true 26 v d p) :
    ∃ (a : Option Addr) (cap : Nat) (l : List GAct), v = .slice a l.length cap ∧ GActAt w a l ∧ l.length ≤ maxLen ∧ cap ≤ maxLen ∧ (a = none → cap = 0) := by
  obtain ⟨a0, len0, cap0, rfl⟩ := okWide_slice Tryd.underlying26 hv
  obtain ⟨fuel, hf⟩ := h
  rcases open_slice Tryd.underlying26 hf with ⟨h0, _⟩ | ⟨a, len, cap, m, n', D, Pl, hcs, _, hl, hm, hmm, _, hi⟩
  · simp [Value.cells] at h0
    obtain ⟨rfl, rfl, rfl⟩ := h0
    exact ⟨none, 0, [], rfl, fun i hi => absurd hi (Nat.not_lt_zero _), by decide, by decide, fun _ => rfl⟩
  · simp [Value.cells] at hcs hmm
    obtain ⟨rfl, rfl, rfl⟩ := hcs
    subst hmm
    have key : ∀ i, i < len0 → ∃ t : GAct, t.Ok ∧ w.cell? (a.add (i * 2)) = some (.int .u8 t.what) ∧ w.cell? ((a.add (i * 2)).add 1) = some (.int .i64 t.slot) := by
      intro i hi'
      obtain ⟨cs', hc, ht⟩ := hi i (by omega)
      rw [cells_GAct] at hc
      obtain ⟨_, hcl, hat⟩ := World.cells?_some hc
      obtain ⟨xs, n2, _, _, _, hlen, hg⟩ := DataW.trod_struct Tryd.underlying38 ht
      match cs', hcl with
      | [e0, e1], _ =>
        match xs, hlen with
        | [y0, y1], _ =>
          have g0 := hg 0 _ rfl
          have g1 := hg 1 _ rfl
          simp [cells_GAct_i64, cells_GAct_u8] at g0 g1
          obtain ⟨q0, r0, _, wf0⟩ := DataW.trod_int Tryd.underlying5 g0
          obtain ⟨q1, r1, _, wf1⟩ := DataW.trod_int Tryd.underlying3 g1
          have k0 := hat 0 (by omega)
          have k1 := hat 1 (by omega)
          simp at r0 r1 k0 k1
          refine ⟨⟨q0, q1⟩, ⟨wf8 wf0, wfi wf1⟩, ?_, ?_⟩
          · simpa [r0, Addr.add] using k0
          · rw [k1, r1]
    obtain ⟨ts, hts, hq⟩ := choose_GAct key
    refine ⟨some a, _, ts, by rw [hts], fun i hi' => ?_, by omega, by omega, fun e => by cases e⟩
    rw [hts] at hi'
    have hs : a.spot = none := by
      have := (hq 0 (by omega)).2.1
      exact gAct_spot (by simpa [Addr.add] using this)
    obtain ⟨b, o, s⟩ := a
    cases hs
    obtain ⟨ok, u0, u1⟩ := hq i hi'
    rw [Addr.add_lit] at u0 u1
    rw [Addr.add_lit] at u1
    exact ⟨ok, b, o, rfl, u0, u1⟩

end Go.Proofs.YtlhajoamebfniaaDoor

/-! A configuration among a law's arguments, opened: the value as it stands in the walks, and where its classes and tenants lie. -/
namespace Go.Proofs.YtlhajoamebfniaaDoor
open Go.ChangeShapes Go.WideShapes Go.ChangeAt Go.RowKit Go.Deep

theorem wf_u8 {n : Int} (h : (Lit.int .u8 n).wf = true) : 0 ≤ n ∧ n ≤ 255 := by
  simp [Lit.wf, IntKind.min, IntKind.max, IntKind.signed, IntKind.bits] at h; omega
theorem wf_i64 {n : Int} (h : (Lit.int .i64 n).wf = true) : -9223372036854775808 ≤ n ∧ n ≤ 9223372036854775807 := by
  simp [Lit.wf, IntKind.min, IntKind.max, IntKind.signed, IntKind.bits] at h; omega
theorem wf_u64 {n : Int} (h : (Lit.int .u64 n).wf = true) : 0 ≤ n ∧ n ≤ 18446744073709551615 := by
  simp [Lit.wf, IntKind.min, IntKind.max, IntKind.signed, IntKind.bits] at h; omega

theorem cells_cfg : Tryd.prog.cellsOf 25 = 6 := by kernel_rfl
theorem cells_ten : Tryd.prog.cellsOf 63 = 4 := by kernel_rfl
theorem cells_ints : Tryd.prog.cellsOf 22 = 1 := by kernel_rfl
theorem cells_tens : Tryd.prog.cellsOf 23 = 1 := by kernel_rfl
theorem cells_int : Tryd.prog.cellsOf 3 = 1 := by kernel_rfl

theorem choose_tens {n : Nat} {Q : Nat → Ten → Prop} (h : ∀ i, i < n → ∃ t, Q i t) : ∃ ts : List Ten, ts.length = n ∧ ∀ i, i < n → Q i (tnth ts i) := by
  induction n with
  | zero => exact ⟨[], rfl, fun i hi => absurd hi (Nat.not_lt_zero _)⟩
  | succ n ih =>
    obtain ⟨ts, hl, hq⟩ := ih fun i hi => h i (by omega)
    obtain ⟨t, ht⟩ := h n (by omega)
    refine ⟨ts ++ [t], by simp [hl], fun i hi => ?_⟩
    rcases Nat.lt_or_ge i n with c | c
    · have : tnth (ts ++ [t]) i = tnth ts i := by simp [tnth, List.getD, List.getElem?_append, hl, c]
      rw [this]; exact hq i c
    · obtain rfl : i = n := by omega
      have : tnth (ts ++ [t]) i = t := by simp [tnth, List.getD, ← hl]
      rw [this]; exact ht

theorem spot_none {w : World} {a : Addr} {v : Value} (h : w.cell? a = some v) : a.spot = none := by
  obtain ⟨b, o, s⟩ := a
  cases s with
  | none => rfl
  | some s =>
    simp [World.cell?] at h
    split at h <;> cases h

set_option maxRecDepth 100000 in
/-- Tenants among what was read. -/
theorem open_tens {H : Type} {enc : TypeId × Value → H} {w : World} {base n : Nat} {c0 : Value} {y : DataW H × List MemPlace} (h : DataW.trod enc Tryd.prog w base (fun _ => true) true n 23 [c0] = some y) :
    ∃ ta len tc ts, c0 = .slice ta len tc ∧ ts.length = len ∧ TenAt w ta ts ∧ len ≤ tc ∧ tc ≤ maxLen := by
  rcases open_slice Tryd.underlying23 h with ⟨h0, _⟩ | ⟨a, len, cap, m, n', D, Pl, hcs, _, hl, hm, hmm, _, hi⟩
  · simp at h0
    exact ⟨none, 0, 0, [], h0, rfl, fun i hi => absurd hi (Nat.not_lt_zero _), Nat.le_refl _, by decide⟩
  · simp at hcs hmm
    subst hmm
    have key : ∀ i, i < len → ∃ t : Ten, w.cell? (a.add (i * 4)) = some (.int .i64 t.q) ∧ w.cell? ((a.add (i * 4)).add 1) = some (.int .i64 t.tr) ∧ w.cell? ((a.add (i * 4)).add 2) = some (.int .i64 t.cp) ∧ w.cell? ((a.add (i * 4)).add 3) = some (.int .i64 t.sst) := by
      intro i hi'
      obtain ⟨cs', hc, ht⟩ := hi i (by omega)
      rw [cells_ten] at hc
      obtain ⟨_, hcl, hat⟩ := World.cells?_some hc
      obtain ⟨xs, n2, _, _, _, hlen, hg⟩ := DataW.trod_struct Tryd.underlying63 ht
      match cs', hcl with
      | [e0, e1, e2, e3], _ =>
        match xs, hlen with
        | [y0, y1, y2, y3], _ =>
          have g0 := hg 0 _ rfl
          have g1 := hg 1 _ rfl
          have g2 := hg 2 _ rfl
          have g3 := hg 3 _ rfl
          simp [cells_int] at g0 g1 g2 g3
          obtain ⟨q0, r0, _, _⟩ := DataW.trod_int Tryd.underlying3 g0
          obtain ⟨q1, r1, _, _⟩ := DataW.trod_int Tryd.underlying3 g1
          obtain ⟨q2, r2, _, _⟩ := DataW.trod_int Tryd.underlying3 g2
          obtain ⟨q3, r3, _, _⟩ := DataW.trod_int Tryd.underlying3 g3
          have k0 := hat 0 (by omega)
          have k1 := hat 1 (by omega)
          have k2 := hat 2 (by omega)
          have k3 := hat 3 (by omega)
          simp at r0 r1 r2 r3 k0 k1 k2 k3
          refine ⟨⟨q0, q1, q2, q3⟩, ?_, ?_, ?_, ?_⟩
          · simpa [r0, Addr.add] using k0
          · rw [k1, r1]
          · rw [k2, r2]
          · rw [k3, r3]
    obtain ⟨ts, hts, hq⟩ := choose_tens key
    refine ⟨some a, len, _, ts, hcs, hts, ?_, hl, hm⟩
    intro i hi'
    have hs : a.spot = none := by
      have := (hq 0 (by omega)).1
      exact spot_none (by simpa [Addr.add] using this)
    obtain ⟨b, o, s⟩ := a
    cases hs
    obtain ⟨u0, u1, u2, u3⟩ := hq i (by omega)
    rw [Addr.add_lit] at u0 u1 u2 u3
    rw [Addr.add_lit] at u1 u2 u3
    exact ⟨b, o, rfl, u0, u1, u2, u3⟩

set_option maxRecDepth 100000 in
theorem open_cfg {H : Type} {enc : TypeId × Value → H} {w : World} {base b0 : Nat} {v : Value} {d : DataW H} {p : List MemPlace}
    (hv : Value.okWide Tryd.prog w .any b0 25 v) (h : DataW.Trod enc Tryd.prog w base (fun _ => true) true 25 v d p) :
    ∃ ca ta cc tc c, v = .agg #[.slice ca c.cl.length cc, .int .i64 c.page, .slice ta c.ts.length tc, .int .i64 c.wk, .int .i64 c.gr, .int .i64 c.gens] ∧ CfgAt w ca ta cc tc c := by
  obtain ⟨cs, rfl, hsz⟩ := okWide_struct Tryd.underlying25 hv
  obtain ⟨l⟩ := cs
  have hl6 : l.length = 6 := by rw [cells_cfg] at hsz; simpa using hsz
  obtain ⟨fuel, hf⟩ := h
  obtain ⟨xs, n, _, _, _, hlen, hg⟩ := DataW.trod_struct Tryd.underlying25 hf
  match l, hl6 with
  | [c0, c1, c2, c3, c4, c5], _ =>
    match xs, hlen with
    | [y0, y1, y2, y3, y4, y5], _ =>
      have g0 := hg 0 _ rfl
      have g1 := hg 1 _ rfl
      have g2 := hg 2 _ rfl
      have g3 := hg 3 _ rfl
      have g4 := hg 4 _ rfl
      have g5 := hg 5 _ rfl
      simp [Value.cells, cells_ints, cells_tens, cells_int] at g0 g1 g2 g3 g4 g5
      obtain ⟨q1, r1, _, _⟩ := DataW.trod_int Tryd.underlying3 g1
      obtain ⟨q3, r3, _, _⟩ := DataW.trod_int Tryd.underlying3 g3
      obtain ⟨q4, r4, _, _⟩ := DataW.trod_int Tryd.underlying3 g4
      obtain ⟨q5, r5, _, _⟩ := DataW.trod_int Tryd.underlying3 g5
      simp at r1 r3 r4 r5
      subst r1 r3 r4 r5
      obtain ⟨ta, tl, tc, ts, rfl, hts, hta, ht1, ht2⟩ := open_tens g2
      rcases open_ints Tryd.underlying22 Tryd.underlying3 cells_int g0 with ⟨h0, _⟩ | ⟨x, cl, cc, zs, hcs, _, hl, hm, hz, _, hcell, hwz⟩
      · simp at h0
        subst h0 hts
        exact ⟨none, ta, 0, tc, ⟨[], q1, ts, q3, q4, q5⟩, rfl, At.nil, hta, Nat.zero_le _, by show ts.length ≤ _; omega, Nat.le_refl _, ht1, Nat.zero_le _, ht2⟩
      · simp at hcs
        subst hcs hts
        obtain ⟨k1, k2, k3, _⟩ := At.of_row (k := .i64) (w := w) (a := some x) (len := cl) (cap := cc) (zs := zs) (.inr ⟨x, rfl, hl, hm, by simpa using hz, hcell, hwz⟩)
        refine ⟨some x, ta, cc, tc, ⟨zs.take cl, q1, ts, q3, q4, q5⟩, by simp only [k2], k1, hta, by show (zs.take cl).length ≤ _; omega, by show ts.length ≤ _; omega, by show (zs.take cl).length ≤ _; omega, ht1, hm, ht2⟩

end Go.Proofs.YtlhajoamebfniaaDoor

/-! What the condition 'this package variable reads as these numbers' gives: the variable's cells. -/
namespace Go.Proofs.YtlhajoamebfniaaDoor
open Go.ChangeShapes Go.WideShapes Go.ChangeAt Go.RowKit

/-- The datum of a row of numbers. -/
def nums {H : Type} (k : IntKind) (zs : List Int) : DataW H := .agg (zs.map fun z => .lit (.int k z))

theorem var_ints {P : Program} {name : String} {k : IntKind} {zs : List Int} {W : World} {t e : TypeId} {n g : Nat} (h : laidMetH P [(name, nums k zs)] W)
    (hg : P.globalNamed name = some g) (ht : (P.globals[g]?).map (·.type) = some t) (hu : P.underlying t = some (.array n e)) (he : P.underlying e = some (.int k)) (hc : P.cellsOf e = 1) (hn : zs.length = n) :
    ∀ i, i < n → W.cell? ⟨g, i, none⟩ = some (.int k (nth zs i)) := by
  rw [MakeChecks.laidMetH_plain _ _ _ (by rfl)] at h
  obtain ⟨ps, ⟨g0, t0, cs0, f0, p0, q0, hg0, ht0, hv0, hd0, _, _⟩, _, _⟩ := h
  obtain rfl := Option.some.inj (hg.symm.trans hg0)
  obtain rfl := Option.some.inj (ht.symm.trans ht0)
  obtain ⟨xs, m, rfl, hx, hlen, hn3, hel⟩ := DataW.trod_array hu hd0
  simp only [Prod.mk.injEq, nums, DataW.agg.injEq] at hx
  intro i hi
  have hi' := hel i hi
  rw [hc, Nat.mul_one] at hi'
  have hxi : i < xs.length := by omega
  rw [List.getElem?_eq_getElem hxi] at hi'
  obtain ⟨z, e1, e2, _⟩ := DataW.trod_int he hi'
  have hz : z = nth zs i := by
    have h1 := congrArg (fun l => l[i]?) hx.1
    simp only [List.getElem?_map, List.getElem?_eq_getElem hxi, List.getElem?_eq_getElem (show i < zs.length by omega), Option.map_some, Option.some.injEq] at h1
    rw [e2] at h1
    have : zs[i] = z := by simpa using h1
    rw [← this]; simp [nth, List.getD, show i < zs.length by omega]
  rw [World.var?_cell hg0 hv0 i, ← hz]
  obtain ⟨l⟩ := cs0
  have e3 : (l.drop i).take 1 = [.int k z] := e1
  have e4 : (l.drop i).head? = some (.int k z) := by
    cases hd : l.drop i with
    | nil => rw [hd] at e3; cases e3
    | cons a r => rw [hd] at e3; simp at e3; simp [e3]
  rw [List.head?_drop] at e4
  simpa using e4

end Go.Proofs.YtlhajoamebfniaaDoor

/-! Rows of small numbers among a law's arguments, opened; the package variable math/bits.deBruijn64tab. -/
namespace Go.Proofs.YtlhajoamebfniaaDoor
open Go.ChangeShapes Go.WideShapes Go.ChangeAt Go.RowKit Go.Deep

theorem tab_of_laid {W : World} (h : laidMetH Tryd.prog [("math/bits.deBruijn64tab", Rows.laid_math_bits_deBruijn64tab)] W) : Tab W := by
  have k := var_ints (k := .u8) (zs := Lib.deBruijn64tab.map Int.ofNat) (t := 159) (e := 5) (n := 64) (g := 0) h (by kernel_rfl) (by kernel_rfl) Tryd.underlying159 Tryd.underlying5 (by kernel_rfl) rfl
  intro j hj
  rw [k j hj]
  have hl : Lib.deBruijn64tab.length = 64 := rfl
  have e : nth (Lib.deBruijn64tab.map Int.ofNat) j = ((Lib.deBruijn64tab.getD j 0 : Nat) : Int) := by
    simp [nth, List.getD, hl, hj]
  rw [e]

end Go.Proofs.YtlhajoamebfniaaDoor
