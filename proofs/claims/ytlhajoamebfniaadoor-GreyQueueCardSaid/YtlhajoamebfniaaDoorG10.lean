/-
  Merged texts: Law09e, Grey6, Grey7, Arena4, BoolRow, Ref04, Ref04b, Ref10.
-/
import Derived.Test.YtlhajoamebfniaaDoorG06
import Derived.Test.YtlhajoamebfniaaDoorG09
import Derived.Test.YtlhajoamebfniaaDoorG08
import Derived.Deep.Cut
import Derived.Test.YtlhajoamebfniaaDoorG07
set_option linter.unusedVariables false
set_option linter.unusedSimpArgs false
/-! commonagelaw09: one, page. -/
namespace Go.Proofs.YtlhajoamebfniaaDoor
open Go.RowKit

theorem nS_at {c : Conf} {t : Nat} (ho : KOk c) (ht : t < c.ts.length) {s : Int} (h : 0 ≤ s ∧ s < (nS c t : Int)) : ∃ n : Nat, s = n ∧ n < nS c t ∧ AtClass c t (n : Int) (kOf c t (n : Int)) := by
  refine ⟨s.toNat, by omega, by omega, slot_at ho ht (by omega)⟩
theorem nG_at {c : Conf} {t : Nat} (ho : KOk c) (ht : t < c.ts.length) {p : Int} (h : 0 ≤ p ∧ p < (nG c t : Int)) : ∃ n : Nat, p = n ∧ n < nG c t ∧ AtPage c t (n : Int) (kpOf c t (n : Int)) := by
  have hn := ho.nG_eq ht
  obtain ⟨j, hj⟩ := atPage_find (c := c) (t := t) (s := p) h.1 (by omega)
  refine ⟨p.toNat, by omega, by omega, ?_⟩
  rw [Int.toNat_of_nonneg h.1, hj.kpOf ho ht]; exact hj
theorem slot_InW {b gp k : Nat} {c : Conf} {t : Nat} {p : Int} (x m : Int) {w : World} (hx : firstP c t p k = x) (hm : manyP c t p k = m) (h : PlanAt w b gp c t) (hk : AtPage c t p k) :
    Calls Tryd.prog 56 #[.pointer (some ⟨b, 0, none⟩), .int .i64 p] w fun e w' => e = .returned (.tuple #[.int .i64 x, .int .i64 m, .int .i64 0]) ∧ Ext w w' := by
  subst hx hm; exact slot_In h hk

end Go.Proofs.YtlhajoamebfniaaDoor

/-! grey: Walk. (Printed by gen17w.py.) -/
namespace Go.Proofs.YtlhajoamebfniaaDoor
open Go.RowKit
variable {w w' : World} {b pb gp ob og db dg rg : Nat} {c : Conf} {t n f : Nat} {g g' : GS}

set_option maxHeartbeats 16000000 in
theorem grey_Walk {x : Int} {is went : Bool} (h : GreyF w b pb gp ob og db dg rg c t n f g) (hT : Tab w) (hr : walkG c t g = (g', x, is, went)) :
    Calls Tryd.prog 17 #[.pointer (some ⟨b, 0, none⟩)] w fun r w' => r = .returned (.tuple #[.int .i64 x, .bool is, .bool went]) ∧ GreyAt w' b pb gp ob og db dg rg c t n g' ∧ Chg (grB b og dg rg) w w' := by
  have H := Lib.hid h
  have HT := Lib.hid hT
  have v0 := h.box.c 0 _ rfl; have v1 := h.box.c 1 _ rfl; have v2 := h.box.c 2 _ rfl; have v5 := h.box.c 5 _ rfl; have v6 := h.box.c 6 _ rfl; have v7 := h.box.c 7 _ rfl
  unfold walkG at hr
  by_cases hw : g.at_ = g.en
  · rw [if_pos hw] at hr
    rw [← hw] at v7
    obtain ⟨a0, ha0⟩ : ∃ a0, g.at_ = a0 := ⟨_, rfl⟩
    rw [ha0] at v6 v7
    have t1 : ((a0 : Int) == (a0 : Int)) = true := by simp
    have NX := Lib.hid (fstD_next g.di)
    by_cases hq : g.q.length = 0
    · rw [if_pos hq] at hr
      rw [hq] at v5
      have t2 : decide ((0 : Int) < ((0 : Nat) : Int)) = false := rfl
      cases hfd : fstD g.di with
      | none =>
        rw [hfd] at hr NX
        cases hr
        clear h hT hq hfd hw ha0
        go_enter Tryd.func17, Tryd.ntmps17
        go_wp2_with fail
        refine (grey_none H.out).mono ?_
        rintro e w1000 ⟨rfl, rfl⟩
        go_wp2_with fail
        have c6 := fun d os => cell_regrown v6 d os; have c7 := fun d os => cell_regrown v7 d os
        refine wp_region_quiet_below (by kernel_rfl) (by kernel_rfl) ?_
        repeat (any_goals (first | go_big_quiet_step (fail) | quiet_step (fail)))
        refine wpQuiet_nil ?_
        intro _ hw'
        obtain ⟨⟨dq, osq⟩, hw''⟩ := hw'
        obtain ⟨WQ, hWQ⟩ := grown_ex hw''
        have xq := hWQ.2
        obtain rfl := hWQ.1
        clear hw'' hWQ
        replace v1 := xq.cell v1; replace v2 := xq.cell v2; replace v5 := xq.cell v5
        clear c6 c7 v6 v7
        go_wp2_with fail
        refine (row_Next g.di _ _ (H.out.di.ext xq) (HT.out.ext xq) NX.out).mono ?_
        rintro e w2 ⟨rfl, x2⟩
        replace v1 := x2.cell v1; replace v2 := x2.cell v2; replace v5 := x2.cell v5
        go_wp2_with fail
        go_ret3
        exact ⟨rfl, ⟨f, H.out.ext (xq.trans x2)⟩, Chg.of_ext (xq.trans x2)⟩
      | some p =>
        rw [hfd] at hr NX
        have HR := Lib.hid hr
        have pl : p < g.di.length := (fstD_some hfd).1
        have pg : p < nG c t := by rw [← h.ok.dl]; exact pl
        have PF := pgFacts h.plan.ok h.plan.ti pg
        have IN := Lib.hid (fun W (h : PlanAt W pb gp c t) => slot_InW _ _ PF.fs PF.mn h PF.at_)
        have BS := Lib.hid (bsetR_yes (is := false) pl)
        have TK := Lib.hid (turnG_ok h.plan.ok h.plan.ti h.ok pg)
        have ns := h.plan.ok.nS_le h.plan.ti
        have hle := PF.le
        obtain ⟨F, hF⟩ : ∃ F, fsN c t p = F := ⟨_, rfl⟩
        obtain ⟨M, hM⟩ : ∃ M, mnN c t p = M := ⟨_, rfl⟩
        have FM := Lib.hid (And.intro hF hM)
        rw [hF, hM] at IN hle
        clear h hT hr hq hfd hw ha0 PF hF hM
        go_enter Tryd.func17, Tryd.ntmps17
        go_wp2_with fail
        refine (grey_none H.out).mono ?_
        rintro e w1000 ⟨rfl, rfl⟩
        go_wp2_with fail
        have c6 := fun d os => cell_regrown v6 d os; have c7 := fun d os => cell_regrown v7 d os
        refine wp_region_quiet_below (by kernel_rfl) (by kernel_rfl) ?_
        repeat (any_goals (first | go_big_quiet_step (fail) | quiet_step (fail)))
        refine wpQuiet_nil ?_
        intro _ hw'
        obtain ⟨⟨dq, osq⟩, hw''⟩ := hw'
        obtain ⟨WQ, hWQ⟩ := grown_ex hw''
        have xq := hWQ.2
        obtain rfl := hWQ.1
        clear hw'' hWQ
        replace v1 := xq.cell v1; replace v2 := xq.cell v2; replace v5 := xq.cell v5
        clear c6 c7 v6 v7
        go_wp2_with fail
        refine (row_Next g.di _ _ (H.out.di.ext xq) (HT.out.ext xq) NX.out).mono ?_
        rintro e w2 ⟨rfl, x2⟩
        replace v1 := x2.cell v1; replace v2 := x2.cell v2; replace v5 := x2.cell v5
        go_wp2_with fail
        refine (row_Set g.di _ 0 (H.out.di.ext (xq.trans x2)) BS.out).mono ?_
        rintro e w3 ⟨rfl, r3, k3⟩
        replace v2 := k3.cell (fun q => H.out.nb.2.2.2.2.2.1 q.2) v2
        have hd : Debts w3 ob og db dg g.ow (g.di.set p false) := ⟨(H.out.ow.ext (xq.trans x2)).near k3 (fun _ => H.out.nd.2.2.1) (fun _ _ => H.out.no.2.2.2.2.1.symm), r3, H.out.debts.n⟩
        have kd : Chg (deB og dg) w2 w3 := k3.mono fun k q => .inr q.2
        have G2 := Lib.hid ((H.out.ext (xq.trans x2)).paid hd kd ⟨H.out.ok.ql, H.out.ok.qs, H.out.ok.ol, TK.out.1.dl, H.out.ok.wk, H.out.ok.le⟩)
        have K2 := Lib.hid ((Chg.of_ext (P := grB b og dg rg) (xq.trans x2)).trans (kd.mono fun k q => deB_grB q))
        clear hd kd r3 k3
        go_wp2_with fail
        refine (IN.out _ G2.out.plan).mono ?_
        rintro e w4 ⟨rfl, x4⟩
        have G3 := Lib.hid (G2.out.ext x4)
        have d6 := G3.out.box.c 6 _ rfl; have d7 := G3.out.box.c 7 _ rfl
        have f6 := G3.out.box.f 6; have f7 := G3.out.box.f 7
        go_upto_region 10 with fail
        have B := (G3.out.box.set (i := 6) (by simp [gcs]) (.int .i64 (F : Int))).set (i := 7) (by simp [gcs]) (.int .i64 ((F : Int) + (M : Int)))
        have xb := (chg_cell (w := w4) (b := b) (i := 6) (.int .i64 (F : Int))).trans (chg_cell (i := 7) (.int .i64 ((F : Int) + (M : Int))))
        have G4 : GreyF ((w4.setCell ⟨b, 6, none⟩ (.int .i64 (F : Int))).setCell ⟨b, 7, none⟩ (.int .i64 ((F : Int) + (M : Int)))) b pb gp ob og db dg rg c t n f (turnG c t g p) := by
          have hk := TK.out.1
          unfold turnG at hk ⊢
          rw [FM.out.1, FM.out.2] at hk ⊢
          exact G3.out.stored (xb.mono fun k q => .inl q) hk B (G3.out.ring.chg xb fun e => G3.out.nb.2.2.2.2.2.2 e.symm)
        have NE := Lib.hid TK.out.2
        have X1 := Lib.hid ((K2.out.trans (Chg.of_ext x4)).trans (xb.mono fun k q => .inl q))
        obtain ⟨W1, hW1⟩ : ∃ W1, (w4.setCell ⟨b, 6, none⟩ (.int .i64 (F : Int))).setCell ⟨b, 7, none⟩ (.int .i64 ((F : Int) + (M : Int))) = W1 := ⟨_, rfl⟩
        obtain ⟨g1, hg1⟩ : ∃ g1, turnG c t g p = g1 := ⟨_, rfl⟩
        rw [hW1] at G4 X1 ⊢
        rw [hg1] at G4 NE HR
        have G1 := Lib.hid G4
        clear B xb G4 hW1 hg1 d6 d7 f6 f7 v1 v2 v5 TK FM IN hle ns G2 K2 G3 x4 xq x2 BS NX pg pl
        have hok1 := stepG_ok G1.out.ok NE.out
        have d6 := G1.out.box.c 6 _ rfl; have d0 := G1.out.box.c 0 _ rfl; have d1 := G1.out.box.c 1 _ rfl
        have f6 := G1.out.box.f 6
        have la : g1.at_ < g1.ow.length := by
          rw [G1.out.ok.ol]
          rcases G1.out.ok.wk with q | ⟨p, q1, q2, q3, q4⟩
          · exact absurd q NE.out
          · have := G1.out.ok.le; omega
        have la2 : g1.at_ ≤ 65536 := by have := G1.out.ow.most; omega
        obtain ⟨A, hA⟩ : ∃ A, g1.at_ = A := ⟨_, rfl⟩
        obtain ⟨r, hrr⟩ : ∃ r, bnth g1.ow g1.at_ = r := ⟨_, rfl⟩
        have PY := Lib.hid (fun W (h : Debts W ob og db dg g1.ow g1.di) => debts_pay r h la hrr)
        have EA := Lib.hid hA; have ER := Lib.hid hrr; have HK1 := Lib.hid hok1
        rw [hA] at d6 PY la2
        clear hok1 la hA hrr
        cases r <;>
        · go_wp2_with fail
          have HK2 : GOk c t n { g1 with at_ := g1.at_ + 1 } := ⟨HK1.out.ql, HK1.out.qs, G1.out.ok.ol, HK1.out.dl, HK1.out.wk, HK1.out.le⟩
          have B := G1.out.box.set (i := 6) (by simp [gcs]) (.int .i64 ((A : Int) + 1))
          have e6 : (gcs ob db pb rg n f g1).set 6 (.int .i64 ((A : Int) + 1)) = gcs ob db pb rg n f { g1 with at_ := g1.at_ + 1 } := by rw [EA.out]; rfl
          rw [e6] at B
          have xb := chg_cell (w := W1) (b := b) (i := 6) (.int .i64 ((A : Int) + 1))
          have G2 := Lib.hid (G1.out.stored (xb.mono fun k q => .inl q) HK2 B (G1.out.ring.chg xb fun e => G1.out.nb.2.2.2.2.2.2 e.symm))
          have XB := Lib.hid xb
          refine (PY.out _ G2.out.debts).mono ?_
          rintro e w2 ⟨rfl, d2, k2⟩
          go_wp2_with fail
          go_ret3
          have G3 := G2.out.paid d2 k2 (by have q := HK1.out; simp only [stepG, EA.out] at q ⊢; exact q)
          simp only [EA.out] at G3
          unfold stepG at HR
          rw [ER.out, EA.out] at HR
          cases HR.out
          exact ⟨rfl, ⟨f, G3⟩, X1.out.trans ((XB.out.mono fun k q => .inl q).trans (k2.mono fun k q => deB_grB q))⟩
    · rw [if_neg hq] at hr
      cases hr
      obtain ⟨m, hm⟩ : ∃ m, g.q.length = m := ⟨_, rfl⟩
      rw [hm] at v5
      have t2 : decide ((0 : Int) < (m : Int)) = true := decide_eq_true (by omega)
      obtain ⟨p', q', NX⟩ : ∃ p' q', Hid (IsNext g.di 0 true p' q') := ⟨_, _, NX⟩
      have t3 : decide (0 < m) = true := decide_eq_true (by omega)
      have t4 : ¬ m = 0 := by omega
      clear h hT hq hw ha0 hm
      go_enter Tryd.func17, Tryd.ntmps17
      go_wp2_with fail
      refine (grey_none H.out).mono ?_
      rintro e w1000 ⟨rfl, rfl⟩
      go_wp2_with fail
      have c6 := fun d os => cell_regrown v6 d os; have c7 := fun d os => cell_regrown v7 d os
      refine wp_region_quiet_below (by kernel_rfl) (by kernel_rfl) ?_
      repeat (any_goals (first | go_big_quiet_step (fail) | quiet_step (fail)))
      refine wpQuiet_nil ?_
      intro _ hw'
      obtain ⟨⟨dq, osq⟩, hw''⟩ := hw'
      obtain ⟨WQ, hWQ⟩ := grown_ex hw''
      have xq := hWQ.2
      obtain rfl := hWQ.1
      clear hw'' hWQ
      replace v1 := xq.cell v1; replace v2 := xq.cell v2; replace v5 := xq.cell v5
      clear c6 c7 v6 v7
      go_wp2_with fail
      refine (row_Next g.di _ _ (H.out.di.ext xq) (HT.out.ext xq) NX.out).mono ?_
      rintro e w2 ⟨rfl, x2⟩
      replace v1 := x2.cell v1; replace v2 := x2.cell v2; replace v5 := x2.cell v5
      go_wp2_with fail
      go_ret3
      exact ⟨rfl, ⟨f, H.out.ext (xq.trans x2)⟩, Chg.of_ext (xq.trans x2)⟩
  · rw [if_neg hw] at hr
    obtain ⟨a0, ha0⟩ : ∃ a0, g.at_ = a0 := ⟨_, rfl⟩
    obtain ⟨e0, he0⟩ : ∃ e0, g.en = e0 := ⟨_, rfl⟩
    have HW := Lib.hid hw
    rw [ha0] at v6 hw
    rw [he0] at v7 hw
    have t1 : ((a0 : Int) == (e0 : Int)) = false := by simp; omega
    have t2 : decide ((a0 : Int) = (e0 : Int)) = false := decide_eq_false (by omega)
    have HR := Lib.hid hr
    clear h hT hr ha0 he0
    go_enter Tryd.func17, Tryd.ntmps17
    go_wp2_with fail
    refine (grey_none H.out).mono ?_
    rintro e w1000 ⟨rfl, rfl⟩
    go_wp2_with fail
    have c6 := fun d os => cell_regrown v6 d os; have c7 := fun d os => cell_regrown v7 d os
    refine wp_region_quiet_below (by kernel_rfl) (by kernel_rfl) ?_
    repeat (any_goals (first | go_big_quiet_step (fail) | quiet_step (fail)))
    refine wpQuiet_nil ?_
    intro _ hw'
    obtain ⟨⟨dq, osq⟩, hw''⟩ := hw'
    obtain ⟨WQ, hWQ⟩ := grown_ex hw''
    have xq := hWQ.2
    obtain rfl := hWQ.1
    clear hw'' hWQ
    obtain ⟨W1, hW1⟩ : ∃ W1, WQ = W1 := ⟨_, rfl⟩
    obtain ⟨g1, hg1⟩ : ∃ g1, g = g1 := ⟨_, rfl⟩
    rw [hg1] at HR HW
    rw [hW1] at xq ⊢
    have G1 := Lib.hid (hg1 ▸ H.out.ext xq)
    have NE := HW
    have X1 := Lib.hid (Chg.of_ext (P := grB b og dg rg) xq)
    clear hg1 hW1 HW H xq c6 c7 v0 v1 v2 v5 v6 v7 HT hw t1 t2
    · skip
      have hok1 := stepG_ok G1.out.ok NE.out
      have d6 := G1.out.box.c 6 _ rfl; have d0 := G1.out.box.c 0 _ rfl; have d1 := G1.out.box.c 1 _ rfl
      have f6 := G1.out.box.f 6
      have la : g1.at_ < g1.ow.length := by
        rw [G1.out.ok.ol]
        rcases G1.out.ok.wk with q | ⟨p, q1, q2, q3, q4⟩
        · exact absurd q NE.out
        · have := G1.out.ok.le; omega
      have la2 : g1.at_ ≤ 65536 := by have := G1.out.ow.most; omega
      obtain ⟨A, hA⟩ : ∃ A, g1.at_ = A := ⟨_, rfl⟩
      obtain ⟨r, hrr⟩ : ∃ r, bnth g1.ow g1.at_ = r := ⟨_, rfl⟩
      have PY := Lib.hid (fun W (h : Debts W ob og db dg g1.ow g1.di) => debts_pay r h la hrr)
      have EA := Lib.hid hA; have ER := Lib.hid hrr; have HK1 := Lib.hid hok1
      rw [hA] at d6 PY la2
      clear hok1 la hA hrr
      cases r <;>
      · go_wp2_with fail
        have HK2 : GOk c t n { g1 with at_ := g1.at_ + 1 } := ⟨HK1.out.ql, HK1.out.qs, G1.out.ok.ol, HK1.out.dl, HK1.out.wk, HK1.out.le⟩
        have B := G1.out.box.set (i := 6) (by simp [gcs]) (.int .i64 ((A : Int) + 1))
        have e6 : (gcs ob db pb rg n f g1).set 6 (.int .i64 ((A : Int) + 1)) = gcs ob db pb rg n f { g1 with at_ := g1.at_ + 1 } := by rw [EA.out]; rfl
        rw [e6] at B
        have xb := chg_cell (w := W1) (b := b) (i := 6) (.int .i64 ((A : Int) + 1))
        have G2 := Lib.hid (G1.out.stored (xb.mono fun k q => .inl q) HK2 B (G1.out.ring.chg xb fun e => G1.out.nb.2.2.2.2.2.2 e.symm))
        have XB := Lib.hid xb
        refine (PY.out _ G2.out.debts).mono ?_
        rintro e w2 ⟨rfl, d2, k2⟩
        go_wp2_with fail
        go_ret3
        have G3 := G2.out.paid d2 k2 (by have q := HK1.out; simp only [stepG, EA.out] at q ⊢; exact q)
        simp only [EA.out] at G3
        unfold stepG at HR
        rw [ER.out, EA.out] at HR
        cases HR.out
        exact ⟨rfl, ⟨f, G3⟩, X1.out.trans ((XB.out.mono fun k q => .inl q).trans (k2.mono fun k q => deB_grB q))⟩

end Go.Proofs.YtlhajoamebfniaaDoor

/-! grey: New. -/
namespace Go.Proofs.YtlhajoamebfniaaDoor
open Go.RowKit
variable {w w' : World} {b pb gp ob og db dg rg : Nat} {c : Conf} {t n f : Nat} {g g' : GS}

theorem ginfo_i64 : (Tryd.prog.info? 3).map (fun i => (i.zero, i.size, i.bytes)) = some (some (.int .i64 0), 1, 8) := by kernel_rfl
theorem gmake_ints (n : Nat) (h : n ≤ 65536) : ∀ W : World, (Instr.makeSlice 22 (.int .i64 (n : Int)) (.int .i64 (n : Int))).run Tryd.prog W = .ok (.slice (some ⟨W.heap.size, 0, none⟩) n n) (W.alloc (.cells (madeCells #[.int .i64 0] n) 3)) := by
  intro W
  exact run_make_row' 22 3 (.int .i64 0) 8 Tryd.underlying22 ginfo_i64 rfl .i64 .i64 n (by omega) (by omega) W
/-- What New hands back: a grey of its own. -/
def GreyNew (pb gp : Nat) (c : Conf) (t n : Nat) (w : World) (r : Value) (w' : World) : Prop :=
  ∃ b ob og db dg rg, r = .pointer (some ⟨b, 0, none⟩) ∧ GreyAt w' b pb gp ob og db dg rg c t n (clearG c t) ∧ w.heap.size ≤ b ∧ w.heap.size ≤ ob ∧ w.heap.size ≤ og ∧ w.heap.size ≤ db ∧ w.heap.size ≤ dg ∧ w.heap.size ≤ rg ∧ Ext w w'

set_option maxHeartbeats 2000000 in
theorem grey_New (h : PlanAt w pb gp c t) (hn : 1 ≤ n ∧ n ≤ 64) :
    Calls Tryd.prog 49 #[.pointer (some ⟨pb, 0, none⟩), .int .i64 n] w fun e w' => ∃ r, e = .returned (.tuple #[r, .int .i64 0]) ∧ GreyNew pb gp c t n w r w' := by
  have ho := h.ok; have ht := h.ti
  have sn := ho.nS_eq ht; have gn := ho.nG_eq ht
  have sle := ho.nS_le ht; have spo := ho.nS_pos ht; have gpo := ho.nG_pos ht
  have gle := ho.sG_le ht (Nat.le_refl _)
  have m8 := ho.cl.most
  have SL := Lib.hid (fun W (h : PlanAt W pb gp c t) => slot_SlotsV (nS c t : Int) sn.symm h)
  have PL := Lib.hid (fun W (h : PlanAt W pb gp c t) => slot_PagesV (nG c t : Int) gn.symm h)
  have H := Lib.hid h
  have B1 := Lib.hid (fun W : World => bits_New (w := W) (nS c t) (by omega))
  have B2 := Lib.hid (fun W : World => bits_New (w := W) (nG c t) (by omega))
  have hmk := gmake_ints n (by omega)
  clear h sn gn gle
  obtain ⟨N, hN⟩ : ∃ n, nS c t = n := ⟨_, rfl⟩
  obtain ⟨G, hG⟩ : ∃ n, nG c t = n := ⟨_, rfl⟩
  rw [hN] at SL B1 sle spo
  rw [hG] at PL B2 gpo
  have EN := Lib.hid hN; have EG := Lib.hid hG
  clear hN hG
  go_enter Tryd.func49, Tryd.ntmps49
  go_wp2_with fail
  refine (SL.out _ H.out).mono ?_
  rintro e w1000 ⟨rfl, rfl⟩
  go_wp2_with fail
  refine (SL.out _ H.out).mono ?_
  rintro e w1000 ⟨rfl, rfl⟩
  go_wp2_with fail
  refine (B1.out _).mono ?_
  rintro e w1 ⟨b1, g1, rfl, h1, l1, l2, x1⟩
  go_wp2_with fail
  refine (PL.out _ (H.out.ext x1)).mono ?_
  rintro e w1000 ⟨rfl, rfl⟩
  go_wp2_with fail
  refine (B2.out _).mono ?_
  rintro e w2 ⟨b2, g2, rfl, h2, k1, k2, x2⟩
  go_wp2_with fail
  go_ret2
  have y1 := (Ext.refl w2).alloc (.cells (madeCells #[.int .i64 0] n) 3)
  have y2 := (Ext.refl (w2.alloc (.cells (madeCells #[.int .i64 0] n) 3))).alloc (.cells #[.pointer (some ⟨b1, 0, none⟩), .pointer (some ⟨b2, 0, none⟩), .pointer (some ⟨pb, 0, none⟩), .slice (some ⟨w2.heap.size, 0, none⟩) n n, .int .i64 0, .int .i64 0, .int .i64 0, .int .i64 0] 106)
  have y := y1.trans y2
  have hb : BoxG _ (w2.heap.size + 1) (gcs b1 b2 pb w2.heap.size n 0 (clearG c t)) := BoxG.new (w2.alloc (.cells (madeCells #[.int .i64 0] n) 3)) (gcs b1 b2 pb w2.heap.size n 0 (clearG c t)) 106 (by simp)
  have hr : RingAt (w2.alloc (.cells (madeCells #[.int .i64 0] n) 3)) w2.heap.size n 0 [] :=
    ⟨by omega, Nat.zero_le _, fun i hi => ⟨0, by rw [cell_newN, made_at hi]⟩, fun i hi => absurd hi (Nat.not_lt_zero i), fun o => World.frozen?_alloc_at _ _ _ _ rfl⟩
  have p1 := H.out.lt
  have s1 := x1.size; have s2 := x2.size
  have o1 := h1.lt; have o2 := h1.glt (by rw [List.length_replicate]; omega); have o3 := h2.lt; have o4 := h2.glt (by rw [List.length_replicate]; omega)
  have l2' := l2 spo; have k2' := k2 gpo
  have a1 := h1.apart (by rw [List.length_replicate]; omega); have a2 := h2.apart (by rw [List.length_replicate]; omega)
  have R1 := (h1.ext x2).ext y; have R2 := h2.ext y
  rw [← EN.out] at R1
  rw [← EG.out] at R2
  exact ⟨_, rfl, w2.heap.size + 1, b1, g1, b2, g2, w2.heap.size, by simp, ⟨0, ⟨(H.out.ext (x1.trans x2)).ext y, R1, R2, clearG_ok n, hn, hb, hr.chg (Chg.of_ext (P := fun _ => False) y2) (fun a => a), by omega, by omega, by omega, by omega⟩⟩, by omega, by omega, by omega, by omega, by omega, by omega, (x1.trans x2).trans y⟩

end Go.Proofs.YtlhajoamebfniaaDoor

/-! arena: an arena that is none. -/
namespace Go.Proofs.YtlhajoamebfniaaDoor
open Go.RowKit
variable {w w' : World} {p : Option Addr}

theorem NoArena.box (h : NoArena w p) : Hid (NoArena (w.alloc (.cells #[.pointer p] 51)) p) := Lib.hid (h.ext ((Ext.refl w).alloc _))
set_option maxHeartbeats 2000000 in
theorem arena_Take_no {k : Int} (h : NoArena w p) : Calls Tryd.prog 26 #[.pointer p, .int .i64 k] w fun e w' => e = .returned (.tuple #[.int .i64 0, .int .i64 1]) ∧ Ext w w' := by
  have H := h.box
  clear h
  go_enter Tryd.func26, Tryd.ntmps26
  go_wp2_with fail
  refine (arena_none_no H.out).mono ?_
  rintro e w1000 ⟨rfl, rfl⟩
  go_wp2_with fail
  go_ret2
  exact ⟨rfl, (Ext.refl w).alloc _⟩
set_option maxHeartbeats 2000000 in
theorem arena_Give_no {s : Int} (h : NoArena w p) : Calls Tryd.prog 32 #[.pointer p, .int .i64 s] w fun e w' => e = .returned (.int .i64 1) ∧ w = w' := by
  have H := Lib.hid h
  clear h
  go_enter Tryd.func32, Tryd.ntmps32
  go_wp2_with fail
  refine (arena_none_no H.out).mono ?_
  rintro e w1000 ⟨rfl, rfl⟩
  go_wp2_with fail
  go_ret
  exact ⟨rfl, rfl⟩
set_option maxHeartbeats 2000000 in
theorem arena_Has_no {s : Int} (h : NoArena w p) : Calls Tryd.prog 28 #[.pointer p, .int .i64 s] w fun e w' => e = .returned (.bool false) ∧ w = w' := by
  have H := Lib.hid h
  clear h
  go_enter Tryd.func28, Tryd.ntmps28
  go_wp2_with fail
  refine (arena_none_no H.out).mono ?_
  rintro e w1000 ⟨rfl, rfl⟩
  go_wp2_with fail
  go_ret
  exact ⟨rfl, rfl⟩
set_option maxHeartbeats 2000000 in
theorem arena_Used_no (h : NoArena w p) : Calls Tryd.prog 24 #[.pointer p] w fun e w' => e = .returned (.int .i64 0) ∧ w = w' := by
  have H := Lib.hid h
  clear h
  go_enter Tryd.func24, Tryd.ntmps24
  go_wp2_with fail
  refine (arena_none_no H.out).mono ?_
  rintro e w1000 ⟨rfl, rfl⟩
  go_wp2_with fail
  go_ret
  exact ⟨rfl, rfl⟩
set_option maxHeartbeats 2000000 in
theorem arena_Count_no (h : NoArena w p) : Calls Tryd.prog 30 #[.pointer p] w fun e w' => e = .returned (.int .i64 0) ∧ w = w' := by
  have H := Lib.hid h
  clear h
  go_enter Tryd.func30, Tryd.ntmps30
  go_wp2_with fail
  refine (arena_none_no H.out).mono ?_
  rintro e w1000 ⟨rfl, rfl⟩
  go_wp2_with fail
  go_ret
  exact ⟨rfl, rfl⟩
set_option maxHeartbeats 2000000 in
theorem arena_Taken_no (h : NoArena w p) : Calls Tryd.prog 25 #[.pointer p] w fun e w' => e = .returned (.pointer none) ∧ w = w' := by
  have H := Lib.hid h
  clear h
  go_enter Tryd.func25, Tryd.ntmps25
  go_wp2_with fail
  refine (arena_none_no H.out).mono ?_
  rintro e w1000 ⟨rfl, rfl⟩
  go_wp2_with fail
  go_ret
  exact ⟨rfl, rfl⟩
set_option maxHeartbeats 2000000 in
theorem arena_Copy_no (h : NoArena w p) : Calls Tryd.prog 33 #[.pointer p] w fun e w' => e = .returned (.pointer none) ∧ w = w' := by
  have H := Lib.hid h
  clear h
  go_enter Tryd.func33, Tryd.ntmps33
  go_wp2_with fail
  refine (arena_none_no H.out).mono ?_
  rintro e w1000 ⟨rfl, rfl⟩
  go_wp2_with fail
  go_ret
  exact ⟨rfl, rfl⟩
set_option maxHeartbeats 2000000 in
theorem arena_New_nil : Calls Tryd.prog 43 #[.pointer none] w fun e w' => e = .returned (.tuple #[.pointer none, .int .i64 1]) ∧ w = w' := by
  go_enter Tryd.func43, Tryd.ntmps43
  go_wp2_with fail
  refine (slot_Slots_nil).mono ?_
  rintro e w1000 ⟨rfl, rfl⟩
  go_wp2_with fail
  go_ret2
  exact ⟨rfl, rfl⟩
end Go.Proofs.YtlhajoamebfniaaDoor

/-! Rows of truths in memory. No program is named here. -/
namespace Go.Proofs.YtlhajoamebfniaaDoor
open Go.RowKit

/-- 'a' leads to the truths bs, one behind the other. -/
def BAt (w : World) (a : Option Addr) (bs : List Bool) : Prop :=
  ∀ i, i < bs.length → ∃ b o, a = some ⟨b, o, none⟩ ∧ w.cell? ⟨b, o + i, none⟩ = some (.bool (bnth bs i))
theorem BAt.pos {w : World} {a : Option Addr} {bs : List Bool} (h : BAt w a bs) (h0 : 0 < bs.length) :
    ∃ b o, a = some ⟨b, o, none⟩ ∧ ∀ i, i < bs.length → w.cell? ⟨b, o + i, none⟩ = some (.bool (bnth bs i)) := by
  obtain ⟨b, o, rfl, _⟩ := h 0 h0
  refine ⟨b, o, rfl, fun i hi => ?_⟩
  obtain ⟨b', o', e, hc⟩ := h i hi
  cases e; exact hc
theorem BAt.ext {w w' : World} {a : Option Addr} {bs : List Bool} (h : BAt w a bs) (hx : Ext w w') : BAt w' a bs := by
  intro i hi
  obtain ⟨b, o, e, hc⟩ := h i hi
  exact ⟨b, o, e, hx.cell hc⟩
theorem BAt.chg {P : Nat → Prop} {w w' : World} {a : Option Addr} {bs : List Bool} (h : BAt w a bs) (hx : Chg P w w') (hp : ∀ b o, a = some ⟨b, o, none⟩ → ¬ P b) : BAt w' a bs := by
  intro i hi
  obtain ⟨b, o, e, hc⟩ := h i hi
  exact ⟨b, o, e, hx.cell (hp b o e) hc⟩
theorem BAt.nil {w : World} {a : Option Addr} : BAt w a [] := fun _ h => absurd h (Nat.not_lt_zero _)
theorem BAt.mk {w : World} {b o : Nat} {bs : List Bool} (h : ∀ i, i < bs.length → w.cell? ⟨b, o + i, none⟩ = some (.bool (bnth bs i))) : BAt w (some ⟨b, o, none⟩) bs :=
  fun i hi => ⟨b, o, rfl, h i hi⟩
theorem BAt.set {w : World} {g j : Nat} {bs : List Bool} (h : BAt w (some ⟨g, 0, none⟩) bs) (hj : j < bs.length) (v : Bool) : BAt (w.setCell ⟨g, j, none⟩ (.bool v)) (some ⟨g, 0, none⟩) (bs.set j v) := by
  intro i hi
  rw [List.length_set] at hi
  refine ⟨g, 0, rfl, ?_⟩
  rw [Nat.zero_add]
  obtain ⟨b, o, e, hc⟩ := h i hi
  cases e
  rw [Nat.zero_add] at hc
  rw [bnth_set hj]
  by_cases e : i = j
  · subst e
    rw [if_pos rfl]; exact World.cell?_setCell_same w _ _ hc
  · rw [if_neg e, World.cell?_setCell_other _ _ _ _ (by intro e'; cases e'; exact e rfl)]
    exact hc

/-- Truths as cells. -/
def bcs (bs : List Bool) : List Value := bs.map Value.bool
theorem bcs_len (bs : List Bool) : (bcs bs).length = bs.length := by simp [bcs]
theorem bcs_one (bs : List Bool) : ∀ u ∈ bcs bs, u.oneCell' = true := by
  intro u hu
  simp only [bcs, List.mem_map] at hu
  obtain ⟨n, _, rfl⟩ := hu
  rfl
theorem bcs_at (bs : List Bool) (i : Nat) (h : i < bs.length) : (bcs bs)[i]? = some (.bool (bnth bs i)) := by
  simp [bcs, bnth, List.getD, h]
theorem bcs_news {w : World} {b o : Nat} {bs : List Bool} (h : ∀ i, i < bs.length → w.cell? ⟨b, o + i, none⟩ = some (.bool (bnth bs i))) :
    ∀ j u, (bcs bs)[j]? = some u → w.cell? ((⟨b, o, none⟩ : Addr).add j) = some u := by
  intro j u hj
  have hl : j < bs.length := by have := (List.getElem?_eq_some_iff.1 hj).1; rwa [bcs_len] at this
  rw [bcs_at bs j hl] at hj
  cases hj
  rw [Addr.add_lit]; exact h j hl
theorem bcs_snoc (l : List Bool) (p : Bool) : bcs l ++ [.bool p] = bcs (l ++ [p]) := by unfold bcs; rw [List.map_append]; rfl
theorem own_bits {w : World} {base e : Nat} {v : Value} {n : Nat} {bs : List Bool} (h : w.ownsRow base e 1 v n (bcs bs)) (h0 : 0 < n) :
    ∃ g cap, v = .slice (some ⟨g, 0, none⟩) n cap ∧ base ≤ g ∧ g < w.heap.size ∧ n = bs.length ∧ n ≤ cap ∧ cap ≤ maxLen ∧ BAt w (some ⟨g, 0, none⟩) bs ∧ ∀ o, w.frozen? ⟨g, o, none⟩ = false := by
  have hn : n = bs.length := by have := h.1; rw [bcs_len] at this; omega
  have h' := h
  obtain ⟨_, ⟨rfl, rfl⟩ | ⟨g, cap, cur, rfl, hb, hh, hc, hm, hs, ht⟩⟩ := h
  · exact absurd h0 (Nat.lt_irrefl 0)
  · refine ⟨g, cap, rfl, hb, (Array.getElem?_eq_some_iff.1 hh).1, hn, hc, hm, ?_, fun o => h'.frozenAt o⟩
    refine BAt.mk fun i hi => ?_
    rw [Nat.zero_add, h'.cellAt _ (by omega)]; exact bcs_at bs i hi

/-- A row of truths of the call's own. -/
structure NewBits (w w' : World) (a : Option Addr) (cap : Nat) (bs : List Bool) : Prop where
  row : BAt w' a bs
  cap1 : bs.length ≤ cap
  cap2 : cap ≤ maxLen
  own : 0 < bs.length → ∃ g, a = some ⟨g, 0, none⟩ ∧ w.heap.size ≤ g ∧ g < w'.heap.size ∧ ∀ o, w'.frozen? ⟨g, o, none⟩ = false
theorem newBits_of {w w1 : World} {e : Nat} {v : Value} {bs : List Bool} (h : w1.ownsRow w.heap.size e 1 v bs.length (bcs bs)) : ∃ a cap, v = .slice a bs.length cap ∧ NewBits w w1 a cap bs := by
  rcases Nat.eq_zero_or_pos bs.length with c | c
  · obtain rfl := List.length_eq_zero_iff.1 c
    obtain ⟨_, ⟨rfl, _⟩ | ⟨g, cap, cur, rfl, hb, hh, hc, hm, hs, ht⟩⟩ := h
    · exact ⟨none, 0, rfl, BAt.nil, Nat.le_refl _, Nat.zero_le _, fun hi => absurd hi (Nat.lt_irrefl 0)⟩
    · exact ⟨_, cap, rfl, BAt.nil, hc, hm, fun hi => absurd hi (Nat.lt_irrefl 0)⟩
  · obtain ⟨g, cap, rfl, h1, h2, _, h4, h5, h6, h7⟩ := own_bits h c
    exact ⟨_, cap, rfl, h6, h4, h5, fun _ => ⟨g, rfl, h1, h2, h7⟩⟩
theorem NewBits.lower {w W0 w' : World} {a : Option Addr} {cap : Nat} {bs : List Bool} (h : NewBits W0 w' a cap bs) (hl : w.heap.size ≤ W0.heap.size) : NewBits w w' a cap bs :=
  ⟨h.row, h.cap1, h.cap2, fun h0 => by obtain ⟨g, e, h1, h2⟩ := h.own h0; exact ⟨g, e, Nat.le_trans hl h1, h2⟩⟩

/-- Whatever 'a' leads to lies in a block from B on. -/
def Far (B : Nat) (a : Option Addr) : Prop := ∀ x o, a = some ⟨x, o, none⟩ → B ≤ x
theorem own_far {w : World} {base e n n' cap : Nat} {a : Option Addr} {xs : List Value} (h : w.ownsRow base e 1 (.slice a n' cap) n xs) : Far base a := by
  intro x o ea
  obtain ⟨_, ⟨e1, _⟩ | ⟨g, c, cur, e1, hb, _⟩⟩ := h
  · cases e1; cases ea
  · cases e1; cases ea; exact hb
theorem Far.mono {A B : Nat} {a : Option Addr} (h : Far B a) (hab : A ≤ B) : Far A a := fun x o e => Nat.le_trans hab (h x o e)

end Go.Proofs.YtlhajoamebfniaaDoor

/-! commonageref04: New, Get, Set, Next, Count, Less. -/
namespace Go.Proofs.YtlhajoamebfniaaDoor
open Go.RowKit

theorem info_bool : (Tryd.prog.info? 4).map (fun i => (i.zero, i.size, i.bytes)) = some (some (.bool false), 1, 1) := by kernel_rfl
/-- What a call hands back: a row of truths of its own, and numbers behind it. -/
def MadeBits (bs : List Bool) (w : World) (e : Ending) (w' : World) : Prop := ∃ a cap, e = .returned (.slice a bs.length cap) ∧ NewBits w w' a cap bs ∧ Far w.heap.size a ∧ Ext w w'

end Go.Proofs.YtlhajoamebfniaaDoor

/-! commonageref04: Set, Next, Less; commonageref03.Same. -/
namespace Go.Proofs.YtlhajoamebfniaaDoor
open Go.RowKit

/-- What Set hands back: a row of truths, and a number. -/
def SetBits (a0 : Option Addr) (bs' : List Bool) (q : Int) (w : World) (e : Ending) (w' : World) : Prop := ∃ a cap, e = .returned (.tuple #[.slice a bs'.length cap, .int .i64 q]) ∧ BAt w' a bs' ∧ (∀ B, B ≤ w.heap.size → Far B a0 → Far B a) ∧ Ext w w'

theorem grown_alloc {w W W' : World} {o : Obj} (hg : (W.alloc o).grownBy W' (some W.heap.size)) (hx : Ext w W) : Ext w W' :=
  Ext.of ((hx.alloc o).below.grown hg (by simp; have := hx.size; omega) (fun k e => by cases e; exact hx.size))

/-! ### Less -/
def blessU (rs bs : List Bool) (k : Nat) : List Bool := (List.range k).map fun i => bnth rs i && !bnth bs i
theorem blessU_succ (rs bs : List Bool) (k : Nat) : blessU rs bs (k + 1) = blessU rs bs k ++ [bnth rs k && !bnth bs k] := by unfold blessU; rw [List.range_succ, List.map_append]; rfl
theorem blessU_len (rs bs : List Bool) (k : Nat) : (blessU rs bs k).length = k := by unfold blessU; simp
/-- What Less hands back. -/
def lessR (rs bs : List Bool) : List Bool × Int := if rs.length = bs.length then (bless rs bs, 0) else (rs, 2)

end Go.Proofs.YtlhajoamebfniaaDoor

/-! commonageref10: the document's arena: its shape; New, Used, Take, Give. -/
namespace Go.Proofs.YtlhajoamebfniaaDoor
open Go.RowKit

/-- The document's arena: its plan, its row of truths; none of its blocks is one of P. -/
structure DArn (P : Nat → Prop) (w : World) (lb fb mb : Nat) (ca : Option Addr) (c : Conf) (t : Nat) (qa : Option Addr) (bs : List Bool) : Prop where
  plan : DPlan w lb fb mb ca c t
  np : ¬ P lb ∧ ¬ P fb ∧ ¬ P mb
  nc : ∀ x o, ca = some ⟨x, o, none⟩ → ¬ P x
  row : BAt w qa bs
  nq : ∀ x o, qa = some ⟨x, o, none⟩ → ¬ P x
  len : bs.length = nS c t
variable {P : Nat → Prop} {w w' : World} {lb lc fb fc mb mc cc t qc : Nat} {ca qa : Option Addr} {c : Conf} {bs bs' : List Bool}
theorem DPlan.at {Q : Nat → Prop} (h : DPlan w lb fb mb ca c t) (hx : Chg Q w w') (h1 : ¬ Q lb) (h2 : ¬ Q fb) (h3 : ¬ Q mb) (h4 : ∀ x o, ca = some ⟨x, o, none⟩ → ¬ Q x) : DPlan w' lb fb mb ca c t :=
  ⟨h.ok, h.ti, fun s hs j u hu => hx.cell h1 (h.l s hs j u hu), h.f.chg hx (fun b o e _ => by cases e; exact h2), h.m.chg hx (fun b o e _ => by cases e; exact h3), h.k.chg hx (fun b o e _ => h4 b o e)⟩
theorem DPlan.lt (h : DPlan w lb fb mb ca c t) : lb < w.heap.size ∧ fb < w.heap.size ∧ mb < w.heap.size ∧ (∀ x o, ca = some ⟨x, o, none⟩ → x < w.heap.size) := by
  have hs := h.ok.nS_pos h.ti
  have hg := h.ok.nG_pos h.ti
  refine ⟨cell_lt (h.l 0 (by omega) 0 _ rfl), ?_, ?_, fun x o e => ?_⟩
  · obtain ⟨b, o, e, hc⟩ := h.f 0 (by simp [firsts]; omega)
    cases e; exact cell_lt hc
  · obtain ⟨b, o, e, hc⟩ := h.m 0 (by simp [manys]; omega)
    cases e; exact cell_lt hc
  · obtain ⟨b, o', e', hc⟩ := h.k 0 h.ok.cl.pos
    rw [e] at e'; cases e'; exact cell_lt hc
theorem DArn.ext (h : DArn P w lb fb mb ca c t qa bs) (hx : Ext w w') : DArn P w' lb fb mb ca c t qa bs := ⟨h.plan.ext hx, h.np, h.nc, h.row.ext hx, h.nq, h.len⟩
theorem DArn.chg {Q : Nat → Prop} (h : DArn P w lb fb mb ca c t qa bs) (hx : Chg Q w w') (hq : ∀ k, Q k → P k) : DArn P w' lb fb mb ca c t qa bs :=
  ⟨h.plan.at hx (fun q => h.np.1 (hq _ q)) (fun q => h.np.2.1 (hq _ q)) (fun q => h.np.2.2 (hq _ q)) (fun x o e q => h.nc x o e (hq _ q)), h.np, h.nc, h.row.chg hx (fun x o e q => h.nq x o e (hq _ q)), h.nq, h.len⟩
/-- The arena's value. -/
def dav (lb lc fb fc mb mc : Nat) (ca : Option Addr) (cc : Nat) (c : Conf) (t : Nat) (qa : Option Addr) (n qc : Nat) : Value :=
  .agg #[.slice (some ⟨lb, 0, none⟩) (nS c t) lc, .slice (some ⟨fb, 0, none⟩) (nG c t) fc, .slice (some ⟨mb, 0, none⟩) (nG c t) mc, .int .i64 (wordsOf c t), .slice ca c.cl.length cc, .slice qa n qc]

set_option maxHeartbeats 4000000 in
theorem ref10_Used {u : Int} (h : DArn P w lb fb mb ca c t qa bs) (hu : usedOf c t bs = u) :
    Calls Tryd.prog 63 #[dav lb lc fb fc mb mc ca cc c t qa bs.length qc] w fun e w' => e = .returned (.int .i64 u) ∧ Ext w w' := by
  have ho := h.plan.ok; have ht := h.plan.ti
  have nb := ho.nS_le ht
  have HL := Lib.hid h.plan.l
  have HQ := Lib.hid h.row
  have UB := Lib.hid (fun i hi => usedTo_bd ho ht bs i hi)
  have SB := Lib.hid (fun s (hs : s < nS c t) => szOf_bd ho ht hs)
  have HN := Lib.hid h.len
  have HU : Hid (usedTo c t bs bs.length = u) := Lib.hid (by rw [h.len]; exact hu)
  unfold dav
  obtain ⟨z, hz⟩ : ∃ z, w.heap.size = z := ⟨_, rfl⟩
  have hx := (Ext.refl w).alloc (.cells #[.slice (some ⟨lb, 0, none⟩) (nS c t) lc, .slice (some ⟨fb, 0, none⟩) (nG c t) fc, .slice (some ⟨mb, 0, none⟩) (nG c t) mc, .int .i64 (wordsOf c t), .slice ca c.cl.length cc, .slice qa bs.length qc] 53)
  have hq64 : bs.length ≤ 16384 := by rw [h.len]; exact nb
  clear h ho ht hu
  go_enter Tryd.func63, Tryd.ntmps63
  go_wp2_with fail
  go_loop [3, 4] (fun nv iv => ∃ i : Nat, i ≤ bs.length ∧ nv = .int .i64 (usedTo c t bs i) ∧ iv = .int .i64 i) (fun _ iv => bs.length - (intOf iv).toNat)
  case atStart => exact ⟨0, Nat.zero_le _, rfl, rfl⟩
  case round =>
    obtain ⟨i, hi, rfl, rfl⟩ := hrel
    by_cases hlt : i < bs.length
    · have hiN : i < nS c t := by have := HN.out; omega
      obtain ⟨gq, oq, rfl, hcells⟩ := HQ.out.pos (by omega)
      have hck := hx.cell (hcells i hlt)
      have cs := hx.cell (HL.out i hiN 1 _ rfl)
      have ub := UB.out i (by omega)
      have sb := SB.out i hiN
      have US := Lib.hid (usedTo_succ (c := c) (t := t) (bs := bs) i)
      clear hcells
      rw [show nth c.cl (kOf c t (i : Int)) = szOf c t i from rfl] at cs
      generalize usedTo c t bs i = U at *
      generalize szOf c t i = S at *
      cases hv : bnth bs i
      · rw [hv] at hck US
        clear hv
        go_wp2_with fail
        go_round
        case rel => exact ⟨i + 1, by omega, by rw [US.out]; simp, by go_num⟩
        case measure => simp [intOf]; omega
      · rw [hv] at hck US
        clear hv
        go_wp2_with fail
        go_round
        case rel => exact ⟨i + 1, by omega, by rw [US.out]; simp, by go_num⟩
        case measure => simp [intOf]; omega
    · obtain rfl : i = bs.length := by omega
      rw [HU.out]
      go_wp2_with fail
      go_ret
      exact ⟨rfl, hx⟩
/-- A struct of six cells, stored whole. -/
theorem set6 {w : World} {b : Nat} {u0 u1 u2 u3 u4 u5 : Value} (v0 v1 v2 v3 v4 v5 : Value) (h0 : w.cell? ⟨b, 0, none⟩ = some u0) (h1 : w.cell? ⟨b, 1, none⟩ = some u1) (h2 : w.cell? ⟨b, 2, none⟩ = some u2) (h3 : w.cell? ⟨b, 3, none⟩ = some u3) (h4 : w.cell? ⟨b, 4, none⟩ = some u4) (h5 : w.cell? ⟨b, 5, none⟩ = some u5) :
    ∀ W, W = (((((w.setCell ⟨b, 0, none⟩ v0).setCell ⟨b, 1, none⟩ v1).setCell ⟨b, 2, none⟩ v2).setCell ⟨b, 3, none⟩ v3).setCell ⟨b, 4, none⟩ v4).setCell ⟨b, 5, none⟩ v5 →
    (W.cell? ⟨b, 0, none⟩ = some v0 ∧ W.cell? ⟨b, 1, none⟩ = some v1 ∧ W.cell? ⟨b, 2, none⟩ = some v2 ∧ W.cell? ⟨b, 3, none⟩ = some v3 ∧ W.cell? ⟨b, 4, none⟩ = some v4 ∧ W.cell? ⟨b, 5, none⟩ = some v5) ∧ Chg (fun k => k = b) w W := by
  rintro W rfl
  refine ⟨⟨?_, ?_, ?_, ?_, ?_, ?_⟩, ?_⟩
  · exact set_oth (by decide) (set_oth (by decide) (set_oth (by decide) (set_oth (by decide) (set_oth (by decide) (set_same h0)))))
  · exact set_oth (by decide) (set_oth (by decide) (set_oth (by decide) (set_oth (by decide) (set_same (set_oth (by decide) h1)))))
  · exact set_oth (by decide) (set_oth (by decide) (set_oth (by decide) (set_same (set_oth (by decide) (set_oth (by decide) h2)))))
  · exact set_oth (by decide) (set_oth (by decide) (set_same (set_oth (by decide) (set_oth (by decide) (set_oth (by decide) h3)))))
  · exact set_oth (by decide) (set_same (set_oth (by decide) (set_oth (by decide) (set_oth (by decide) (set_oth (by decide) h4)))))
  · exact set_same (set_oth (by decide) (set_oth (by decide) (set_oth (by decide) (set_oth (by decide) (set_oth (by decide) h5)))))
  · exact ((((((Chg.refl (fun k => k = b) w).setCell (p := ⟨b, 0, none⟩) (.inl rfl) _).setCell (p := ⟨b, 1, none⟩) (.inl rfl) _).setCell (p := ⟨b, 2, none⟩) (.inl rfl) _).setCell (p := ⟨b, 3, none⟩) (.inl rfl) _).setCell (p := ⟨b, 4, none⟩) (.inl rfl) _).setCell (p := ⟨b, 5, none⟩) (.inl rfl) _
theorem DArn.lt (h : DArn P w lb fb mb ca c t qa bs) : lb < w.heap.size ∧ fb < w.heap.size ∧ mb < w.heap.size ∧ (∀ x o, ca = some ⟨x, o, none⟩ → x < w.heap.size) ∧ (∀ x o, qa = some ⟨x, o, none⟩ → x < w.heap.size) := by
  have hs := h.plan.ok.nS_pos h.plan.ti
  have hg := h.plan.ok.nG_pos h.plan.ti
  refine ⟨cell_lt (h.plan.l 0 (by omega) 0 _ rfl), ?_, ?_, fun x o e => ?_, fun x o e => ?_⟩
  · obtain ⟨b, o, e, hc⟩ := h.plan.f 0 (by simp [firsts]; omega)
    cases e; exact cell_lt hc
  · obtain ⟨b, o, e, hc⟩ := h.plan.m 0 (by simp [manys]; omega)
    cases e; exact cell_lt hc
  · obtain ⟨b, o', e', hc⟩ := h.plan.k 0 h.plan.ok.cl.pos
    rw [e] at e'; cases e'; exact cell_lt hc
  · obtain ⟨b, o', e', hc⟩ := h.row 0 (by rw [h.len]; omega)
    rw [e] at e'; cases e'; exact cell_lt hc
/-- Behind a store into a box that held nothing. -/
theorem DArn.far {x : Nat} (h : DArn P w lb fb mb ca c t qa bs) (hc : w.cell? ⟨x, 0, none⟩ = some (.slice none 0 0)) (hx : Chg (fun k => k = x) w w') (h1 : ∀ y o, ca = some ⟨y, o, none⟩ → y ≠ x) (h2 : ∀ y o, qa = some ⟨y, o, none⟩ → y ≠ x) : DArn P w' lb fb mb ca c t qa bs := by
  have hs := h.plan.ok.nS_pos h.plan.ti
  have hg := h.plan.ok.nG_pos h.plan.ti
  have l0 : lb ≠ x := by
    rintro rfl
    have := h.plan.l 0 (by omega) 0 _ rfl
    rw [Nat.zero_mul, Nat.add_zero, hc] at this; cases this
  have l1 : fb ≠ x := by
    rintro rfl
    obtain ⟨b, o, e, hc'⟩ := h.plan.f 0 (by simp [firsts]; omega)
    cases e
    rw [Nat.zero_add, hc] at hc'; cases hc'
  have l2 : mb ≠ x := by
    rintro rfl
    obtain ⟨b, o, e, hc'⟩ := h.plan.m 0 (by simp [manys]; omega)
    cases e
    rw [Nat.zero_add, hc] at hc'; cases hc'
  exact ⟨h.plan.at hx l0 l1 l2 h1, h.np, h.nc, h.row.chg hx h2, h.nq, h.len⟩
/-- Behind a store into a box of the call's own; another row. -/
theorem DArn.made {W W' : World} {z : Nat} {qa' : Option Addr} (h : DArn P w lb fb mb ca c t qa bs) (hx : Ext w W) (hc : Chg (fun k => k = z) W W') (hz : w.heap.size ≤ z) (hr : BAt W qa' bs') (hq : ∀ x o, qa' = some ⟨x, o, none⟩ → ¬ P x ∧ x ≠ z) (hl : bs'.length = bs.length) : DArn P W' lb fb mb ca c t qa' bs' := by
  obtain ⟨l1, l2, l3, l4, l5⟩ := h.lt
  refine ⟨(h.plan.ext hx).at hc (by omega) (by omega) (by omega) (fun x o e q => ?_), h.np, h.nc, hr.chg hc (fun x o e => (hq x o e).2), fun x o e => (hq x o e).1, by rw [hl]; exact h.len⟩
  have := l4 x o e
  omega

/-- What Take, Give, GiveAll hand back behind their arena. -/
def DMade (P : Nat → Prop) (qa0 : Option Addr) (lb lc fb fc mb mc : Nat) (ca : Option Addr) (cc : Nat) (c : Conf) (t : Nat) (bs' : List Bool) (rest : List Value) (w : World) (e : Ending) (w' : World) : Prop :=
  ∃ qa qc, e = .returned (.tuple (.agg #[.slice (some ⟨lb, 0, none⟩) (nS c t) lc, .slice (some ⟨fb, 0, none⟩) (nG c t) fc, .slice (some ⟨mb, 0, none⟩) (nG c t) mc, .int .i64 (wordsOf c t), .slice ca c.cl.length cc, .slice qa bs'.length qc] :: rest).toArray) ∧ DArn P w' lb fb mb ca c t qa bs' ∧ Ext w w' ∧ ∀ x o, qa = some ⟨x, o, none⟩ → (∃ o', qa0 = some ⟨x, o', none⟩) ∨ w.heap.size ≤ x

/-- The two boxes of a call: its argument's, its result's. -/
structure Two6 (w W : World) (z : Nat) (V U : List Value) : Prop where
  ext : Ext w W
  size : W.heap.size = z + 2
  v : ∀ i x, V[i]? = some x → W.cell? ⟨z, i, none⟩ = some x
  u : ∀ i x, U[i]? = some x → W.cell? ⟨z + 1, i, none⟩ = some x
  fz : ∀ i, W.frozen? ⟨z + 1, i, none⟩ = false
theorem two6 (w : World) (V U : List Value) (t t' : TypeId) {z : Nat} (hz : w.heap.size = z) : Two6 w ((w.alloc (.cells V.toArray t)).alloc (.cells U.toArray t')) z V U := by
  subst hz
  refine ⟨((Ext.refl w).alloc _).alloc _, by simp, fun i x hx => ?_, fun i x hx => ?_, fun i => ?_⟩
  · refine ((Ext.refl _).alloc _).cell ?_
    rw [cell_newN]; simpa using hx
  · have := cell_newN (w.alloc (.cells V.toArray t)) U.toArray t' i
    rw [World.size_alloc] at this
    rw [this]; simpa using hx
  · exact World.frozen?_alloc_at _ _ _ _ (by simp)
theorem Two6.go {w W W' : World} {z : Nat} {V U : List Value} (h : Two6 w W z V U) (hx : Ext W W') : Ext w W' ∧ (∀ i x, V[i]? = some x → W'.cell? ⟨z, i, none⟩ = some x) ∧ (∀ i x, U[i]? = some x → W'.cell? ⟨z + 1, i, none⟩ = some x) ∧ (∀ i, W'.frozen? ⟨z + 1, i, none⟩ = false) :=
  ⟨h.ext.trans hx, fun i x e => hx.cell (h.v i x e), fun i x e => hx.cell (h.u i x e), fun i => by rw [hx.frozen (p := ⟨z + 1, i, none⟩) (by show z + 1 < W.heap.size; rw [h.size]; omega)]; exact h.fz i⟩

set_option maxRecDepth 100000 in
set_option maxHeartbeats 8000000 in
theorem ref10_Give {s k : Int} (h : DArn P w lb fb mb ca c t qa bs) (hP : ∀ k, P k → k < w.heap.size) (hr : giveR bs s = (bs', k)) :
    Calls Tryd.prog 61 #[dav lb lc fb fc mb mc ca cc c t qa bs.length qc, .int .i64 s] w (DMade P qa lb lc fb fc mb mc ca cc c t bs' [.int .i64 k] w) := by
  obtain ⟨i0, hi0, hz0, hz1, hz2⟩ := info_parts info_bool
  have nb := h.plan.ok.nS_le h.plan.ti
  have hq64 : bs.length ≤ 16384 := by rw [h.len]; exact nb
  have H := Lib.hid h; have HP := Lib.hid hP
  unfold dav
  obtain ⟨z, hz⟩ : ∃ z, w.heap.size = z := ⟨_, rfl⟩
  have HZ := Lib.hid hz
  have tw := two6 w [.slice (some ⟨lb, 0, none⟩) (nS c t) lc, .slice (some ⟨fb, 0, none⟩) (nG c t) fc, .slice (some ⟨mb, 0, none⟩) (nG c t) mc, .int .i64 (wordsOf c t), .slice ca c.cl.length cc, .slice qa bs.length qc] [.slice none 0 0, .slice none 0 0, .slice none 0 0, .int .i64 0, .slice none 0 0, .slice none 0 0] 53 53 hz
  obtain ⟨W0, hW0⟩ : ∃ W0, (w.alloc (.cells #[.slice (some ⟨lb, 0, none⟩) (nS c t) lc, .slice (some ⟨fb, 0, none⟩) (nG c t) fc, .slice (some ⟨mb, 0, none⟩) (nG c t) mc, .int .i64 (wordsOf c t), .slice ca c.cl.length cc, .slice qa bs.length qc] 53)).alloc (.cells #[.slice none 0 0, .slice none 0 0, .slice none 0 0, .int .i64 0, .slice none 0 0, .slice none 0 0] 53) = W0 := ⟨_, rfl⟩
  change Two6 w ((w.alloc (.cells #[_, _, _, _, _, _] _)).alloc (.cells #[_, _, _, _, _, _] _)) z _ _ at tw
  rw [hW0] at tw
  have TW := Lib.hid tw
  have v0 := tw.v 0 _ rfl; have v1 := tw.v 1 _ rfl; have v2 := tw.v 2 _ rfl; have v3 := tw.v 3 _ rfl; have v4 := tw.v 4 _ rfl; have v5 := tw.v 5 _ rfl
  have rz0 := tw.u 0 _ rfl; have rz1 := tw.u 1 _ rfl; have rz2 := tw.u 2 _ rfl; have rz3 := tw.u 3 _ rfl; have rz4 := tw.u 4 _ rfl; have rz5 := tw.u 5 _ rfl
  have f0 := tw.fz 0; have f1 := tw.fz 1; have f2 := tw.fz 2; have f3 := tw.fz 3; have f4 := tw.fz 4; have f5 := tw.fz 5
  have SZ := Lib.hid tw.size
  have bz : z < W0.heap.size := cell_lt v0
  have bz1 : z + 1 < W0.heap.size := cell_lt rz0
  have hx := tw.ext
  have HM := Lib.hid (show bs.length ≤ maxLen by unfold maxLen; omega)
  clear h hP tw
  unfold giveR at hr
  by_cases hs : 0 ≤ s ∧ s < bs.length
  · rw [if_neg (by simpa using hs)] at hr
    obtain ⟨n, rfl⟩ := Int.eq_ofNat_of_zero_le hs.1
    simp only [Int.toNat_natCast] at hr
    have hn : n < bs.length := by omega
    have t0 : decide ((n : Int) < 0) = false := by simp
    have t1 : decide ((bs.length : Int) ≤ (n : Int)) = false := by simp; omega
    have t2 : decide (bs.length ≤ n) = false := by simp; omega
    obtain ⟨gq, oq, rfl, hcells⟩ := H.out.row.pos (by omega)
    have hck := hx.cell (hcells n hn)
    have HNW := Lib.hid (bcs_news (fun i hi => hx.cell (hcells i hi)))
    clear hs hcells
    cases hb : bnth bs n
    · rw [hb] at hck hr
      cases hr
      clear hb
      go_enter Tryd.func61, Tryd.ntmps61
      go_wp2_with fail
      obtain ⟨⟨q0, q1, q2, q3, q4, q5⟩, qc6⟩ := set6 (.slice (some ⟨lb, 0, none⟩) (nS c t) lc) (.slice (some ⟨fb, 0, none⟩) (nG c t) fc) (.slice (some ⟨mb, 0, none⟩) (nG c t) mc) (.int .i64 (wordsOf c t)) (.slice ca c.cl.length cc) (.slice (some ⟨gq, oq, none⟩) bs.length qc) rz0 rz1 rz2 rz3 rz4 rz5 _ rfl
      refine bodyPost_ret (v := .tuple #[.agg #[.slice (some ⟨lb, 0, none⟩) (nS c t) lc, .slice (some ⟨fb, 0, none⟩) (nG c t) fc, .slice (some ⟨mb, 0, none⟩) (nG c t) mc, .int .i64 (wordsOf c t), .slice ca c.cl.length cc, .slice (some ⟨gq, oq, none⟩) bs.length qc], .int .i64 9]) (by simp [results, Tryd.results61, go_sem, q0, q1, q2, q3, q4, q5]) rfl ⟨_, _, rfl, H.out.made hx qc6 (by omega) (H.out.row.ext hx) (fun x o e => ⟨H.out.nq x o e, by have := H.out.lt.2.2.2.2 x o e; omega⟩) (rfl), qc6.over hx (fun k e => by omega), fun x o e => .inl ⟨_, e⟩⟩
    · rw [hb] at hck hr
      cases hr
      clear hb
      go_enter Tryd.func61, Tryd.ntmps61
      go_wp2_with (at_builtin; (refine wpList_append_own _ rfl (.tmp 24) (.tmp 26) 31 rfl W0.heap.size 4 i0 (.bool false) 1 1 Tryd.underlying31 hi0 hz0 hz1 hz2 rfl (by decide) (.slice (some ⟨W0.heap.size, 0, none⟩) 0 0) 0 [] rfl (World.ownsRow_made _ #[] 0 (Nat.le_refl _) (by decide) rfl) ⟨gq, oq, none⟩ bs.length qc (bcs bs) rfl (by rw [bcs_len, Nat.mul_one]) (fun j u hj => cell_alloc (HNW.out j u hj) _) (bcs_one _) (by rw [Nat.zero_add]; exact HM.out) (by omega) (by simp) ?_; intro v' w1 hown hgrow hnil; rw [Nat.zero_add, List.nil_append] at hown; obtain ⟨a', c', rfl, hnb⟩ := newBits_of hown; have hx1 := grown_alloc hgrow (Ext.refl W0); obtain ⟨g', rfl, g1, g2, g3⟩ := hnb.own (by omega); have g4 := g3 n; have HB := Lib.hid hnb.row; have g6 := hnb.cap1; have g7 := hnb.cap2; have g5 := (show w1.cell? ⟨g', n, none⟩ = some (.bool (bnth bs n)) by have := HB.out n hn; obtain ⟨x, y, e, hc⟩ := this; cases e; rw [Nat.zero_add] at hc; exact hc); have x2 := hx1.setCell (p := ⟨g', n, none⟩) g1 (.bool false); obtain ⟨_, vv, uu, ff⟩ := TW.out.go x2; have X2 := Lib.hid (hx.trans x2); have v0 := vv 0 _ rfl; have v1 := vv 1 _ rfl; have v2 := vv 2 _ rfl; have v3 := vv 3 _ rfl; have v4 := vv 4 _ rfl; have rz0 := uu 0 _ rfl; have rz1 := uu 1 _ rfl; have rz2 := uu 2 _ rfl; have rz3 := uu 3 _ rfl; have rz4 := uu 4 _ rfl; have rz5 := uu 5 _ rfl; have f0 := ff 0; have f1 := ff 1; have f2 := ff 2; have f3 := ff 3; have f4 := ff 4; have f5 := ff 5; have sz := SZ.out; have zg : z + 2 ≤ g' := (by omega); clear sz hnb hown hgrow hnil g3 hx1 x2 vv uu ff))
      obtain ⟨⟨q0, q1, q2, q3, q4, q5⟩, qc6⟩ := set6 (.slice (some ⟨lb, 0, none⟩) (nS c t) lc) (.slice (some ⟨fb, 0, none⟩) (nG c t) fc) (.slice (some ⟨mb, 0, none⟩) (nG c t) mc) (.int .i64 (wordsOf c t)) (.slice ca c.cl.length cc) (.slice (some ⟨g', 0, none⟩) bs.length c') rz0 rz1 rz2 rz3 rz4 rz5 _ rfl
      refine bodyPost_ret (v := .tuple #[.agg #[.slice (some ⟨lb, 0, none⟩) (nS c t) lc, .slice (some ⟨fb, 0, none⟩) (nG c t) fc, .slice (some ⟨mb, 0, none⟩) (nG c t) mc, .int .i64 (wordsOf c t), .slice ca c.cl.length cc, .slice (some ⟨g', 0, none⟩) bs.length c'], .int .i64 0]) (by simp [results, Tryd.results61, go_sem, q0, q1, q2, q3, q4, q5]) rfl ⟨_, _, by rw [List.length_set], H.out.made X2.out qc6 (by omega) (HB.out.set hn false) (fun x o e => by cases e; exact ⟨fun hp => by have := HP.out _ hp; omega, by omega⟩) (List.length_set ..), qc6.over X2.out (fun k e => by omega), fun x o e => by cases e; exact .inr (by omega)⟩
  · rw [if_pos (by simpa using hs)] at hr
    cases hr
    by_cases h0 : s < 0
    · clear hs
      go_enter Tryd.func61, Tryd.ntmps61
      go_wp2_with fail
      obtain ⟨⟨q0, q1, q2, q3, q4, q5⟩, qc6⟩ := set6 (.slice (some ⟨lb, 0, none⟩) (nS c t) lc) (.slice (some ⟨fb, 0, none⟩) (nG c t) fc) (.slice (some ⟨mb, 0, none⟩) (nG c t) mc) (.int .i64 (wordsOf c t)) (.slice ca c.cl.length cc) (.slice qa bs.length qc) rz0 rz1 rz2 rz3 rz4 rz5 _ rfl
      refine bodyPost_ret (v := .tuple #[.agg #[.slice (some ⟨lb, 0, none⟩) (nS c t) lc, .slice (some ⟨fb, 0, none⟩) (nG c t) fc, .slice (some ⟨mb, 0, none⟩) (nG c t) mc, .int .i64 (wordsOf c t), .slice ca c.cl.length cc, .slice qa bs.length qc], .int .i64 2]) (by simp [results, Tryd.results61, go_sem, q0, q1, q2, q3, q4, q5]) rfl ⟨_, _, rfl, H.out.made hx qc6 (by omega) (H.out.row.ext hx) (fun x o e => ⟨H.out.nq x o e, by have := H.out.lt.2.2.2.2 x o e; omega⟩) (rfl), qc6.over hx (fun k e => by omega), fun x o e => .inl ⟨_, e⟩⟩
    · have t0 : decide (s < 0) = false := by simpa using h0
      have t1 : decide ((bs.length : Int) ≤ s) = true := decide_eq_true (by omega)
      clear hs
      go_enter Tryd.func61, Tryd.ntmps61
      go_wp2_with fail
      obtain ⟨⟨q0, q1, q2, q3, q4, q5⟩, qc6⟩ := set6 (.slice (some ⟨lb, 0, none⟩) (nS c t) lc) (.slice (some ⟨fb, 0, none⟩) (nG c t) fc) (.slice (some ⟨mb, 0, none⟩) (nG c t) mc) (.int .i64 (wordsOf c t)) (.slice ca c.cl.length cc) (.slice qa bs.length qc) rz0 rz1 rz2 rz3 rz4 rz5 _ rfl
      refine bodyPost_ret (v := .tuple #[.agg #[.slice (some ⟨lb, 0, none⟩) (nS c t) lc, .slice (some ⟨fb, 0, none⟩) (nG c t) fc, .slice (some ⟨mb, 0, none⟩) (nG c t) mc, .int .i64 (wordsOf c t), .slice ca c.cl.length cc, .slice qa bs.length qc], .int .i64 2]) (by simp [results, Tryd.results61, go_sem, q0, q1, q2, q3, q4, q5]) rfl ⟨_, _, rfl, H.out.made hx qc6 (by omega) (H.out.row.ext hx) (fun x o e => ⟨H.out.nq x o e, by have := H.out.lt.2.2.2.2 x o e; omega⟩) (rfl), qc6.over hx (fun k e => by omega), fun x o e => .inl ⟨_, e⟩⟩

theorem TakeR.done {c : Conf} {t j s : Nat} {bs bs' : List Bool} {p e : Int} (h : TakeR c t bs (j : Int) bs' p e) (hj : j < c.cl.length) (hs : ofClass c t j s) (hb : bnth bs s = false) (hl : ∀ i : Nat, ofClass c t j i → i < s → bnth bs i = true) : bs' = bs.set s true ∧ p = s ∧ e = 0 := by
  rcases h with ⟨h, _⟩ | ⟨j', e1, _, ⟨s', a1, a2, a3, rfl, rfl, rfl⟩ | ⟨a1, _⟩⟩
  · omega
  · obtain rfl : j = j' := by omega
    rcases Nat.lt_trichotomy s s' with g | g | g
    · rw [a3 s hs g] at hb; cases hb
    · subst g; exact ⟨rfl, rfl, rfl⟩
    · rw [hl s' a1 g] at a2; cases a2
  · obtain rfl : j = j' := by omega
    rw [a1 s hs] at hb; cases hb
theorem TakeR.full {c : Conf} {t j : Nat} {bs bs' : List Bool} {p e : Int} (h : TakeR c t bs (j : Int) bs' p e) (hj : j < c.cl.length) (hl : ∀ i : Nat, ofClass c t j i → bnth bs i = true) : bs' = bs ∧ p = 0 ∧ e = 6 := by
  rcases h with ⟨h, _⟩ | ⟨j', e1, _, ⟨s', a1, a2, a3, rfl, rfl, rfl⟩ | ⟨a1, a2⟩⟩
  · omega
  · obtain rfl : j = j' := by omega
    rw [hl s' a1] at a2; cases a2
  · exact a2

set_option maxRecDepth 100000 in
set_option maxHeartbeats 8000000 in
theorem ref10_Take {k p e : Int} (h : DArn P w lb fb mb ca c t qa bs) (hP : ∀ k, P k → k < w.heap.size) (hr : TakeR c t bs k bs' p e) :
    Calls Tryd.prog 29 #[dav lb lc fb fc mb mc ca cc c t qa bs.length qc, .int .i64 k] w (DMade P qa lb lc fb fc mb mc ca cc c t bs' [.int .i64 p, .int .i64 e] w) := by
  obtain ⟨i0, hi0, hz0, hz1, hz2⟩ := info_parts info_bool
  have m8 := h.plan.ok.cl.most
  have nb := h.plan.ok.nS_le h.plan.ti
  have hq64 : bs.length ≤ 16384 := by rw [h.len]; exact nb
  have H := Lib.hid h; have HP := Lib.hid hP
  unfold dav
  obtain ⟨z, hz⟩ : ∃ z, w.heap.size = z := ⟨_, rfl⟩
  have HZ := Lib.hid hz
  have tw := two6 w [.slice (some ⟨lb, 0, none⟩) (nS c t) lc, .slice (some ⟨fb, 0, none⟩) (nG c t) fc, .slice (some ⟨mb, 0, none⟩) (nG c t) mc, .int .i64 (wordsOf c t), .slice ca c.cl.length cc, .slice qa bs.length qc] [.slice none 0 0, .slice none 0 0, .slice none 0 0, .int .i64 0, .slice none 0 0, .slice none 0 0] 53 53 hz
  obtain ⟨W0, hW0⟩ : ∃ W0, (w.alloc (.cells #[.slice (some ⟨lb, 0, none⟩) (nS c t) lc, .slice (some ⟨fb, 0, none⟩) (nG c t) fc, .slice (some ⟨mb, 0, none⟩) (nG c t) mc, .int .i64 (wordsOf c t), .slice ca c.cl.length cc, .slice qa bs.length qc] 53)).alloc (.cells #[.slice none 0 0, .slice none 0 0, .slice none 0 0, .int .i64 0, .slice none 0 0, .slice none 0 0] 53) = W0 := ⟨_, rfl⟩
  change Two6 w ((w.alloc (.cells #[_, _, _, _, _, _] _)).alloc (.cells #[_, _, _, _, _, _] _)) z _ _ at tw
  rw [hW0] at tw
  have TW := Lib.hid tw
  have v0 := tw.v 0 _ rfl; have v1 := tw.v 1 _ rfl; have v2 := tw.v 2 _ rfl; have v3 := tw.v 3 _ rfl; have v4 := tw.v 4 _ rfl; have v5 := tw.v 5 _ rfl
  have rz0 := tw.u 0 _ rfl; have rz1 := tw.u 1 _ rfl; have rz2 := tw.u 2 _ rfl; have rz3 := tw.u 3 _ rfl; have rz4 := tw.u 4 _ rfl; have rz5 := tw.u 5 _ rfl
  have f0 := tw.fz 0; have f1 := tw.fz 1; have f2 := tw.fz 2; have f3 := tw.fz 3; have f4 := tw.fz 4; have f5 := tw.fz 5
  have SZ := Lib.hid tw.size
  have bz : z < W0.heap.size := cell_lt v0
  have bz1 : z + 1 < W0.heap.size := cell_lt rz0
  have hx := tw.ext
  have HM := Lib.hid (show bs.length ≤ maxLen by unfold maxLen; omega)
  have KE := Lib.hid (fun i (hi : i < nS c t) (j : Nat) (hj : j < c.cl.length) => kOf_eq h.plan.ok h.plan.ti hj hi)
  have HN := Lib.hid h.len
  have HR := Lib.hid hr
  clear h hP tw
  by_cases hk : 0 ≤ k ∧ k < c.cl.length
  · obtain ⟨j, rfl⟩ : ∃ j : Nat, k = j := ⟨k.toNat, by omega⟩
    have hj : j < c.cl.length := by omega
    have t0 : decide ((j : Int) < 0) = false := by simp
    have t1 : decide ((c.cl.length : Int) ≤ (j : Int)) = false := by simp; omega
    have t2 : decide (c.cl.length ≤ j) = false := by simp; omega
    clear hk hr
    go_enter Tryd.func29, Tryd.ntmps29
    go_wp2_with fail
    go_loop [7] (fun iv => ∃ i : Nat, i ≤ bs.length ∧ iv = .int .i64 i ∧ Hid (∀ s : Nat, ofClass c t j s → s < i → bnth bs s = true)) (fun iv => bs.length - (intOf iv).toNat)
    case atStart => exact ⟨0, Nat.zero_le _, rfl, fun s _ hs => absurd hs (Nat.not_lt_zero _)⟩
    case round =>
      obtain ⟨n, hi, rfl, HJ⟩ := hrel
      by_cases hn : n < bs.length
      · have hiN : n < nS c t := by have := HN.out; omega
        obtain ⟨gq, oq, rfl, hcells⟩ := H.out.row.pos (by omega)
        have hck := hx.cell (hcells n hn)
        have cs := hx.cell (H.out.plan.l n hiN 0 _ rfl)
        rw [Nat.add_zero] at cs
        have HNW := Lib.hid (bcs_news (fun i hi => hx.cell (hcells i hi)))
        have KN := KE.out n hiN j hj
        clear hcells
        by_cases hc : kOf c t (n : Int) = j
        · have OC := Lib.hid (show ofClass c t j n from KN.1 hc)
          rw [hc] at cs
          clear hc KN
          have te : ((j : Int) == (j : Int)) = true := by simp
          cases hb : bnth bs n
          · obtain ⟨rfl, rfl, rfl⟩ := HR.out.done hj OC.out hb (fun i h1 h2 => HJ.out i h1 h2)
            rw [hb] at hck
            clear hb
            go_wp2_with (at_builtin; (refine wpList_append_own _ rfl (.tmp 44) (.tmp 46) 31 rfl W0.heap.size 4 i0 (.bool false) 1 1 Tryd.underlying31 hi0 hz0 hz1 hz2 rfl (by decide) (.slice (some ⟨W0.heap.size, 0, none⟩) 0 0) 0 [] rfl (World.ownsRow_made _ #[] 0 (Nat.le_refl _) (by decide) rfl) ⟨gq, oq, none⟩ bs.length qc (bcs bs) rfl (by rw [bcs_len, Nat.mul_one]) (fun j u hj => cell_alloc (HNW.out j u hj) _) (bcs_one _) (by rw [Nat.zero_add]; exact HM.out) (by omega) (by simp) ?_; intro v' w1 hown hgrow hnil; rw [Nat.zero_add, List.nil_append] at hown; obtain ⟨a', c', rfl, hnb⟩ := newBits_of hown; have hx1 := grown_alloc hgrow (Ext.refl W0); obtain ⟨g', rfl, g1, g2, g3⟩ := hnb.own (by omega); have g4 := g3 n; have HB := Lib.hid hnb.row; have g6 := hnb.cap1; have g7 := hnb.cap2; have g5 := (show w1.cell? ⟨g', n, none⟩ = some (.bool (bnth bs n)) by have := HB.out n hn; obtain ⟨x, y, e, hc⟩ := this; cases e; rw [Nat.zero_add] at hc; exact hc); have x2 := hx1.setCell (p := ⟨g', n, none⟩) g1 (.bool true); obtain ⟨_, vv, uu, ff⟩ := TW.out.go x2; have X2 := Lib.hid (hx.trans x2); have v0 := vv 0 _ rfl; have v1 := vv 1 _ rfl; have v2 := vv 2 _ rfl; have v3 := vv 3 _ rfl; have v4 := vv 4 _ rfl; have rz0 := uu 0 _ rfl; have rz1 := uu 1 _ rfl; have rz2 := uu 2 _ rfl; have rz3 := uu 3 _ rfl; have rz4 := uu 4 _ rfl; have rz5 := uu 5 _ rfl; have f0 := ff 0; have f1 := ff 1; have f2 := ff 2; have f3 := ff 3; have f4 := ff 4; have f5 := ff 5; have sz := SZ.out; have zg : z + 2 ≤ g' := (by omega); clear sz hnb hown hgrow hnil g3 hx1 x2 vv uu ff))
            obtain ⟨⟨q0, q1, q2, q3, q4, q5⟩, qc6⟩ := set6 (.slice (some ⟨lb, 0, none⟩) (nS c t) lc) (.slice (some ⟨fb, 0, none⟩) (nG c t) fc) (.slice (some ⟨mb, 0, none⟩) (nG c t) mc) (.int .i64 (wordsOf c t)) (.slice ca c.cl.length cc) (.slice (some ⟨g', 0, none⟩) bs.length c') rz0 rz1 rz2 rz3 rz4 rz5 _ rfl
            refine bodyPost_ret (v := .tuple #[.agg #[.slice (some ⟨lb, 0, none⟩) (nS c t) lc, .slice (some ⟨fb, 0, none⟩) (nG c t) fc, .slice (some ⟨mb, 0, none⟩) (nG c t) mc, .int .i64 (wordsOf c t), .slice ca c.cl.length cc, .slice (some ⟨g', 0, none⟩) bs.length c'], .int .i64 n, .int .i64 0]) (by simp [results, Tryd.results29, go_sem, q0, q1, q2, q3, q4, q5]) rfl ⟨_, _, by rw [List.length_set], H.out.made X2.out qc6 (by omega) (HB.out.set hn true) (fun x o e => by cases e; exact ⟨fun hp => by have := HP.out _ hp; omega, by omega⟩) (List.length_set ..), qc6.over X2.out (fun k e => by omega), fun x o e => by cases e; exact .inr (by omega)⟩
          · rw [hb] at hck
            have HB := Lib.hid hb
            clear hb
            go_wp2_with fail
            go_round
            case rel => exact ⟨n + 1, by omega, by go_num, fun s h1 h2 => by
              rcases Nat.lt_or_ge s n with g | g
              · exact HJ.out s h1 g
              · obtain rfl : s = n := by omega
                exact HB.out⟩
            case measure => simp [intOf]; omega
        · have NC := Lib.hid (show ¬ ofClass c t j n from fun o => hc (KN.2 o))
          have te : (((kOf c t (n : Int) : Nat) : Int) == (j : Int)) = false := by simp; omega
          clear hc KN
          generalize kOf c t (n : Int) = kk at *
          go_wp2_with fail
          go_round
          case rel => exact ⟨n + 1, by omega, by go_num, fun s h1 h2 => by
            rcases Nat.lt_or_ge s n with g | g
            · exact HJ.out s h1 g
            · obtain rfl : s = n := by omega
              exact absurd h1 NC.out⟩
          case measure => simp [intOf]; omega
      · obtain rfl : n = bs.length := by omega
        obtain ⟨eb, rfl, rfl⟩ := HR.out.full hj (fun i h1 => HJ.out i h1 (by have := ofClass_lt H.out.plan.ok H.out.plan.ti hj h1; have := HN.out; omega))
        obtain rfl : bs = bs' := eb.symm
        go_wp2_with fail
        obtain ⟨⟨q0, q1, q2, q3, q4, q5⟩, qc6⟩ := set6 (.slice (some ⟨lb, 0, none⟩) (nS c t) lc) (.slice (some ⟨fb, 0, none⟩) (nG c t) fc) (.slice (some ⟨mb, 0, none⟩) (nG c t) mc) (.int .i64 (wordsOf c t)) (.slice ca c.cl.length cc) (.slice qa bs.length qc) rz0 rz1 rz2 rz3 rz4 rz5 _ rfl
        refine bodyPost_ret (v := .tuple #[.agg #[.slice (some ⟨lb, 0, none⟩) (nS c t) lc, .slice (some ⟨fb, 0, none⟩) (nG c t) fc, .slice (some ⟨mb, 0, none⟩) (nG c t) mc, .int .i64 (wordsOf c t), .slice ca c.cl.length cc, .slice qa bs.length qc], .int .i64 0, .int .i64 6]) (by simp [results, Tryd.results29, go_sem, q0, q1, q2, q3, q4, q5]) rfl ⟨_, _, rfl, H.out.made hx qc6 (by omega) (H.out.row.ext hx) (fun x o e => ⟨H.out.nq x o e, by have := H.out.lt.2.2.2.2 x o e; omega⟩) (rfl), qc6.over hx (fun k e => by omega), fun x o e => .inl ⟨_, e⟩⟩
  · obtain ⟨rfl, rfl, rfl⟩ : bs = bs' ∧ p = 0 ∧ e = 2 := by
      rcases hr with ⟨_, h⟩ | ⟨j, rfl, hj, _⟩
      · exact ⟨h.1.symm, h.2⟩
      · exact absurd ⟨by omega, by omega⟩ hk
    clear hr HR
    by_cases h0 : k < 0
    · clear hk
      go_enter Tryd.func29, Tryd.ntmps29
      go_wp2_with fail
      obtain ⟨⟨q0, q1, q2, q3, q4, q5⟩, qc6⟩ := set6 (.slice (some ⟨lb, 0, none⟩) (nS c t) lc) (.slice (some ⟨fb, 0, none⟩) (nG c t) fc) (.slice (some ⟨mb, 0, none⟩) (nG c t) mc) (.int .i64 (wordsOf c t)) (.slice ca c.cl.length cc) (.slice qa bs.length qc) rz0 rz1 rz2 rz3 rz4 rz5 _ rfl
      refine bodyPost_ret (v := .tuple #[.agg #[.slice (some ⟨lb, 0, none⟩) (nS c t) lc, .slice (some ⟨fb, 0, none⟩) (nG c t) fc, .slice (some ⟨mb, 0, none⟩) (nG c t) mc, .int .i64 (wordsOf c t), .slice ca c.cl.length cc, .slice qa bs.length qc], .int .i64 0, .int .i64 2]) (by simp [results, Tryd.results29, go_sem, q0, q1, q2, q3, q4, q5]) rfl ⟨_, _, rfl, H.out.made hx qc6 (by omega) (H.out.row.ext hx) (fun x o e => ⟨H.out.nq x o e, by have := H.out.lt.2.2.2.2 x o e; omega⟩) (rfl), qc6.over hx (fun k e => by omega), fun x o e => .inl ⟨_, e⟩⟩
    · have t0 : decide (k < 0) = false := by simpa using h0
      have t1 : decide ((c.cl.length : Int) ≤ k) = true := decide_eq_true (by omega)
      clear hk
      go_enter Tryd.func29, Tryd.ntmps29
      go_wp2_with fail
      obtain ⟨⟨q0, q1, q2, q3, q4, q5⟩, qc6⟩ := set6 (.slice (some ⟨lb, 0, none⟩) (nS c t) lc) (.slice (some ⟨fb, 0, none⟩) (nG c t) fc) (.slice (some ⟨mb, 0, none⟩) (nG c t) mc) (.int .i64 (wordsOf c t)) (.slice ca c.cl.length cc) (.slice qa bs.length qc) rz0 rz1 rz2 rz3 rz4 rz5 _ rfl
      refine bodyPost_ret (v := .tuple #[.agg #[.slice (some ⟨lb, 0, none⟩) (nS c t) lc, .slice (some ⟨fb, 0, none⟩) (nG c t) fc, .slice (some ⟨mb, 0, none⟩) (nG c t) mc, .int .i64 (wordsOf c t), .slice ca c.cl.length cc, .slice qa bs.length qc], .int .i64 0, .int .i64 2]) (by simp [results, Tryd.results29, go_sem, q0, q1, q2, q3, q4, q5]) rfl ⟨_, _, rfl, H.out.made hx qc6 (by omega) (H.out.row.ext hx) (fun x o e => ⟨H.out.nq x o e, by have := H.out.lt.2.2.2.2 x o e; omega⟩) (rfl), qc6.over hx (fun k e => by omega), fun x o e => .inl ⟨_, e⟩⟩

end Go.Proofs.YtlhajoamebfniaaDoor
