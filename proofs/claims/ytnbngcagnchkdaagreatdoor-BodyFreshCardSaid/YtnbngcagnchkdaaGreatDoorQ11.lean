/-
  Merged texts: Law11b.
-/
import Derived.Test.YtnbngcagnchkdaaGreatDoorQ09
import Derived.Test.YtnbngcagnchkdaaGreatDoorQ10
import Derived.Test.YtnbngcagnchkdaaGreatDoorQ03
set_option linter.unusedVariables false
set_option linter.unusedSimpArgs false
/-! commonagelaw11: made. (Printed by wip/gen11m.py.) -/
namespace Go.Proofs.YtnbngcagnchkdaaGreatDoor
open Go.RowKit
variable {w w' W : World} {ca ta : Option Addr} {cc tc : Nat} {c : Conf} {t : Nat}

/-- More than a statement looks at. -/
def bigB (c : Conf) : Bool := !(decide (c.cl.length ≤ 50 ∧ c.ts.length ≤ 50)) || decide (2000 < (ktotal c).1)
theorem lb2 (w : World) {z : Nat} (hz : w.heap.size = z) (ca ta : Option Addr) (cc tc : Nat) (c : Conf) :
    ∃ W, (w.alloc (.cells #[.slice ca c.cl.length cc, .int .i64 c.page, .slice ta c.ts.length tc, .int .i64 c.wk, .int .i64 c.gr, .int .i64 c.gens] 25)).alloc (.cells #[.slice none 0 0, .int .i64 0, .slice none 0 0, .slice none 0 0, .slice none 0 0, .int .i64 0, .slice none 0 0] 41) = W ∧ BoxG W z [.slice ca c.cl.length cc, .int .i64 c.page, .slice ta c.ts.length tc, .int .i64 c.wk, .int .i64 c.gr, .int .i64 c.gens] ∧ BoxG W (z + 1) [.slice none 0 0, .int .i64 0, .slice none 0 0, .slice none 0 0, .slice none 0 0, .int .i64 0, .slice none 0 0] ∧ Ext w W :=
  ⟨_, rfl, (BoxG.new w _ _ hz).ext ((Ext.refl _).alloc _), BoxG.new _ _ _ (by simp [hz]), ((Ext.refl w).alloc _).alloc _⟩

set_option maxRecDepth 100000 in
set_option maxHeartbeats 8000000 in
theorem law11_made_no (c : Conf) (tn : Int) (hb : bigB c = true ∨ kcheck c ≠ 0) (h : CfgAt w ca ta cc tc c) :
    Calls Tryz.prog 8 #[.agg #[.slice ca c.cl.length cc, .int .i64 c.page, .slice ta c.ts.length tc, .int .i64 c.wk, .int .i64 c.gr, .int .i64 c.gens], .int .u8 tn] w fun e w' => e = .returned (.tuple #[.pointer none, .pointer none, .agg #[.slice none 0 0, .int .i64 0, .slice none 0 0, .slice none 0 0, .slice none 0 0, .int .i64 0, .slice none 0 0]]) ∧ Ext w w' := by
  obtain ⟨⟨p, q⟩, hpq⟩ : ∃ pq, ktotal c = pq := ⟨_, rfl⟩
  have PQ := Lib.hid hpq
  have HB := Lib.hid hb
  obtain ⟨z, hz⟩ : ∃ z, w.heap.size = z := ⟨_, rfl⟩
  obtain ⟨W1, hW1, hB, hR, x1⟩ := lb2 w hz ca ta cc tc c
  have B := Lib.hid hB; have R := Lib.hid hR; have X := Lib.hid x1
  have H := Lib.hid (h.ext x1)
  have ZL := Lib.hid (show w.heap.size ≤ z + 1 by omega)
  clear hb hpq h hB hR x1
  have v0 := B.out.c 0 _ rfl; have v1 := B.out.c 1 _ rfl; have v2 := B.out.c 2 _ rfl; have v3 := B.out.c 3 _ rfl; have v4 := B.out.c 4 _ rfl; have v5 := B.out.c 5 _ rfl
  have bz := B.out.lt
  go_enter Tryz.func8, Tryz.ntmps8
  go_wp2_with fail
  clear hW1 hz
  refine (ref06_Total c p q PQ.out H.out).mono ?_
  rintro e w1 ⟨rfl, x⟩
  clear v0 v1 v2 v3 v4 v5 bz
  replace H := Lib.hid (H.out.ext x); replace X := Lib.hid (X.out.trans x); replace B := Lib.hid (B.out.ext x); replace R := Lib.hid (R.out.ext x)
  clear x
  have v0 := B.out.c 0 _ rfl; have v1 := B.out.c 1 _ rfl; have v2 := B.out.c 2 _ rfl; have v3 := B.out.c 3 _ rfl; have v4 := B.out.c 4 _ rfl; have v5 := B.out.c 5 _ rfl
  have bz := B.out.lt
  go_wp2_with fail
  clear v0 v1 v2 v3 v4 v5 bz
  by_cases hs : c.cl.length ≤ 50 ∧ c.ts.length ≤ 50
  · have HS := Lib.hid (show decide (c.cl.length ≤ 50 ∧ c.ts.length ≤ 50) = true by simpa using hs)
    refine (ref06_Small c true HS.out H.out).mono ?_
    rintro e w2 ⟨rfl, x⟩
    replace H := Lib.hid (H.out.ext x); replace X := Lib.hid (X.out.trans x); replace B := Lib.hid (B.out.ext x); replace R := Lib.hid (R.out.ext x)
    clear x
    by_cases hp : 2000 < p
    · have tp : decide (2000 < p) = true := decide_eq_true hp
      clear hs hp
      have r0 := R.out.c 0 _ rfl; have r1 := R.out.c 1 _ rfl; have r2 := R.out.c 2 _ rfl; have r3 := R.out.c 3 _ rfl; have r4 := R.out.c 4 _ rfl; have r5 := R.out.c 5 _ rfl; have r6 := R.out.c 6 _ rfl
      have f0 := R.out.f 0; have f1 := R.out.f 1; have f2 := R.out.f 2; have f3 := R.out.f 3; have f4 := R.out.f 4; have f5 := R.out.f 5; have f6 := R.out.f 6
      have rl := R.out.lt
      go_wp2_with fail
      have RB := R.out.set7 (.slice none 0 0) (.int .i64 0) (.slice none 0 0) (.slice none 0 0) (.slice none 0 0) (.int .i64 0) (.slice none 0 0)
      have q0 := RB.c 0 _ rfl; have q1 := RB.c 1 _ rfl; have q2 := RB.c 2 _ rfl; have q3 := RB.c 3 _ rfl; have q4 := RB.c 4 _ rfl; have q5 := RB.c 5 _ rfl; have q6 := RB.c 6 _ rfl
      refine bodyPost_ret (v := .tuple #[.pointer none, .pointer none, .agg #[.slice none 0 0, .int .i64 0, .slice none 0 0, .slice none 0 0, .slice none 0 0, .int .i64 0, .slice none 0 0]]) (by simp [results, Tryz.results8, go_sem, q0, q1, q2, q3, q4, q5, q6]) rfl ⟨rfl, (chg7 _ (z + 1) (.slice none 0 0) (.int .i64 0) (.slice none 0 0) (.slice none 0 0) (.slice none 0 0) (.int .i64 0) (.slice none 0 0)).over X.out fun k e => by subst e; exact ZL.out⟩
    · have tp : decide (2000 < p) = false := decide_eq_false hp
      have H2 := Lib.hid (show kcheck c = 2 by
        rcases HB.out with hb | hb
        · unfold bigB at hb
          rw [PQ.out] at hb
          simp [hs] at hb
          exact absurd hb hp
        · rcases kcheck_01 c with e | e
          · exact absurd e hb
          · exact e)
      clear hs hp
      have v0 := B.out.c 0 _ rfl; have v1 := B.out.c 1 _ rfl; have v2 := B.out.c 2 _ rfl; have v3 := B.out.c 3 _ rfl; have v4 := B.out.c 4 _ rfl; have v5 := B.out.c 5 _ rfl
      have bz := B.out.lt
      go_wp2_with fail
      clear v0 v1 v2 v3 v4 v5 bz
      refine (ref06_Check c 2 H2.out H.out).mono ?_
      rintro e w3 ⟨rfl, x⟩
      replace H := Lib.hid (H.out.ext x); replace X := Lib.hid (X.out.trans x); replace B := Lib.hid (B.out.ext x); replace R := Lib.hid (R.out.ext x)
      clear x
      have r0 := R.out.c 0 _ rfl; have r1 := R.out.c 1 _ rfl; have r2 := R.out.c 2 _ rfl; have r3 := R.out.c 3 _ rfl; have r4 := R.out.c 4 _ rfl; have r5 := R.out.c 5 _ rfl; have r6 := R.out.c 6 _ rfl
      have f0 := R.out.f 0; have f1 := R.out.f 1; have f2 := R.out.f 2; have f3 := R.out.f 3; have f4 := R.out.f 4; have f5 := R.out.f 5; have f6 := R.out.f 6
      have rl := R.out.lt
      go_wp2_with fail
      have RB := R.out.set7 (.slice none 0 0) (.int .i64 0) (.slice none 0 0) (.slice none 0 0) (.slice none 0 0) (.int .i64 0) (.slice none 0 0)
      have q0 := RB.c 0 _ rfl; have q1 := RB.c 1 _ rfl; have q2 := RB.c 2 _ rfl; have q3 := RB.c 3 _ rfl; have q4 := RB.c 4 _ rfl; have q5 := RB.c 5 _ rfl; have q6 := RB.c 6 _ rfl
      refine bodyPost_ret (v := .tuple #[.pointer none, .pointer none, .agg #[.slice none 0 0, .int .i64 0, .slice none 0 0, .slice none 0 0, .slice none 0 0, .int .i64 0, .slice none 0 0]]) (by simp [results, Tryz.results8, go_sem, q0, q1, q2, q3, q4, q5, q6]) rfl ⟨rfl, (chg7 _ (z + 1) (.slice none 0 0) (.int .i64 0) (.slice none 0 0) (.slice none 0 0) (.slice none 0 0) (.int .i64 0) (.slice none 0 0)).over X.out fun k e => by subst e; exact ZL.out⟩
  · have HS := Lib.hid (show decide (c.cl.length ≤ 50 ∧ c.ts.length ≤ 50) = false by simpa using hs)
    clear hs
    refine (ref06_Small c false HS.out H.out).mono ?_
    rintro e w2 ⟨rfl, x⟩
    replace H := Lib.hid (H.out.ext x); replace X := Lib.hid (X.out.trans x); replace B := Lib.hid (B.out.ext x); replace R := Lib.hid (R.out.ext x)
    clear x
    have r0 := R.out.c 0 _ rfl; have r1 := R.out.c 1 _ rfl; have r2 := R.out.c 2 _ rfl; have r3 := R.out.c 3 _ rfl; have r4 := R.out.c 4 _ rfl; have r5 := R.out.c 5 _ rfl; have r6 := R.out.c 6 _ rfl
    have f0 := R.out.f 0; have f1 := R.out.f 1; have f2 := R.out.f 2; have f3 := R.out.f 3; have f4 := R.out.f 4; have f5 := R.out.f 5; have f6 := R.out.f 6
    have rl := R.out.lt
    go_wp2_with fail
    have RB := R.out.set7 (.slice none 0 0) (.int .i64 0) (.slice none 0 0) (.slice none 0 0) (.slice none 0 0) (.int .i64 0) (.slice none 0 0)
    have q0 := RB.c 0 _ rfl; have q1 := RB.c 1 _ rfl; have q2 := RB.c 2 _ rfl; have q3 := RB.c 3 _ rfl; have q4 := RB.c 4 _ rfl; have q5 := RB.c 5 _ rfl; have q6 := RB.c 6 _ rfl
    refine bodyPost_ret (v := .tuple #[.pointer none, .pointer none, .agg #[.slice none 0 0, .int .i64 0, .slice none 0 0, .slice none 0 0, .slice none 0 0, .int .i64 0, .slice none 0 0]]) (by simp [results, Tryz.results8, go_sem, q0, q1, q2, q3, q4, q5, q6]) rfl ⟨rfl, (chg7 _ (z + 1) (.slice none 0 0) (.int .i64 0) (.slice none 0 0) (.slice none 0 0) (.slice none 0 0) (.int .i64 0) (.slice none 0 0)).over X.out fun k e => by subst e; exact ZL.out⟩

theorem far7 {z b o : Nat} {v v0 v1 v2 v3 v4 v5 v6 : Value} (h : z ≠ b) (hc : w.cell? ⟨b, o, none⟩ = some v) : (((((((w.setCell ⟨z, 0, none⟩ v0).setCell ⟨z, 1, none⟩ v1).setCell ⟨z, 2, none⟩ v2).setCell ⟨z, 3, none⟩ v3).setCell ⟨z, 4, none⟩ v4).setCell ⟨z, 5, none⟩ v5).setCell ⟨z, 6, none⟩ v6).cell? ⟨b, o, none⟩ = some v := (chg7 w z v0 v1 v2 v3 v4 v5 v6).cell (p := ⟨b, o, none⟩) (fun e => h e.symm) hc
/-- A word's block is no other's. -/
theorem MemAt.far_i {b gw gb x : Nat} {ws : List Int} {v : Value} (h : MemAt w b gw gb c ws) (hc : w.cell? ⟨x, 0, none⟩ = some v) (hv : ∀ u, v ≠ .int .u64 u) : x ≠ gw := by
  rintro rfl
  have := h.word (i := 0) (by rw [h.len]; exact h.ok.total_pos)
  rw [hc] at this
  exact hv _ (by injection this)
theorem DPlan.nil_ne {lb fb mb x : Nat} (h : DPlan w lb fb mb ca c t) (hc : w.cell? ⟨x, 0, none⟩ = some (.slice none 0 0)) : lb ≠ x ∧ fb ≠ x ∧ mb ≠ x := by
  have hs := h.ok.nS_pos h.ti
  have hg := h.ok.nG_pos h.ti
  refine ⟨?_, ?_, ?_⟩
  · rintro rfl
    have := h.l 0 (by omega) 0 _ rfl
    rw [Nat.zero_mul, Nat.add_zero, hc] at this; cases this
  · rintro rfl
    obtain ⟨b, o, e, hc'⟩ := h.f 0 (by simp [firsts]; omega)
    cases e
    rw [Nat.zero_add, hc] at hc'; cases hc'
  · rintro rfl
    obtain ⟨b, o, e, hc'⟩ := h.m 0 (by simp [manys]; omega)
    cases e
    rw [Nat.zero_add, hc] at hc'; cases hc'
/-- A box that was nil is turned: the body stays. -/
theorem BodyAt.off {bb mb gw gb pb gp x : Nat} {ws : List Int} (h : BodyAt w bb mb gw gb pb gp c t ws) (hc : w.cell? ⟨x, 0, none⟩ = some (.slice none 0 0)) (hx : Chg (fun k => k = x) w w') : BodyAt w' bb mb gw gb pb gp c t ws := by
  have ne : ∀ (y : Nat) (v : Value), w.cell? ⟨y, 0, none⟩ = some v → v ≠ .slice none 0 0 → y ≠ x := by
    rintro y v hy hv rfl
    rw [hc] at hy; exact hv (by injection hy with e; exact e.symm)
  obtain ⟨cp, m0, _⟩ := h.mem.words
  obtain ⟨cq, p0⟩ := h.plan.parts
  have n1 := ne _ _ (h.box.c 0 _ rfl) (by intro e; cases e)
  have n2 := ne _ _ m0 (by intro e; cases e)
  have n3 := ne _ _ (h.mem.word (i := 0) (by rw [h.mem.len]; exact h.mem.ok.total_pos)) (by intro e; cases e)
  have n4 := ne _ _ (h.mem.base 0 (Nat.zero_le _)) (by intro e; cases e)
  have n5 := ne _ _ p0 (by intro e; cases e)
  have n6 := ne _ _ (h.plan.row 0 h.plan.ok.cl.pos 0 _ rfl) (by intro e; cases e)
  have n7 := ne _ _ h.wid.1 (by intro e; cases e)
  obtain ⟨h0, h1, h2, h3, h4⟩ := h.wid
  exact ⟨h.box.chg hx n1, h.mem.chg hx n2 n3 n4, h.plan.chg hx n5 n6, ⟨hx.cell n7 h0, hx.cell n7 h1, hx.cell n7 h2, hx.cell n7 h3, hx.cell n7 h4⟩, h.ok, h.ne⟩
/-- What made hands back where there is a body. -/
def MadeB (c : Conf) (t : Nat) (ca : Option Addr) (cc : Nat) (w : World) (e : Ending) (w' : World) : Prop :=
  ∃ bb mm gw gb pb gp d cap lb lc fb fc mb mc, e = .returned (.tuple #[.pointer (some ⟨bb, 0, none⟩), .pointer (some ⟨mm, 0, none⟩), .agg #[.slice (some ⟨d, 0, none⟩) c.ts.length cap, .int .i64 t, .slice (some ⟨lb, 0, none⟩) (nS c t) lc, .slice (some ⟨fb, 0, none⟩) (nG c t) fc, .slice (some ⟨mb, 0, none⟩) (nG c t) mc, .int .i64 (wordsOf c t), .slice ca c.cl.length cc]]) ∧
    BodyAt w' bb mm gw gb pb gp c t (List.replicate (totalN c) 0) ∧ DBd (isB gw) w' d lb fb mb ca c t (List.replicate (totalN c) 0) ∧ Ext w w' ∧ w.heap.size ≤ gw

set_option maxRecDepth 100000 in
set_option maxHeartbeats 16000000 in
theorem law11_made (c : Conf) (tn : Int) (hW : Wid w) (hb : bigB c = false) (h0 : kcheck c = 0) (htn : 0 ≤ tn ∧ tn ≤ 255) (hi : t < c.ts.length) (hmod : tn % (c.ts.length : Int) = t) (h : CfgAt w ca ta cc tc c) :
    Calls Tryz.prog 8 #[.agg #[.slice ca c.cl.length cc, .int .i64 c.page, .slice ta c.ts.length tc, .int .i64 c.wk, .int .i64 c.gr, .int .i64 c.gens], .int .u8 tn] w (MadeB c t ca cc w) := by
  have ho := kcheck_ok h0
  have t1 := ho.head.2.2.1
  have t8 := ho.head.2.2.2.1
  obtain ⟨t0, t255⟩ := htn
  have n0 : ¬ c.ts.length = 0 := by omega
  have nz : ¬ (c.ts.length : Int) = 0 := by omega
  have hmt : tn.tmod c.ts.length = t := by rw [Int.tmod_eq_emod_of_nonneg t0]; exact hmod
  have hwi : IntKind.i64.wrap (t : Int) = t := IntWalk.i64_in _ (by omega)
  have hwt : IntKind.i64.wrap tn = tn := IntWalk.i64_in _ (by omega)
  obtain ⟨⟨p, q⟩, hpq⟩ : ∃ pq, ktotal c = pq := ⟨_, rfl⟩
  have hs : c.cl.length ≤ 50 ∧ c.ts.length ≤ 50 ∧ ¬ 2000 < p := by
    unfold bigB at hb
    rw [hpq] at hb
    simp at hb
    omega
  have PQ := Lib.hid hpq
  have HS := Lib.hid (show decide (c.cl.length ≤ 50 ∧ c.ts.length ≤ 50) = true from decide_eq_true ⟨hs.1, hs.2.1⟩)
  have tp : decide (2000 < p) = false := decide_eq_false hs.2.2
  have H0 := Lib.hid h0; have HI := Lib.hid hi; have HW := Lib.hid hW
  have KL : Hid (∀ y o, ca = some ⟨y, o, none⟩ → y < w.heap.size) := Lib.hid fun y o e => by
    obtain ⟨b', o', e', hc⟩ := h.cl 0 (kcheck_ok h0).cl.pos
    rw [e] at e'; cases e'
    exact cell_lt hc
  obtain ⟨z, hz⟩ : ∃ z, w.heap.size = z := ⟨_, rfl⟩
  obtain ⟨W1, hW1, hB, hR, x1⟩ := lb2 w hz ca ta cc tc c
  have B := Lib.hid hB; have R := Lib.hid hR; have X := Lib.hid x1
  have H := Lib.hid (h.ext x1)
  have ZL := Lib.hid (show w.heap.size ≤ z + 1 by omega)
  clear hW ho h0 hb hpq hs h hB hR x1
  have v0 := B.out.c 0 _ rfl; have v1 := B.out.c 1 _ rfl; have v2 := B.out.c 2 _ rfl; have v3 := B.out.c 3 _ rfl; have v4 := B.out.c 4 _ rfl; have v5 := B.out.c 5 _ rfl
  have bz := B.out.lt
  go_enter Tryz.func8, Tryz.ntmps8
  go_wp2_with fail
  clear hW1 hz
  refine (ref06_Total c p q PQ.out H.out).mono ?_
  rintro e w1 ⟨rfl, x⟩
  clear v0 v1 v2 v3 v4 v5 bz
  replace H := Lib.hid (H.out.ext x); replace X := Lib.hid (X.out.trans x); replace B := Lib.hid (B.out.ext x); replace R := Lib.hid (R.out.ext x)
  clear x
  have v0 := B.out.c 0 _ rfl; have v1 := B.out.c 1 _ rfl; have v2 := B.out.c 2 _ rfl; have v3 := B.out.c 3 _ rfl; have v4 := B.out.c 4 _ rfl; have v5 := B.out.c 5 _ rfl
  have bz := B.out.lt
  go_wp2_with fail
  clear v0 v1 v2 v3 v4 v5 bz
  refine (ref06_Small c true HS.out H.out).mono ?_
  rintro e w2 ⟨rfl, x⟩
  replace H := Lib.hid (H.out.ext x); replace X := Lib.hid (X.out.trans x); replace B := Lib.hid (B.out.ext x); replace R := Lib.hid (R.out.ext x)
  clear x
  have v0 := B.out.c 0 _ rfl; have v1 := B.out.c 1 _ rfl; have v2 := B.out.c 2 _ rfl; have v3 := B.out.c 3 _ rfl; have v4 := B.out.c 4 _ rfl; have v5 := B.out.c 5 _ rfl
  have bz := B.out.lt
  go_wp2_with fail
  clear v0 v1 v2 v3 v4 v5 bz
  refine (ref06_Check c 0 H0.out H.out).mono ?_
  rintro e w3 ⟨rfl, x⟩
  replace H := Lib.hid (H.out.ext x); replace X := Lib.hid (X.out.trans x); replace B := Lib.hid (B.out.ext x); replace R := Lib.hid (R.out.ext x)
  clear x
  have v0 := B.out.c 0 _ rfl; have v1 := B.out.c 1 _ rfl; have v2 := B.out.c 2 _ rfl; have v3 := B.out.c 3 _ rfl; have v4 := B.out.c 4 _ rfl; have v5 := B.out.c 5 _ rfl
  have bz := B.out.lt
  go_wp2_with fail
  clear v0 v1 v2 v3 v4 v5 bz
  refine (mem_New c H0.out H.out).mono ?_
  rintro e w4 ⟨mm, gw, gb, rfl, hm, lm, lg, lgb, x⟩
  have HM := Lib.hid hm
  have LG := Lib.hid (Nat.le_trans X.out.size lg)
  clear hm lm lg lgb
  replace H := Lib.hid (H.out.ext x); replace X := Lib.hid (X.out.trans x); replace B := Lib.hid (B.out.ext x); replace R := Lib.hid (R.out.ext x)
  clear x
  have v0 := B.out.c 0 _ rfl; have v1 := B.out.c 1 _ rfl; have v2 := B.out.c 2 _ rfl; have v3 := B.out.c 3 _ rfl; have v4 := B.out.c 4 _ rfl; have v5 := B.out.c 5 _ rfl
  have bz := B.out.lt
  go_wp2_with fail
  clear v0 v1 v2 v3 v4 v5 bz
  refine (slot_New c t H0.out HI.out H.out).mono ?_
  rintro e w5 ⟨pb, gp, rfl, hp, x⟩
  have HP := Lib.hid hp
  replace HM := Lib.hid (HM.out.ext x)
  clear hp
  replace H := Lib.hid (H.out.ext x); replace X := Lib.hid (X.out.trans x); replace B := Lib.hid (B.out.ext x); replace R := Lib.hid (R.out.ext x)
  clear x
  have v0 := B.out.c 0 _ rfl; have v1 := B.out.c 1 _ rfl; have v2 := B.out.c 2 _ rfl; have v3 := B.out.c 3 _ rfl; have v4 := B.out.c 4 _ rfl; have v5 := B.out.c 5 _ rfl
  have bz := B.out.lt
  go_wp2_with fail
  clear v0 v1 v2 v3 v4 v5 bz
  refine (ref09_NewC c t H0.out HI.out H.out).mono ?_
  rintro e w6 ⟨lb, lc, fb, fc, mb, mc, rfl, hd, x⟩
  have HD := Lib.hid hd
  replace HP := Lib.hid (HP.out.ext x); replace HM := Lib.hid (HM.out.ext x)
  clear hd
  replace H := Lib.hid (H.out.ext x); replace X := Lib.hid (X.out.trans x); replace B := Lib.hid (B.out.ext x); replace R := Lib.hid (R.out.ext x)
  clear x
  unfold dpv
  go_upto_region 8 with fail
  obtain ⟨y, hy⟩ : ∃ y, w6.heap.size = y := ⟨_, rfl⟩
  obtain ⟨W7, hW7, hY, x7⟩ : ∃ W, w6.alloc (.cells #[.slice (some ⟨lb, 0, none⟩) (nS c t) lc, .slice (some ⟨fb, 0, none⟩) (nG c t) fc, .slice (some ⟨mb, 0, none⟩) (nG c t) mc, .int .i64 (wordsOf c t), .slice ca c.cl.length cc] 39) = W ∧ BoxG W y [.slice (some ⟨lb, 0, none⟩) (nS c t) lc, .slice (some ⟨fb, 0, none⟩) (nG c t) fc, .slice (some ⟨mb, 0, none⟩) (nG c t) mc, .int .i64 (wordsOf c t), .slice ca c.cl.length cc] ∧ Ext w6 W := ⟨_, rfl, BoxG.new w6 _ _ hy, (Ext.refl _).alloc _⟩
  have Y := Lib.hid hY
  have yz : y ≠ z + 1 := by have := R.out.lt; omega
  rw [hW7, hy]
  replace HP := Lib.hid (HP.out.ext x7); replace HM := Lib.hid (HM.out.ext x7); replace HD := Lib.hid (HD.out.ext x7)
  clear hW7 hy hY
  replace H := Lib.hid (H.out.ext x7); replace X := Lib.hid (X.out.trans x7); replace B := Lib.hid (B.out.ext x7); replace R := Lib.hid (R.out.ext x7)
  clear x7
  go_wp2_with fail
  refine (body_New HM.out HP.out (HW.out.ext X.out) (WOk.rep _) ⟨?_, ?_, ?_⟩).mono ?_
  · obtain ⟨cp, h0⟩ := HP.out.parts
    exact HM.out.far_i h0 (by intro u e; cases e)
  · exact HM.out.far_i (HP.out.row 0 HP.out.ok.cl.pos 0 _ rfl) (by intro u e; cases e)
  · exact HM.out.far_i (HW.out.ext X.out).1 (by intro u e; cases e)
  rintro e w8 ⟨bb, rfl, hbb, x8, lbb⟩
  have HBB := Lib.hid hbb
  replace HD := Lib.hid (HD.out.ext x8); replace Y := Lib.hid (Y.out.ext x8)
  clear hbb lbb HM HP
  replace H := Lib.hid (H.out.ext x8); replace X := Lib.hid (X.out.trans x8); replace B := Lib.hid (B.out.ext x8); replace R := Lib.hid (R.out.ext x8)
  clear x8
  go_upto_region 9 with fail
  have PL := Lib.hid (show ∀ k, (k = gw ∨ k = z + 1) → k < w8.heap.size by
    rintro k (rfl | rfl)
    · exact HBB.out.mem.lt.2.1
    · exact R.out.lt)
  have zz : z + 1 ≠ z := by omega
  have zy : z + 1 ≠ y := Ne.symm yz
  have r0 := R.out.c 0 _ rfl; have r1 := R.out.c 1 _ rfl; have r2 := R.out.c 2 _ rfl; have r3 := R.out.c 3 _ rfl; have r4 := R.out.c 4 _ rfl; have r5 := R.out.c 5 _ rfl; have r6 := R.out.c 6 _ rfl
  have RR := R.out
  have YY := Y.out
  have v0 := B.out.c 0 _ rfl; have v1 := B.out.c 1 _ rfl; have v2 := B.out.c 2 _ rfl; have v3 := B.out.c 3 _ rfl; have v4 := B.out.c 4 _ rfl; have v5 := B.out.c 5 _ rfl
  have y0 := Y.out.c 0 _ rfl; have y1 := Y.out.c 1 _ rfl; have y2 := Y.out.c 2 _ rfl; have y3 := Y.out.c 3 _ rfl; have y4 := Y.out.c 4 _ rfl
  go_region_with ((go_at_call 34; refine (ref07_New (P := fun k => k = gw ∨ k = z + 1) c H0.out ?_ (H.out.ext ?_)).mono ?_; (exact fun k q => Nat.lt_of_lt_of_le (PL.out k q) (Ext.size (by repeat (first | with_reducible exact Ext.refl _ | with_reducible refine Ext.drew ?_ | with_reducible refine Ext.drewN ?_ _ | with_reducible refine Ext.alloc ?_ _)))); (repeat (first | with_reducible exact Ext.refl _ | with_reducible refine Ext.drew ?_ | with_reducible refine Ext.drewN ?_ _ | with_reducible refine Ext.alloc ?_ _)); rintro e w9 ⟨d, cap, rfl, hdoc, ld, x9⟩; have x89 : Ext w8 w9 := Ext.trans (by repeat (first | with_reducible exact Ext.refl _ | with_reducible refine Ext.drew ?_ | with_reducible refine Ext.drewN ?_ _ | with_reducible refine Ext.alloc ?_ _)) x9; have R9 := RR.ext x89; have f0 := R9.f 0; have f1 := R9.f 1; have f2 := R9.f 2; have f3 := R9.f 3; have f4 := R9.f 4; have f5 := R9.f 5; have f6 := R9.f 6; have g0 := R9.c 0 _ rfl; have g1 := R9.c 1 _ rfl; have g2 := R9.c 2 _ rfl; have g3 := R9.c 3 _ rfl; have g4 := R9.c 4 _ rfl; have g5 := R9.c 5 _ rfl; have g6 := R9.c 6 _ rfl; have Y9 := YY.ext x89; have h0 := Y9.c 0 _ rfl; have h1 := Y9.c 1 _ rfl; have h2 := Y9.c 2 _ rfl; have h3 := Y9.c 3 _ rfl; have h4 := Y9.c 4 _ rfl))
  all_goals
    have HDC := Lib.hid hdoc; have X89 := Lib.hid x89; have R9h := Lib.hid R9; have G0 := Lib.hid g0
    clear hdoc x9 R9 Y9 h0 h1 h2 h3 h4 g0 g1 g2 g3 g4 g5 g6 f0 f1 f2 f3 f4 f5 f6 RR YY ld v0 v1 v2 v3 v4 v5 y0 y1 y2 y3 y4 r0 r1 r2 r3 r4 r5 r6 x89
    go_wp2_with fail
    have RB := R9h.out.set7 (.slice (some ⟨d, 0, none⟩) c.ts.length cap) (.int .i64 t) (.slice (some ⟨lb, 0, none⟩) (nS c t) lc) (.slice (some ⟨fb, 0, none⟩) (nG c t) fc) (.slice (some ⟨mb, 0, none⟩) (nG c t) mc) (.int .i64 (wordsOf c t)) (.slice ca c.cl.length cc)
    have q0 := RB.c 0 _ rfl; have q1 := RB.c 1 _ rfl; have q2 := RB.c 2 _ rfl; have q3 := RB.c 3 _ rfl; have q4 := RB.c 4 _ rfl; have q5 := RB.c 5 _ rfl; have q6 := RB.c 6 _ rfl
    have ch := chg7 w9 (z + 1) (.slice (some ⟨d, 0, none⟩) c.ts.length cap) (.int .i64 t) (.slice (some ⟨lb, 0, none⟩) (nS c t) lc) (.slice (some ⟨fb, 0, none⟩) (nG c t) fc) (.slice (some ⟨mb, 0, none⟩) (nG c t) mc) (.int .i64 (wordsOf c t)) (.slice ca c.cl.length cc)
    have hD := HD.out.ext X89.out
    have hB := HBB.out.ext X89.out
    have n1 := hD.nil_ne G0.out
    have lt0 := LG.out
    have ll : w9.cell? ⟨lb, 0, none⟩ = some (.int .i64 _) := hD.l 0 (by have := hD.ok.nS_pos hD.ti; omega) 0 _ rfl
    have DB : DBd (fun k => k = gw ∨ k = z + 1) w9 d lb fb mb ca c t (List.replicate (totalN c) 0) := by
      refine ⟨HDC.out, hD, ⟨?_, ?_, ?_⟩, fun x o e q => ?_, WOk.rep _⟩
      · rintro (q | q)
        · exact hB.mem.far_i ll (by intro u e; cases e) q
        · exact n1.1 q
      · rintro (q | q)
        · obtain ⟨b', o', e', hc⟩ := hD.f 0 (by have := hD.ok.nG_pos hD.ti; simp [firsts]; omega)
          cases e'
          exact hB.mem.far_i hc (by intro u e; cases e) q
        · exact n1.2.1 q
      · rintro (q | q)
        · obtain ⟨b', o', e', hc⟩ := hD.m 0 (by have := hD.ok.nG_pos hD.ti; simp [manys]; omega)
          cases e'
          exact hB.mem.far_i hc (by intro u e; cases e) q
        · exact n1.2.2 q
      · have := KL.out x o e
        have := ZL.out
        rcases q with q | q <;> omega
    refine bodyPost_ret (v := .tuple #[.pointer (some ⟨bb, 0, none⟩), .pointer (some ⟨mm, 0, none⟩), .agg #[.slice (some ⟨d, 0, none⟩) c.ts.length cap, .int .i64 t, .slice (some ⟨lb, 0, none⟩) (nS c t) lc, .slice (some ⟨fb, 0, none⟩) (nG c t) fc, .slice (some ⟨mb, 0, none⟩) (nG c t) mc, .int .i64 (wordsOf c t), .slice ca c.cl.length cc]]) (by simp [results, Tryz.results8, go_sem, q0, q1, q2, q3, q4, q5, q6]) rfl ⟨bb, mm, gw, gb, pb, gp, d, cap, lb, lc, fb, fc, mb, mc, rfl, hB.off G0.out ch, (DB.chg ch fun k e => .inr e).swap fun k _ q => .inl q, ch.over (X.out.trans X89.out) fun k e => by subst e; exact ZL.out, LG.out⟩

end Go.Proofs.YtnbngcagnchkdaaGreatDoor
