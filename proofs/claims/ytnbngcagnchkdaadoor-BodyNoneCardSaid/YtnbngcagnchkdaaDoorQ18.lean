/-
  Merged texts: BodyN, Law11r, Wf, Door, BodRow, CfgRow.
-/
import Derived.Test.YtnbngcagnchkdaaDoorQ09
import Derived.Test.YtnbngcagnchkdaaDoorQ07
import Derived.Test.YtnbngcagnchkdaaDoorQ14
import Derived.Test.YtnbngcagnchkdaaDoorQ17
import Derived.Test.YtnbngcagnchkdaaDoorQ15
import Derived.Test.YtnbngcagnchkdaaDoorQ05
import Derived.ProofKit
import Derived.OpenShut
import Derived.Test.YtnbngcagnchkdaaDoorRows
import Derived.Test.YtnbngcagnchkdaaDoorQ01
import Derived.LaidMore
import Derived.Test.YtnbngcagnchkdaaDoorProg
import Derived.Deep.Slices
import Derived.Deep.Fields
import Derived.Test.YtnbngcagnchkdaaDoorQ02
set_option linter.unusedVariables false
set_option linter.unusedSimpArgs false
/-! body: no body, a body that is zero; New refused. -/
namespace Go.Proofs.YtnbngcagnchkdaaDoor
open Go.RowKit
variable {w w' : World} {p : Option Addr} {c : Conf} {t : Nat} {ws : List Int} {mb gw gb pb gp : Nat} {s i x to : Int} {hd : Hd}

/-- There is no body. -/
def NoBd (w : World) (p : Option Addr) : Prop := p = none ∨ ∃ b, p = some ⟨b, 0, none⟩ ∧ w.cell? ⟨b, 0, none⟩ = some (.pointer none)
theorem NoBd.ext (h : NoBd w p) (hx : Ext w w') : NoBd w' p := by
  rcases h with h | ⟨b, h1, h2⟩
  · exact .inl h
  · exact .inr ⟨b, h1, hx.cell h2⟩

theorem body_none_no (h : NoBd w p) : Calls Tryd.prog 56 #[.pointer p] w fun e w' => e = .returned (.bool true) ∧ w = w' := by
  rcases h with rfl | ⟨b, rfl, h0⟩
  · go_enter Tryd.func56, Tryd.ntmps56
    go_wp2_with fail
    go_ret
    exact ⟨rfl, rfl⟩
  · go_enter Tryd.func56, Tryd.ntmps56
    go_wp2_with fail
    go_ret
    exact ⟨rfl, rfl⟩
theorem body_place_no (h : NoBd w p) : Calls Tryd.prog 31 #[.pointer p, .int .i64 s] w fun e w' => e = .returned (.tuple #[.int .i64 0, .int .i64 0, .int .i64 1]) ∧ w = w' := by
  have H := Lib.hid h
  clear h
  go_enter Tryd.func31, Tryd.ntmps31
  go_wp2_with fail
  refine (body_none_no H.out).mono ?_
  rintro e w1 ⟨rfl, rfl⟩
  go_wp2_with fail
  go_ret3
  exact ⟨rfl, rfl⟩
set_option maxHeartbeats 4000000 in
theorem body_Head_no (h : NoBd w p) : Calls Tryd.prog 8 #[.pointer p, .int .i64 s] w fun e w' => e = .returned (.tuple #[.agg #[.int .i64 0, .int .i64 0, .int .i64 0], .int .i64 1]) ∧ Ext w w' := by
  obtain ⟨z, hz⟩ : ∃ z, w.heap.size = z := ⟨_, rfl⟩
  obtain ⟨W0, hW0⟩ : ∃ W, w.alloc (.cells #[.int .i64 0, .int .i64 0, .int .i64 0] 28) = W := ⟨_, rfl⟩
  have R := Lib.hid (show BoxG W0 z [.int .i64 0, .int .i64 0, .int .i64 0] by rw [← hW0]; exact BoxG.new w _ _ hz)
  have X := Lib.hid (show Ext w W0 by rw [← hW0]; exact (Ext.refl w).alloc _)
  have ZL := Lib.hid (show w.heap.size ≤ z by omega)
  have H := Lib.hid (h.ext X.out)
  clear h
  go_enter Tryd.func8, Tryd.ntmps8
  go_wp2_with fail
  clear hW0 hz
  refine (body_place_no H.out).mono ?_
  rintro e w1 ⟨rfl, rfl⟩
  have f0 := R.out.f 0; have f1 := R.out.f 1; have f2 := R.out.f 2
  have r0 := R.out.c 0 _ rfl; have r1 := R.out.c 1 _ rfl; have r2 := R.out.c 2 _ rfl
  have rl := R.out.lt
  go_wp2_with fail
  have RB := R.out.set3 (.int .i64 0) (.int .i64 0) (.int .i64 0)
  have q0 := RB.c 0 _ rfl; have q1 := RB.c 1 _ rfl; have q2 := RB.c 2 _ rfl
  refine bodyPost_ret (v := .tuple #[.agg #[.int .i64 0, .int .i64 0, .int .i64 0], .int .i64 1]) (by simp [results, Tryd.results8, go_sem, q0, q1, q2]) rfl ⟨rfl, ((X.out.setCell (p := ⟨z, 0, none⟩) ZL.out _).setCell (p := ⟨z, 1, none⟩) ZL.out _).setCell (p := ⟨z, 2, none⟩) ZL.out _⟩
theorem body_Make_no (h : NoBd w p) : Calls Tryd.prog 12 #[.pointer p, .int .i64 s, .agg #[.int .i64 hd.c, .int .i64 hd.r, .int .i64 hd.w]] w fun e w' => e = .returned (.int .i64 1) ∧ Ext w w' := by
  have hx := (Ext.refl w).alloc (.cells #[.int .i64 hd.c, .int .i64 hd.r, .int .i64 hd.w] 28)
  have H := Lib.hid (h.ext hx)
  clear h
  go_enter Tryd.func12, Tryd.ntmps12
  go_wp2_with fail
  refine (body_place_no H.out).mono ?_
  rintro e w1 ⟨rfl, rfl⟩
  go_wp2_with fail
  go_ret
  exact ⟨rfl, hx⟩
theorem body_at_no {ref : Bool} {f : Value} (h : NoBd w p) : Calls Tryd.prog 65 #[.pointer p, .bool ref, .int .i64 s, .int .i64 i, f] w fun e w' => e = .returned (.int .i64 1) ∧ Ext w w' := by
  have H := Lib.hid h
  clear h
  go_enter Tryd.func65, Tryd.ntmps65
  go_wp2_with fail
  refine (body_Head_no H.out).mono ?_
  rintro e w1 ⟨rfl, x1⟩
  go_wp2_with fail
  go_ret
  exact ⟨rfl, x1.alloc _⟩
set_option maxHeartbeats 4000000 in
theorem body_load_no {ref : Bool} (h : NoBd w p) : Calls Tryd.prog 35 #[.pointer p, .bool ref, .int .i64 s, .int .i64 i] w fun e w' => e = .returned (.tuple #[.int .u64 0, .int .i64 1]) ∧ Ext w w' := by
  have hmf : ∀ (fn : Fn) (first cap : Array Value) (w : World), (Instr.makeFunc fn first cap).run Tryd.prog w = .ok (.func fn first cap) w := fun _ _ _ _ => rfl
  obtain ⟨z, hz⟩ : ∃ z, w.heap.size = z := ⟨_, rfl⟩
  obtain ⟨W0, hW0, ⟨b0, g0⟩, ⟨b1, g1⟩, X0⟩ := two_new w (.pointer p) (.int .u64 0) 31 26 hz
  have HZ := Lib.hid (show w.heap.size ≤ z + 1 by omega)
  have H := Lib.hid (h.ext X0)
  have B1 := Lib.hid b1; have G1 := Lib.hid g1; have XH := Lib.hid X0
  have bz := cell_lt b0
  clear h g0 b1 g1 X0
  go_enter Tryd.func35, Tryd.ntmps35
  go_wp2_with fail
  clear hW0 hz b0 bz
  refine (body_at_no H.out).mono ?_
  rintro e w1 ⟨rfl, x1⟩
  have c1 := x1.cell B1.out; have f1 := x1.frozenAt B1.out G1.out
  have X1 := Lib.hid x1
  clear x1
  have l1 := cell_lt c1
  go_wp2_with fail
  have d3 := World.cell?_setCell_same w1 ⟨z + 1, 0, none⟩ (.int .u64 0) c1
  refine bodyPost_ret (v := .tuple #[.int .u64 0, .int .i64 1]) (by simp [results, Tryd.results35, go_sem, d3]) rfl ⟨rfl, ?_⟩
  exact (XH.out.trans X1.out).setCell (p := ⟨z + 1, 0, none⟩) HZ.out _
theorem body_Ref_no (h : NoBd w p) : Calls Tryd.prog 9 #[.pointer p, .int .i64 s, .int .i64 i] w fun e w' => e = .returned (.tuple #[.int .i64 0, .int .i64 1]) ∧ Ext w w' := by
  have H := Lib.hid h
  clear h
  go_enter Tryd.func9, Tryd.ntmps9
  go_wp2_with fail
  refine (body_load_no H.out).mono ?_
  rintro e w1 ⟨rfl, x1⟩
  go_wp2_with fail
  go_ret2
  exact ⟨rfl, x1⟩
set_option maxHeartbeats 4000000 in
theorem body_store_no {ref : Bool} (h : NoBd w p) : Calls Tryd.prog 41 #[.pointer p, .bool ref, .int .i64 s, .int .i64 i, .int .u64 x] w fun e w' => e = .returned (.int .i64 1) ∧ Ext w w' := by
  have hmf : ∀ (fn : Fn) (first cap : Array Value) (w : World), (Instr.makeFunc fn first cap).run Tryd.prog w = .ok (.func fn first cap) w := fun _ _ _ _ => rfl
  obtain ⟨z, hz⟩ : ∃ z, w.heap.size = z := ⟨_, rfl⟩
  obtain ⟨W0, hW0, ⟨b0, g0⟩, ⟨b1, g1⟩, X0⟩ := two_new w (.pointer p) (.int .u64 x) 31 26 hz
  have H := Lib.hid (h.ext X0)
  have XH := Lib.hid X0
  have bz := cell_lt b0
  clear h g0 b1 g1 X0
  go_enter Tryd.func41, Tryd.ntmps41
  go_wp2_with fail
  clear hW0 hz b0 bz
  refine (body_at_no H.out).mono ?_
  rintro e w1 ⟨rfl, x1⟩
  go_wp2_with fail
  go_ret
  exact ⟨rfl, XH.out.trans x1⟩
theorem body_SetWord_no (h : NoBd w p) : Calls Tryd.prog 14 #[.pointer p, .int .i64 s, .int .i64 i, .int .u64 x] w fun e w' => e = .returned (.int .i64 1) ∧ Ext w w' := by
  have H := Lib.hid h
  clear h
  go_enter Tryd.func14, Tryd.ntmps14
  go_wp2_with fail
  refine (body_store_no H.out).mono ?_
  rintro e w1 ⟨rfl, x1⟩
  go_wp2_with fail
  go_ret
  exact ⟨rfl, x1⟩
theorem body_SetRef_no (h : NoBd w p) : Calls Tryd.prog 13 #[.pointer p, .int .i64 s, .int .i64 i, .int .i64 to] w fun e w' => e = .returned (.int .i64 1) ∧ w = w' := by
  have H := Lib.hid h
  clear h
  go_enter Tryd.func13, Tryd.ntmps13
  go_wp2_with fail
  refine (body_place_no H.out).mono ?_
  rintro e w1 ⟨rfl, rfl⟩
  go_wp2_with fail
  go_ret
  exact ⟨rfl, rfl⟩
theorem body_Wipe_no (h : NoBd w p) : Calls Tryd.prog 15 #[.pointer p, .int .i64 s] w fun e w' => e = .returned (.int .i64 1) ∧ w = w' := by
  have H := Lib.hid h
  clear h
  go_enter Tryd.func15, Tryd.ntmps15
  go_wp2_with fail
  refine (body_place_no H.out).mono ?_
  rintro e w1 ⟨rfl, rfl⟩
  go_wp2_with fail
  go_ret
  exact ⟨rfl, rfl⟩
theorem body_Refs_no (h : NoBd w p) : Calls Tryd.prog 11 #[.pointer p, .int .i64 s] w fun e w' => e = .returned (.tuple #[.slice none 0 0, .int .i64 1]) ∧ Ext w w' := by
  have hmf : ∀ (fn : Fn) (first cap : Array Value) (w : World), (Instr.makeFunc fn first cap).run Tryd.prog w = .ok (.func fn first cap) w := fun _ _ _ _ => rfl
  have H := Lib.hid h
  clear h
  go_enter Tryd.func11, Tryd.ntmps11
  go_wp2_with fail
  refine (body_Head_no H.out).mono ?_
  rintro e w1 ⟨rfl, x1⟩
  go_wp2_with fail
  go_ret2
  exact ⟨rfl, x1.alloc _⟩
theorem body_Words_no (h : NoBd w p) : Calls Tryd.prog 10 #[.pointer p, .int .i64 s] w fun e w' => e = .returned (.tuple #[.slice none 0 0, .int .i64 1]) ∧ Ext w w' := by
  have hmf : ∀ (fn : Fn) (first cap : Array Value) (w : World), (Instr.makeFunc fn first cap).run Tryd.prog w = .ok (.func fn first cap) w := fun _ _ _ _ => rfl
  have H := Lib.hid h
  clear h
  go_enter Tryd.func10, Tryd.ntmps10
  go_wp2_with fail
  refine (body_Head_no H.out).mono ?_
  rintro e w1 ⟨rfl, x1⟩
  go_wp2_with fail
  go_ret2
  exact ⟨rfl, x1.alloc _⟩

/-! ### New refused -/
theorem body_New_mem0 {q : Option Addr} {n : Int} : Calls Tryd.prog 7 #[.pointer none, .int .i64 n, .pointer q] w fun e w' => e = .returned (.tuple #[.pointer none, .int .i64 1]) ∧ Ext w w' := by
  go_enter Tryd.func7, Tryd.ntmps7
  go_wp2_with fail
  refine (mem_Words_nil (.inl rfl)).mono ?_
  rintro e w1 ⟨rfl, x1⟩
  go_wp2_with fail
  go_ret2
  exact ⟨rfl, x1⟩
theorem body_New_plan0 (hm : MemAt w mb gw gb c ws) (ht : t < c.ts.length) : Calls Tryd.prog 7 #[.pointer (some ⟨mb, 0, none⟩), .int .i64 t, .pointer none] w fun e w' => e = .returned (.tuple #[.pointer none, .int .i64 1]) ∧ Ext w w' := by
  have HM := Lib.hid hm
  have RE := Lib.hid (regErr_ok ht)
  clear hm
  go_enter Tryd.func7, Tryd.ntmps7
  go_wp2_with fail
  refine (mem_Words HM.out RE.out).mono ?_
  rintro e w1 ⟨sv, rfl, hw, x1⟩
  clear hw
  go_wp2_with fail
  refine slot_Slots_nil.mono ?_
  rintro e w2 ⟨rfl, rfl⟩
  go_wp2_with fail
  go_ret2
  exact ⟨rfl, x1⟩
theorem body_New_out {m : Nat} (hn : c.ts.length = m) (hm : MemAt w mb gw gb c ws) (hp : PlanAt w pb gp c t) : Calls Tryd.prog 7 #[.pointer (some ⟨mb, 0, none⟩), .int .i64 m, .pointer (some ⟨pb, 0, none⟩)] w fun e w' => e = .returned (.tuple #[.pointer none, .int .i64 2]) ∧ Ext w w' := by
  have HM := Lib.hid hm; have HP := Lib.hid hp
  have RE := Lib.hid (show regErr c (m : Int) = 2 by rw [← hn]; exact regErr_end c)
  have sp := hp.ok.nS_pos hp.ti; have se := hp.ok.nS_eq hp.ti
  obtain ⟨N, hN⟩ : ∃ N, nS c t = N := ⟨_, rfl⟩
  rw [hN] at sp se
  have SE := Lib.hid se.symm
  have tz : ((N : Int) == 0) = false := by simp; omega
  have tz' : (N == 0) = false := by simp; omega
  clear hm hp hn hN se
  go_enter Tryd.func7, Tryd.ntmps7
  go_wp2_with fail
  refine (mem_Words HM.out RE.out).mono ?_
  rintro e w1 ⟨sv, rfl, hw, x1⟩
  obtain rfl := hw.none (by decide)
  clear hw
  go_wp2_with fail
  refine (slot_SlotsV (N : Int) SE.out (HP.out.ext x1)).mono ?_
  rintro e w2 ⟨rfl, rfl⟩
  go_wp2_with fail
  go_ret2
  exact ⟨rfl, x1⟩

end Go.Proofs.YtnbngcagnchkdaaDoor

/-! commonagelaw11: BodyNone. (Printed by wip/gen11s.py.) -/
namespace Go.Proofs.YtnbngcagnchkdaaDoor
open Go.RowKit
variable {w w' W : World}
theorem slot_NewI {ca ta : Option Addr} {cc tc : Nat} {i : Nat} (c : Conf) (n : Int) (hn : n = i) (hk0 : kcheck c = 0) (hi : i < c.ts.length) (h : CfgAt w ca ta cc tc c) :
    Calls Tryd.prog 6 #[.agg #[.slice ca c.cl.length cc, .int .i64 c.page, .slice ta c.ts.length tc, .int .i64 c.wk, .int .i64 c.gr, .int .i64 c.gens], .int .i64 n] w (PlanNew c i w) := by
  subst hn; exact slot_New c i hk0 hi h
theorem body_New_plan0I {n : Int} {c : Conf} {t mb gw gb : Nat} {ws : List Int} (hn : n = t) (hm : MemAt w mb gw gb c ws) (ht : t < c.ts.length) : Calls Tryd.prog 7 #[.pointer (some ⟨mb, 0, none⟩), .int .i64 n, .pointer none] w fun e w' => e = .returned (.tuple #[.pointer none, .int .i64 1]) ∧ Ext w w' := by
  subst hn; exact body_New_plan0 hm ht

set_option maxRecDepth 100000 in
set_option maxHeartbeats 32000000 in
theorem law11_BodyNone {ca0 ta : Option Addr} {cc0 tc : Nat} (c : Conf) (y : OAct) (w : World) (hW : Wid w) (h : CfgAt w ca0 ta cc0 tc c) :
    Calls Tryd.prog 3 #[.agg #[.slice ca0 c.cl.length cc0, .int .i64 c.page, .slice ta c.ts.length tc, .int .i64 c.wk, .int .i64 c.gr, .int .i64 c.gens], .agg #[.int .u8 y.what, .int .i64 y.slot, .int .i64 y.i, .int .i64 y.to, .int .u64 y.w, .int .i64 y.hc, .int .i64 y.hr, .int .i64 y.hw]] w fun e w' => e = .returned (.bool true) ∧ Ext w w' := by
  have H := Lib.hid h; have HW := Lib.hid hW
  clear h hW
  obtain ⟨z, hz⟩ : ∃ z, w.heap.size = z := ⟨_, rfl⟩
  obtain ⟨W0, hW0, hB0, hY0, hX0⟩ := ba2 w hz ca0 ta cc0 tc c y
  have X0 := Lib.hid hX0; have B0 := Lib.hid hB0; have Y0 := Lib.hid hY0
  clear hX0 hB0 hY0
  have b0 := B0.out.c 0 _ rfl; have b1 := B0.out.c 1 _ rfl; have b2 := B0.out.c 2 _ rfl; have b3 := B0.out.c 3 _ rfl; have b4 := B0.out.c 4 _ rfl; have b5 := B0.out.c 5 _ rfl
  have bz := B0.out.lt
  by_cases hg : bigB c = false ∧ kcheck c = 0
  · obtain ⟨hg, h0⟩ := hg
    have ho := kcheck_ok h0
    have hi : 0 < c.ts.length := ho.head.2.2.1
    have CM := Lib.hid (law11_made (t := 0) c 0 (HW.out.ext X0.out) hg h0 (by decide) hi (by simp) (H.out.ext X0.out))
    obtain ⟨t, ht⟩ : ∃ t, 0 = t := ⟨0, rfl⟩
    rw [ht] at CM hi
    have H00 := Lib.hid h0; have HT := Lib.hid ht.symm
    clear hg h0 ho ht
    go_enter Tryd.func3, Tryd.ntmps3
    go_wp2_with fail
    clear hW0 hz b0 b1 b2 b3 b4 b5 bz
    refine CM.out.mono ?_
    rintro e w1 ⟨bb, mm, gw, gb, pb, gp, d0, cap0, lb, lc, fb, fc, mb, mc, rfl, hb, hd, x1, hg⟩
    have HB := Lib.hid hb; have HD := Lib.hid hd; have X1 := Lib.hid x1; have HG := Lib.hid hg
    clear CM hb hd x1 hg
    go_upto_region 2 with fail
    obtain ⟨W1, hW1⟩ : ∃ W, w1.alloc (.cells #[.slice (some ⟨d0, 0, none⟩) c.ts.length cap0, .int .i64 t, .slice (some ⟨lb, 0, none⟩) (nS c t) lc, .slice (some ⟨fb, 0, none⟩) (nG c t) fc, .slice (some ⟨mb, 0, none⟩) (nG c t) mc, .int .i64 (wordsOf c t), .slice ca0 c.cl.length cc0] 40) = W := ⟨_, rfl⟩
    have xw : Ext w1 W1 := by rw [← hW1]; exact (Ext.refl _).alloc _
    have XA := Lib.hid (X1.out.trans xw)
    have MM := Lib.hid (HB.out.mem.ext xw)
    have WA := Lib.hid (HB.out.wid.ext xw)
    rw [hW1]
    clear HB HD X1 HG hW1 xw
    have zbx := B0.out.ext XA.out
    have b0 := zbx.c 0 _ rfl; have b1 := zbx.c 1 _ rfl; have b2 := zbx.c 2 _ rfl; have b3 := zbx.c 3 _ rfl; have b4 := zbx.c 4 _ rfl; have b5 := zbx.c 5 _ rfl
    have bz := zbx.lt
    clear zbx
    have CP := Lib.hid (slot_NewI (i := t) c 0 (by rw [HT.out]; rfl) H00.out hi (H.out.ext (X0.out.trans XA.out)))
    go_wp2_with fail
    refine CP.out.mono ?_
    clear CP b0 b1 b2 b3 b4 b5 bz
    rintro e w2 ⟨pb', gp', rfl, hp, x2⟩
    replace XA := Lib.hid (XA.out.trans x2)
    replace MM := Lib.hid (MM.out.ext x2)
    replace WA := Lib.hid (WA.out.ext x2)
    have PP := Lib.hid hp
    clear hp x2
    go_wp2_with fail
    refine (body_New_mem0 (q := some ⟨pb', 0, none⟩)).mono ?_
    rintro e w3 ⟨rfl, x3⟩
    replace XA := Lib.hid (XA.out.trans x3)
    replace MM := Lib.hid (MM.out.ext x3); replace WA := Lib.hid (WA.out.ext x3); replace PP := Lib.hid (PP.out.ext x3)
    clear x3
    go_wp2_with fail
    refine (body_New_plan0I (n := 0) (t := t) (by rw [HT.out]; rfl) MM.out hi).mono ?_
    rintro e w4 ⟨rfl, x4⟩
    replace XA := Lib.hid (XA.out.trans x4)
    replace MM := Lib.hid (MM.out.ext x4); replace WA := Lib.hid (WA.out.ext x4); replace PP := Lib.hid (PP.out.ext x4)
    clear x4
    have zbx := B0.out.ext XA.out
    have b0 := zbx.c 0 _ rfl; have b1 := zbx.c 1 _ rfl; have b2 := zbx.c 2 _ rfl; have b3 := zbx.c 3 _ rfl; have b4 := zbx.c 4 _ rfl; have b5 := zbx.c 5 _ rfl
    have bz := zbx.lt
    clear zbx
    go_wp2_with fail
    refine (body_New_out rfl MM.out PP.out).mono ?_
    rintro e w5 ⟨rfl, x5⟩
    replace XA := Lib.hid (XA.out.trans x5)
    replace WA := Lib.hid (WA.out.ext x5)
    clear x5 b0 b1 b2 b3 b4 b5 bz MM PP
    go_upto_region 10 with fail
    obtain ⟨W6, hW6⟩ : ∃ W, w5.alloc (.cells #[.pointer none, .int .i64 0, .pointer none] 51) = W := ⟨_, rfl⟩
    obtain ⟨zb, hzb⟩ : ∃ zb, w5.heap.size = zb := ⟨_, rfl⟩
    have x6 : Ext w5 W6 := by rw [← hW6]; exact (Ext.refl _).alloc _
    have ZB : Hid (NoBd W6 (some ⟨zb, 0, none⟩)) := Lib.hid (.inr ⟨zb, rfl, by rw [← hW6]; exact (BoxG.new w5 [.pointer none, .int .i64 0, .pointer none] _ hzb).c 0 _ rfl⟩)
    rw [hW6, hzb]
    replace XA := Lib.hid (XA.out.trans x6)
    replace WA := Lib.hid (WA.out.ext x6)
    clear x6 hW6 hzb
    have ybx := Y0.out.ext XA.out
    have y0 := ybx.c 0 _ rfl; have y1 := ybx.c 1 _ rfl; have y2 := ybx.c 2 _ rfl; have y3 := ybx.c 3 _ rfl; have y4 := ybx.c 4 _ rfl; have y5 := ybx.c 5 _ rfl; have y6 := ybx.c 6 _ rfl; have y7 := ybx.c 7 _ rfl
    have ly := ybx.lt
    clear ybx
    go_wp2_with fail
    refine (body_Head_no (p := none) (.inl rfl)).mono ?_
    rintro e v1 ⟨rfl, x1⟩
    replace XA := Lib.hid (XA.out.trans x1); replace ZB := Lib.hid (ZB.out.ext x1); replace WA := Lib.hid (WA.out.ext x1)
    clear x1
    clear y0 y1 y2 y3 y4 y5 y6 y7 ly
    go_upto_region 11 with fail
    obtain ⟨W7, hW7⟩ : ∃ W, v1.alloc (.cells #[.int .i64 0, .int .i64 0, .int .i64 0] 28) = W := ⟨_, rfl⟩
    have x7 : Ext v1 W7 := by rw [← hW7]; exact (Ext.refl _).alloc _
    rw [hW7]
    replace XA := Lib.hid (XA.out.trans x7); replace ZB := Lib.hid (ZB.out.ext x7); replace WA := Lib.hid (WA.out.ext x7)
    clear x7 hW7
    have ybx := Y0.out.ext XA.out
    have y0 := ybx.c 0 _ rfl; have y1 := ybx.c 1 _ rfl; have y2 := ybx.c 2 _ rfl; have y3 := ybx.c 3 _ rfl; have y4 := ybx.c 4 _ rfl; have y5 := ybx.c 5 _ rfl; have y6 := ybx.c 6 _ rfl; have y7 := ybx.c 7 _ rfl
    have ly := ybx.lt
    clear ybx
    go_wp2_with fail
    refine (body_Ref_no ZB.out).mono ?_
    rintro e v2 ⟨rfl, x2⟩
    replace XA := Lib.hid (XA.out.trans x2); replace ZB := Lib.hid (ZB.out.ext x2); replace WA := Lib.hid (WA.out.ext x2)
    clear x2
    clear y0 y1 y2 y3 y4 y5 y6 y7 ly
    have ybx := Y0.out.ext XA.out
    have y0 := ybx.c 0 _ rfl; have y1 := ybx.c 1 _ rfl; have y2 := ybx.c 2 _ rfl; have y3 := ybx.c 3 _ rfl; have y4 := ybx.c 4 _ rfl; have y5 := ybx.c 5 _ rfl; have y6 := ybx.c 6 _ rfl; have y7 := ybx.c 7 _ rfl
    have ly := ybx.lt
    clear ybx
    go_wp2_with fail
    refine (body_Words_no (p := none) (.inl rfl)).mono ?_
    rintro e v3 ⟨rfl, x3⟩
    replace XA := Lib.hid (XA.out.trans x3); replace ZB := Lib.hid (ZB.out.ext x3); replace WA := Lib.hid (WA.out.ext x3)
    clear x3
    clear y0 y1 y2 y3 y4 y5 y6 y7 ly
    have ybx := Y0.out.ext XA.out
    have y0 := ybx.c 0 _ rfl; have y1 := ybx.c 1 _ rfl; have y2 := ybx.c 2 _ rfl; have y3 := ybx.c 3 _ rfl; have y4 := ybx.c 4 _ rfl; have y5 := ybx.c 5 _ rfl; have y6 := ybx.c 6 _ rfl; have y7 := ybx.c 7 _ rfl
    have ly := ybx.lt
    clear ybx
    go_wp2_with fail
    refine (body_Refs_no ZB.out).mono ?_
    rintro e v4 ⟨rfl, x4⟩
    replace XA := Lib.hid (XA.out.trans x4); replace ZB := Lib.hid (ZB.out.ext x4); replace WA := Lib.hid (WA.out.ext x4)
    clear x4
    clear y0 y1 y2 y3 y4 y5 y6 y7 ly
    have ybx := Y0.out.ext XA.out
    have y0 := ybx.c 0 _ rfl; have y1 := ybx.c 1 _ rfl; have y2 := ybx.c 2 _ rfl; have y3 := ybx.c 3 _ rfl; have y4 := ybx.c 4 _ rfl; have y5 := ybx.c 5 _ rfl; have y6 := ybx.c 6 _ rfl; have y7 := ybx.c 7 _ rfl
    have ly := ybx.lt
    clear ybx
    have CK := Lib.hid (fun W : World => body_Make_no (p := none) (w := W) (s := y.slot) (hd := ⟨y.hc, y.hr, y.hw⟩) (.inl rfl))
    dsimp only at CK
    go_wp2_with fail
    refine (CK.out _).mono ?_
    rintro e v5 ⟨rfl, x5⟩
    replace XA := Lib.hid (XA.out.trans x5); replace ZB := Lib.hid (ZB.out.ext x5); replace WA := Lib.hid (WA.out.ext x5)
    clear x5 CK
    clear y0 y1 y2 y3 y4 y5 y6 y7 ly
    have ybx := Y0.out.ext XA.out
    have y0 := ybx.c 0 _ rfl; have y1 := ybx.c 1 _ rfl; have y2 := ybx.c 2 _ rfl; have y3 := ybx.c 3 _ rfl; have y4 := ybx.c 4 _ rfl; have y5 := ybx.c 5 _ rfl; have y6 := ybx.c 6 _ rfl; have y7 := ybx.c 7 _ rfl
    have ly := ybx.lt
    clear ybx
    go_wp2_with fail
    refine (body_SetRef_no ZB.out).mono ?_
    rintro e v ⟨rfl, rfl⟩
    clear y0 y1 y2 y3 y4 y5 y6 y7 ly
    have ybx := Y0.out.ext XA.out
    have y0 := ybx.c 0 _ rfl; have y1 := ybx.c 1 _ rfl; have y2 := ybx.c 2 _ rfl; have y3 := ybx.c 3 _ rfl; have y4 := ybx.c 4 _ rfl; have y5 := ybx.c 5 _ rfl; have y6 := ybx.c 6 _ rfl; have y7 := ybx.c 7 _ rfl
    have ly := ybx.lt
    clear ybx
    go_wp2_with fail
    refine (body_SetWord_no (p := none) (.inl rfl)).mono ?_
    rintro e v7 ⟨rfl, x7⟩
    replace XA := Lib.hid (XA.out.trans x7); replace ZB := Lib.hid (ZB.out.ext x7); replace WA := Lib.hid (WA.out.ext x7)
    clear x7
    clear y0 y1 y2 y3 y4 y5 y6 y7 ly
    have ybx := Y0.out.ext XA.out
    have y0 := ybx.c 0 _ rfl; have y1 := ybx.c 1 _ rfl; have y2 := ybx.c 2 _ rfl; have y3 := ybx.c 3 _ rfl; have y4 := ybx.c 4 _ rfl; have y5 := ybx.c 5 _ rfl; have y6 := ybx.c 6 _ rfl; have y7 := ybx.c 7 _ rfl
    have ly := ybx.lt
    clear ybx
    go_wp2_with fail
    refine (body_Wipe_no ZB.out).mono ?_
    rintro e v ⟨rfl, rfl⟩
    clear y0 y1 y2 y3 y4 y5 y6 y7 ly
    go_wp2_with fail
    refine (law11_awake _ WA.out).mono ?_
    rintro e v9 ⟨rfl, x9⟩
    go_wp2_with fail
    go_ret
    exact ⟨rfl, X0.out.trans (XA.out.trans x9)⟩
  · have CM := Lib.hid (law11_made_no c 0 (by
      by_cases h1 : bigB c = true
      · exact .inl h1
      · exact .inr fun h2 => hg ⟨by simpa using h1, h2⟩) (H.out.ext X0.out))
    clear hg
    go_enter Tryd.func3, Tryd.ntmps3
    go_wp2_with fail
    clear hW0 hz b0 b1 b2 b3 b4 b5 bz
    refine CM.out.mono ?_
    rintro e w1 ⟨rfl, x1⟩
    have X1 := Lib.hid x1
    clear x1 CM
    go_wp2_with fail
    refine (law11_awake _ (HW.out.ext (X0.out.trans (X1.out.trans ((Ext.refl _).alloc _))))).mono ?_
    rintro e w2 ⟨rfl, x2⟩
    go_wp2_with fail
    go_ret
    exact ⟨rfl, X0.out.trans (X1.out.trans (((Ext.refl _).alloc _).trans x2))⟩

end Go.Proofs.YtnbngcagnchkdaaDoor

/-! What a literal's being well formed says of numbers. -/
namespace Go.Proofs.YtnbngcagnchkdaaDoor

theorem wf8 {n : Int} (h : (Lit.int .u8 n).wf = true) : 0 ≤ n ∧ n ≤ 255 := by
  simp [Lit.wf, IntKind.min, IntKind.max, IntKind.signed, IntKind.bits] at h; omega
theorem wf16 {n : Int} (h : (Lit.int .u16 n).wf = true) : 0 ≤ n ∧ n ≤ 65535 := by
  simp [Lit.wf, IntKind.min, IntKind.max, IntKind.signed, IntKind.bits] at h; omega
theorem wf32 {n : Int} (h : (Lit.int .u32 n).wf = true) : 0 ≤ n ∧ n ≤ 4294967295 := by
  simp [Lit.wf, IntKind.min, IntKind.max, IntKind.signed, IntKind.bits] at h; omega
theorem wfi {n : Int} (h : (Lit.int .i64 n).wf = true) : -9223372036854775808 ≤ n ∧ n ≤ 9223372036854775807 := by
  simp [Lit.wf, IntKind.min, IntKind.max, IntKind.signed, IntKind.bits] at h; omega
theorem wf64 {n : Int} (h : (Lit.int .u64 n).wf = true) : 0 ≤ n ∧ n < 18446744073709551616 := by
  simp [Lit.wf, IntKind.min, IntKind.max, IntKind.signed, IntKind.bits] at h; omega

end Go.Proofs.YtnbngcagnchkdaaDoor

/-! What the condition 'this package variable reads as these numbers' gives: the variable's cells. -/
namespace Go.Proofs.YtnbngcagnchkdaaDoor
open Go.ChangeShapes Go.WideShapes Go.ChangeAt Go.RowKit

/-- The datum of a row of numbers. -/
def nums {H : Type} (k : IntKind) (zs : List Int) : DataW H := .agg (zs.map fun z => .lit (.int k z))

theorem var_ints {P : Program} {name : String} {k : IntKind} {zs : List Int} {W : World} {t e : TypeId} {n g : Nat} (h : laidMetH P [(name, nums k zs)] W)
    (hg : P.globalNamed name = some g) (ht : (P.globals[g]?).map (·.type) = some t) (hu : P.underlying t = some (.array n e)) (he : P.underlying e = some (.int k)) (hc : P.cellsOf e = 1) (hn : zs.length = n) :
    ∀ i, i < n → W.cell? ⟨g, i, none⟩ = some (.int k (nth zs i)) := by
  rw [MakeChecks.laidMetH_plain _ _ _ (by rfl)] at h
  obtain ⟨ps, ⟨g0, t0, cs0, f0, p0, q0, hg0, ht0, hv0, hd0, _, _⟩, _, _⟩ := h
  obtain rfl := Option.some.inj (hg.symm.trans hg0)
  obtain rfl := Option.some.inj (ht.symm.trans ht0)
  obtain ⟨xs, m, rfl, hx, hlen, hn3, hel⟩ := DataW.trod_array hu hd0
  simp only [Prod.mk.injEq, nums, DataW.agg.injEq] at hx
  intro i hi
  have hi' := hel i hi
  rw [hc, Nat.mul_one] at hi'
  have hxi : i < xs.length := by omega
  rw [List.getElem?_eq_getElem hxi] at hi'
  obtain ⟨z, e1, e2, _⟩ := DataW.trod_int he hi'
  have hz : z = nth zs i := by
    have h1 := congrArg (fun l => l[i]?) hx.1
    simp only [List.getElem?_map, List.getElem?_eq_getElem hxi, List.getElem?_eq_getElem (show i < zs.length by omega), Option.map_some, Option.some.injEq] at h1
    rw [e2] at h1
    have : zs[i] = z := by simpa using h1
    rw [← this]; simp [nth, List.getD, show i < zs.length by omega]
  rw [World.var?_cell hg0 hv0 i, ← hz]
  obtain ⟨l⟩ := cs0
  have e3 : (l.drop i).take 1 = [.int k z] := e1
  have e4 : (l.drop i).head? = some (.int k z) := by
    cases hd : l.drop i with
    | nil => rw [hd] at e3; cases e3
    | cons a r => rw [hd] at e3; simp at e3; simp [e3]
  rw [List.head?_drop] at e4
  simpa using e4

end Go.Proofs.YtnbngcagnchkdaaDoor

/-! Acts (commonagelaw11.Act), rows of words among a law's arguments, opened; the package variable head.widths. -/
namespace Go.Proofs.YtnbngcagnchkdaaDoor
open Go.ChangeShapes Go.WideShapes Go.ChangeAt Go.RowKit Go.Deep

theorem cells_bact : Tryd.prog.cellsOf 30 = 8 := by kernel_rfl
theorem cells_bhead : Tryd.prog.cellsOf 28 = 3 := by kernel_rfl
theorem cells_bint : Tryd.prog.cellsOf 3 = 1 := by kernel_rfl
theorem cells_bu8 : Tryd.prog.cellsOf 5 = 1 := by kernel_rfl
theorem cells_bu64 : Tryd.prog.cellsOf 26 = 1 := by kernel_rfl

set_option maxRecDepth 100000 in
/-- The cells of an act. -/
theorem trod_OAct {H : Type} {enc : TypeId × Value → H} {w : World} {base m : Nat} {e0 e1 e2 e3 e4 e5 e6 e7 : Value} {y : DataW H × List MemPlace}
    (h : DataW.trod enc Tryd.prog w base (fun _ => true) true m 30 [e0, e1, e2, e3, e4, e5, e6, e7] = some y) :
    ∃ t : OAct, t.Ok ∧ e0 = .int .u8 t.what ∧ e1 = .int .i64 t.slot ∧ e2 = .int .i64 t.i ∧ e3 = .int .i64 t.to ∧ e4 = .int .u64 t.w ∧ e5 = .int .i64 t.hc ∧ e6 = .int .i64 t.hr ∧ e7 = .int .i64 t.hw := by
  obtain ⟨xs, n2, _, _, _, hlen, hg⟩ := DataW.trod_struct Tryd.underlying30 h
  match xs, hlen with
  | [y0, y1, y2, y3, y4, y5], _ =>
    have g0 := hg 0 _ rfl
    have g1 := hg 1 _ rfl
    have g2 := hg 2 _ rfl
    have g3 := hg 3 _ rfl
    have g4 := hg 4 _ rfl
    have g5 := hg 5 _ rfl
    simp [cells_bint, cells_bu8, cells_bu64, cells_bhead] at g0 g1 g2 g3 g4 g5
    obtain ⟨zs, n3, _, _, _, hlen2, hk⟩ := DataW.trod_struct Tryd.underlying28 g5
    match zs, hlen2 with
    | [z0, z1, z2], _ =>
      have g5 := hk 0 _ rfl
      have g6 := hk 1 _ rfl
      have g7 := hk 2 _ rfl
      simp [cells_bint] at g5 g6 g7
      obtain ⟨q0, r0, _, w0⟩ := DataW.trod_int Tryd.underlying5 g0
      obtain ⟨q1, r1, _, w1⟩ := DataW.trod_int Tryd.underlying3 g1
      obtain ⟨q2, r2, _, w2⟩ := DataW.trod_int Tryd.underlying3 g2
      obtain ⟨q3, r3, _, w3⟩ := DataW.trod_int Tryd.underlying3 g3
      obtain ⟨q4, r4, _, w4⟩ := DataW.trod_int Tryd.underlying26 g4
      obtain ⟨q5, r5, _, w5⟩ := DataW.trod_int Tryd.underlying3 g5
      obtain ⟨q6, r6, _, w6⟩ := DataW.trod_int Tryd.underlying3 g6
      obtain ⟨q7, r7, _, w7⟩ := DataW.trod_int Tryd.underlying3 g7
      simp at r0 r1 r2 r3 r4 r5 r6 r7
      exact ⟨⟨q0, q1, q2, q3, q4, q5, q6, q7⟩, ⟨wf8 w0, wfi w1, wfi w2, wfi w3, wf64 w4, wfi w5, wfi w6, wfi w7⟩, r0, r1, r2, r3, r4, r5, r6, r7⟩

set_option maxRecDepth 100000 in
/-- An act by itself. -/
theorem open_oact {H : Type} {enc : TypeId × Value → H} {w : World} {base b0 : Nat} {v : Value} {d : DataW H} {p : List MemPlace}
    (hv : Value.okWide Tryd.prog w .any b0 30 v) (h : DataW.Trod enc Tryd.prog w base (fun _ => true) true 30 v d p) :
    ∃ x : OAct, v = .agg #[.int .u8 x.what, .int .i64 x.slot, .int .i64 x.i, .int .i64 x.to, .int .u64 x.w, .int .i64 x.hc, .int .i64 x.hr, .int .i64 x.hw] ∧ x.Ok := by
  obtain ⟨cs, rfl, hsz⟩ := okWide_struct Tryd.underlying30 hv
  obtain ⟨l⟩ := cs
  have hl : l.length = 8 := by rw [cells_bact] at hsz; simpa using hsz
  obtain ⟨fuel, hf⟩ := h
  match l, hl with
  | [e0, e1, e2, e3, e4, e5, e6, e7], _ =>
    obtain ⟨t, ok, rfl, rfl, rfl, rfl, rfl, rfl, rfl, rfl⟩ := trod_OAct hf
    exact ⟨t, rfl, ok⟩

theorem choose_OAct {n : Nat} {Q : Nat → OAct → Prop} (h : ∀ i, i < n → ∃ t, Q i t) : ∃ ts : List OAct, ts.length = n ∧ ∀ i, i < n → Q i (oActnth ts i) := by
  induction n with
  | zero => exact ⟨[], rfl, fun i hi => absurd hi (Nat.not_lt_zero _)⟩
  | succ n ih =>
    obtain ⟨ts, hl, hq⟩ := ih fun i hi => h i (by omega)
    obtain ⟨t, ht⟩ := h n (by omega)
    refine ⟨ts ++ [t], by simp [hl], fun i hi => ?_⟩
    rcases Nat.lt_or_ge i n with c | c
    · have : oActnth (ts ++ [t]) i = oActnth ts i := by simp [oActnth, List.getD, List.getElem?_append, hl, c]
      rw [this]; exact hq i c
    · obtain rfl : i = n := by omega
      have : oActnth (ts ++ [t]) i = t := by simp [oActnth, List.getD, ← hl]
      rw [this]; exact ht
theorem oAct_spot {w : World} {a : Addr} {v : Value} (h : w.cell? a = some v) : a.spot = none := by
  obtain ⟨b, o, s⟩ := a
  cases s with
  | none => rfl
  | some s =>
    simp [World.cell?] at h
    split at h <;> cases h
set_option maxRecDepth 100000 in
/-- A row of words. -/
theorem open_u64s {H : Type} {enc : TypeId × Value → H} {w : World} {base b0 : Nat} {v : Value} {d : DataW H} {p : List MemPlace}
    (hv : Value.okWide Tryd.prog w .any b0 56 v) (h : DataW.Trod enc Tryd.prog w base (fun _ => true) true 56 v d p) :
    ∃ (a : Option Addr) (cap : Nat) (l : List Int), v = .slice a l.length cap ∧ At .u64 w a l ∧ l.length ≤ maxLen ∧ ∀ x ∈ l, 0 ≤ x ∧ x < 18446744073709551616 := by
  obtain ⟨a, len, cap, rfl⟩ := okWide_slice Tryd.underlying56 hv
  obtain ⟨fuel, hf⟩ := h
  have key : ∃ zs : List Int, (a = none ∧ len = 0 ∧ cap = 0 ∧ zs = []) ∨ ∃ x, a = some x ∧ len ≤ cap ∧ cap ≤ maxLen ∧ zs.length = cap ∧ (∀ i, i < zs.length → w.cell? (x.add i) = some (.int .u64 (zs.getD i 0))) ∧ ∀ n ∈ zs, (Lit.int .u64 n).wf = true := by
    rcases open_ints Tryd.underlying56 Tryd.underlying26 (by kernel_rfl) hf with ⟨hcs, _⟩ | ⟨x, l, c, zs, hcs, _, hl, hm, hz, _, hcell, hwz⟩
    · simp [Value.cells] at hcs
      obtain ⟨rfl, rfl, rfl⟩ := hcs
      exact ⟨[], .inl ⟨rfl, rfl, rfl, rfl⟩⟩
    · simp [Value.cells] at hcs
      obtain ⟨rfl, rfl, rfl⟩ := hcs
      exact ⟨zs, .inr ⟨_, rfl, hl, hm, by simpa using hz, hcell, hwz⟩⟩
  obtain ⟨zs, hz⟩ := key
  obtain ⟨h1, h2, h3, h4⟩ := At.of_row hz
  exact ⟨a, cap, zs.take len, by rw [h2], h1, by rw [h2]; exact h3, fun x hx => wf64 (h4 x hx)⟩

theorem wid_of_laid {W : World} (h : laidMetH Tryd.prog [("commonage/head.widths", Rows.laid_commonage_head_widths)] W) : Wid W := by
  have k := var_ints (k := .i64) (zs := hdws) (t := 114) (e := 3) (n := 5) (g := 0) h (by kernel_rfl) (by kernel_rfl) Tryd.underlying114 Tryd.underlying3 (by kernel_rfl) rfl
  exact ⟨k 0 (by decide), k 1 (by decide), k 2 (by decide), k 3 (by decide), k 4 (by decide)⟩

end Go.Proofs.YtnbngcagnchkdaaDoor

/-! A configuration among a law's arguments, opened: the value as it stands in the walks, and where its classes and tenants lie. -/
namespace Go.Proofs.YtnbngcagnchkdaaDoor
open Go.ChangeShapes Go.WideShapes Go.ChangeAt Go.RowKit Go.Deep

theorem wf_u8 {n : Int} (h : (Lit.int .u8 n).wf = true) : 0 ≤ n ∧ n ≤ 255 := by
  simp [Lit.wf, IntKind.min, IntKind.max, IntKind.signed, IntKind.bits] at h; omega
theorem wf_i64 {n : Int} (h : (Lit.int .i64 n).wf = true) : -9223372036854775808 ≤ n ∧ n ≤ 9223372036854775807 := by
  simp [Lit.wf, IntKind.min, IntKind.max, IntKind.signed, IntKind.bits] at h; omega
theorem wf_u64 {n : Int} (h : (Lit.int .u64 n).wf = true) : 0 ≤ n ∧ n ≤ 18446744073709551615 := by
  simp [Lit.wf, IntKind.min, IntKind.max, IntKind.signed, IntKind.bits] at h; omega

theorem cells_cfg : Tryd.prog.cellsOf 25 = 6 := by kernel_rfl
theorem cells_ten : Tryd.prog.cellsOf 76 = 4 := by kernel_rfl
theorem cells_ints : Tryd.prog.cellsOf 22 = 1 := by kernel_rfl
theorem cells_tens : Tryd.prog.cellsOf 23 = 1 := by kernel_rfl
theorem cells_int : Tryd.prog.cellsOf 3 = 1 := by kernel_rfl

theorem choose_tens {n : Nat} {Q : Nat → Ten → Prop} (h : ∀ i, i < n → ∃ t, Q i t) : ∃ ts : List Ten, ts.length = n ∧ ∀ i, i < n → Q i (tnth ts i) := by
  induction n with
  | zero => exact ⟨[], rfl, fun i hi => absurd hi (Nat.not_lt_zero _)⟩
  | succ n ih =>
    obtain ⟨ts, hl, hq⟩ := ih fun i hi => h i (by omega)
    obtain ⟨t, ht⟩ := h n (by omega)
    refine ⟨ts ++ [t], by simp [hl], fun i hi => ?_⟩
    rcases Nat.lt_or_ge i n with c | c
    · have : tnth (ts ++ [t]) i = tnth ts i := by simp [tnth, List.getD, List.getElem?_append, hl, c]
      rw [this]; exact hq i c
    · obtain rfl : i = n := by omega
      have : tnth (ts ++ [t]) i = t := by simp [tnth, List.getD, ← hl]
      rw [this]; exact ht

theorem spot_none {w : World} {a : Addr} {v : Value} (h : w.cell? a = some v) : a.spot = none := by
  obtain ⟨b, o, s⟩ := a
  cases s with
  | none => rfl
  | some s =>
    simp [World.cell?] at h
    split at h <;> cases h

set_option maxRecDepth 100000 in
/-- Tenants among what was read. -/
theorem open_tens {H : Type} {enc : TypeId × Value → H} {w : World} {base n : Nat} {c0 : Value} {y : DataW H × List MemPlace} (h : DataW.trod enc Tryd.prog w base (fun _ => true) true n 23 [c0] = some y) :
    ∃ ta len tc ts, c0 = .slice ta len tc ∧ ts.length = len ∧ TenAt w ta ts ∧ len ≤ tc ∧ tc ≤ maxLen := by
  rcases open_slice Tryd.underlying23 h with ⟨h0, _⟩ | ⟨a, len, cap, m, n', D, Pl, hcs, _, hl, hm, hmm, _, hi⟩
  · simp at h0
    exact ⟨none, 0, 0, [], h0, rfl, fun i hi => absurd hi (Nat.not_lt_zero _), Nat.le_refl _, by decide⟩
  · simp at hcs hmm
    subst hmm
    have key : ∀ i, i < len → ∃ t : Ten, w.cell? (a.add (i * 4)) = some (.int .i64 t.q) ∧ w.cell? ((a.add (i * 4)).add 1) = some (.int .i64 t.tr) ∧ w.cell? ((a.add (i * 4)).add 2) = some (.int .i64 t.cp) ∧ w.cell? ((a.add (i * 4)).add 3) = some (.int .i64 t.sst) := by
      intro i hi'
      obtain ⟨cs', hc, ht⟩ := hi i (by omega)
      rw [cells_ten] at hc
      obtain ⟨_, hcl, hat⟩ := World.cells?_some hc
      obtain ⟨xs, n2, _, _, _, hlen, hg⟩ := DataW.trod_struct Tryd.underlying76 ht
      match cs', hcl with
      | [e0, e1, e2, e3], _ =>
        match xs, hlen with
        | [y0, y1, y2, y3], _ =>
          have g0 := hg 0 _ rfl
          have g1 := hg 1 _ rfl
          have g2 := hg 2 _ rfl
          have g3 := hg 3 _ rfl
          simp [cells_int] at g0 g1 g2 g3
          obtain ⟨q0, r0, _, _⟩ := DataW.trod_int Tryd.underlying3 g0
          obtain ⟨q1, r1, _, _⟩ := DataW.trod_int Tryd.underlying3 g1
          obtain ⟨q2, r2, _, _⟩ := DataW.trod_int Tryd.underlying3 g2
          obtain ⟨q3, r3, _, _⟩ := DataW.trod_int Tryd.underlying3 g3
          have k0 := hat 0 (by omega)
          have k1 := hat 1 (by omega)
          have k2 := hat 2 (by omega)
          have k3 := hat 3 (by omega)
          simp at r0 r1 r2 r3 k0 k1 k2 k3
          refine ⟨⟨q0, q1, q2, q3⟩, ?_, ?_, ?_, ?_⟩
          · simpa [r0, Addr.add] using k0
          · rw [k1, r1]
          · rw [k2, r2]
          · rw [k3, r3]
    obtain ⟨ts, hts, hq⟩ := choose_tens key
    refine ⟨some a, len, _, ts, hcs, hts, ?_, hl, hm⟩
    intro i hi'
    have hs : a.spot = none := by
      have := (hq 0 (by omega)).1
      exact spot_none (by simpa [Addr.add] using this)
    obtain ⟨b, o, s⟩ := a
    cases hs
    obtain ⟨u0, u1, u2, u3⟩ := hq i (by omega)
    rw [Addr.add_lit] at u0 u1 u2 u3
    rw [Addr.add_lit] at u1 u2 u3
    exact ⟨b, o, rfl, u0, u1, u2, u3⟩

set_option maxRecDepth 100000 in
theorem open_cfg {H : Type} {enc : TypeId × Value → H} {w : World} {base b0 : Nat} {v : Value} {d : DataW H} {p : List MemPlace}
    (hv : Value.okWide Tryd.prog w .any b0 25 v) (h : DataW.Trod enc Tryd.prog w base (fun _ => true) true 25 v d p) :
    ∃ ca ta cc tc c, v = .agg #[.slice ca c.cl.length cc, .int .i64 c.page, .slice ta c.ts.length tc, .int .i64 c.wk, .int .i64 c.gr, .int .i64 c.gens] ∧ CfgAt w ca ta cc tc c := by
  obtain ⟨cs, rfl, hsz⟩ := okWide_struct Tryd.underlying25 hv
  obtain ⟨l⟩ := cs
  have hl6 : l.length = 6 := by rw [cells_cfg] at hsz; simpa using hsz
  obtain ⟨fuel, hf⟩ := h
  obtain ⟨xs, n, _, _, _, hlen, hg⟩ := DataW.trod_struct Tryd.underlying25 hf
  match l, hl6 with
  | [c0, c1, c2, c3, c4, c5], _ =>
    match xs, hlen with
    | [y0, y1, y2, y3, y4, y5], _ =>
      have g0 := hg 0 _ rfl
      have g1 := hg 1 _ rfl
      have g2 := hg 2 _ rfl
      have g3 := hg 3 _ rfl
      have g4 := hg 4 _ rfl
      have g5 := hg 5 _ rfl
      simp [Value.cells, cells_ints, cells_tens, cells_int] at g0 g1 g2 g3 g4 g5
      obtain ⟨q1, r1, _, _⟩ := DataW.trod_int Tryd.underlying3 g1
      obtain ⟨q3, r3, _, _⟩ := DataW.trod_int Tryd.underlying3 g3
      obtain ⟨q4, r4, _, _⟩ := DataW.trod_int Tryd.underlying3 g4
      obtain ⟨q5, r5, _, _⟩ := DataW.trod_int Tryd.underlying3 g5
      simp at r1 r3 r4 r5
      subst r1 r3 r4 r5
      obtain ⟨ta, tl, tc, ts, rfl, hts, hta, ht1, ht2⟩ := open_tens g2
      rcases open_ints Tryd.underlying22 Tryd.underlying3 cells_int g0 with ⟨h0, _⟩ | ⟨x, cl, cc, zs, hcs, _, hl, hm, hz, _, hcell, hwz⟩
      · simp at h0
        subst h0 hts
        exact ⟨none, ta, 0, tc, ⟨[], q1, ts, q3, q4, q5⟩, rfl, At.nil, hta, Nat.zero_le _, by show ts.length ≤ _; omega, Nat.le_refl _, ht1, Nat.zero_le _, ht2⟩
      · simp at hcs
        subst hcs hts
        obtain ⟨k1, k2, k3, _⟩ := At.of_row (k := .i64) (w := w) (a := some x) (len := cl) (cap := cc) (zs := zs) (.inr ⟨x, rfl, hl, hm, by simpa using hz, hcell, hwz⟩)
        refine ⟨some x, ta, cc, tc, ⟨zs.take cl, q1, ts, q3, q4, q5⟩, by simp only [k2], k1, hta, by show (zs.take cl).length ≤ _; omega, by show ts.length ≤ _; omega, by show (zs.take cl).length ≤ _; omega, ht1, hm, ht2⟩

end Go.Proofs.YtnbngcagnchkdaaDoor
