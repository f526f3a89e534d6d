/-
  Merged texts: SlotG, Slot.
-/
import Derived.Test.YtlhajoamebfniaaDoorG04
import Derived.Test.YtlhajoamebfniaaDoorG03
import Derived.Deep.RegionHeld3
import Derived.Deep.AppendLies
set_option linter.unusedVariables false
set_option linter.unusedSimpArgs false
/-! slot: what is refused, and a plan that is none. -/
namespace Go.Proofs.YtlhajoamebfniaaDoor
open Go.RowKit Go.Shelf
attribute [local go_sem] Oper.semAt_some

set_option maxHeartbeats 1000000 in
theorem slot_none_nil {w : World} : Calls Tryd.prog 90 #[.pointer none] w fun e w' => e = .returned (.bool true) ∧ w = w' := by
  go_enter Tryd.func90, Tryd.ntmps90
  go_wp2_with fail
  go_ret
  exact ⟨rfl, rfl⟩
set_option maxHeartbeats 1000000 in
theorem slot_none_zero {b : Nat} {w : World} (h3 : w.cell? ⟨b, 3, none⟩ = some (.int .i64 0)) : Calls Tryd.prog 90 #[.pointer (some ⟨b, 0, none⟩)] w fun e w' => e = .returned (.bool true) ∧ w = w' := by
  go_enter Tryd.func90, Tryd.ntmps90
  go_wp2_with fail
  go_ret
  exact ⟨rfl, rfl⟩
set_option maxHeartbeats 1000000 in
theorem slot_Slots_nil {w : World} : Calls Tryd.prog 77 #[.pointer none] w fun e w' => e = .returned (.int .i64 0) ∧ w = w' := by
  go_enter Tryd.func77, Tryd.ntmps77
  go_wp2_with fail
  refine (slot_none_nil).mono ?_
  rintro e w1000 ⟨rfl, rfl⟩
  go_wp2_with fail
  go_ret
  exact ⟨rfl, rfl⟩
set_option maxHeartbeats 1000000 in
theorem slot_Pages_zero {b : Nat} {w : World} (h3 : w.cell? ⟨b, 3, none⟩ = some (.int .i64 0)) : Calls Tryd.prog 86 #[.pointer (some ⟨b, 0, none⟩)] w fun e w' => e = .returned (.int .i64 0) ∧ w = w' := by
  have H3 := Lib.hid h3
  go_enter Tryd.func86, Tryd.ntmps86
  go_wp2_with fail
  refine (slot_none_zero H3.out).mono ?_
  rintro e w1000 ⟨rfl, rfl⟩
  go_wp2_with fail
  go_ret
  exact ⟨rfl, rfl⟩
set_option maxHeartbeats 1000000 in
theorem slot_Of_zero {b : Nat} (k : Int) {w : World} (h3 : w.cell? ⟨b, 3, none⟩ = some (.int .i64 0)) : Calls Tryd.prog 66 #[.pointer (some ⟨b, 0, none⟩), .int .i64 k] w fun e w' => e = .returned (.tuple #[.int .i64 0, .int .i64 0, .int .i64 1]) ∧ w = w' := by
  have H3 := Lib.hid h3
  go_enter Tryd.func66, Tryd.ntmps66
  go_wp2_with fail
  refine (slot_none_zero H3.out).mono ?_
  rintro e w1000 ⟨rfl, rfl⟩
  go_wp2_with fail
  go_ret3
  exact ⟨rfl, rfl⟩
set_option maxHeartbeats 1000000 in
theorem slot_In_nil (k : Int) {w : World} : Calls Tryd.prog 56 #[.pointer none, .int .i64 k] w fun e w' => e = .returned (.tuple #[.int .i64 0, .int .i64 0, .int .i64 1]) ∧ w = w' := by
  go_enter Tryd.func56, Tryd.ntmps56
  go_wp2_with fail
  refine (slot_none_nil).mono ?_
  rintro e w1000 ⟨rfl, rfl⟩
  go_wp2_with fail
  go_ret3
  exact ⟨rfl, rfl⟩
set_option maxHeartbeats 1000000 in
theorem slot_find_nil (s : Int) {w : World} : Calls Tryd.prog 87 #[.pointer none, .int .i64 s] w fun e w' => e = .returned (.tuple #[.int .i64 0, .int .i64 0, .int .i64 1]) ∧ Ext w w' := by
  go_enter Tryd.func87, Tryd.ntmps87
  go_wp2_with fail
  refine (slot_none_nil).mono ?_
  rintro e w1000 ⟨rfl, rfl⟩
  go_wp2_with fail
  go_ret3
  exact ⟨rfl, (Ext.refl _).alloc _⟩
set_option maxHeartbeats 1000000 in
theorem slot_Size_no {b gp : Nat} {c : Conf} {t : Nat} {s : Int} {w : World} (h : PlanAt w b gp c t) (hk : s < 0 ∨ sS c t c.cl.length ≤ s) :
    Calls Tryd.prog 93 #[.pointer (some ⟨b, 0, none⟩), .int .i64 s] w fun e w' => e = .returned (.tuple #[.int .i64 0, .int .i64 2]) ∧ Ext w w' := by
  have H := Lib.hid h; have HK := Lib.hid hk
  clear h hk
  go_enter Tryd.func93, Tryd.ntmps93
  go_wp2_with fail
  refine (slot_find_no H.out HK.out).mono ?_
  rintro e w1 ⟨rfl, x⟩
  go_wp2_with fail
  go_ret2
  exact ⟨rfl, x⟩
set_option maxHeartbeats 1000000 in
theorem slot_Page_no {b gp : Nat} {c : Conf} {t : Nat} {s : Int} {w : World} (h : PlanAt w b gp c t) (hk : s < 0 ∨ sS c t c.cl.length ≤ s) :
    Calls Tryd.prog 52 #[.pointer (some ⟨b, 0, none⟩), .int .i64 s] w fun e w' => e = .returned (.tuple #[.int .i64 0, .int .i64 2]) ∧ Ext w w' := by
  have H := Lib.hid h; have HK := Lib.hid hk
  clear h hk
  go_enter Tryd.func52, Tryd.ntmps52
  go_wp2_with fail
  refine (slot_find_no H.out HK.out).mono ?_
  rintro e w1 ⟨rfl, x⟩
  go_wp2_with fail
  go_ret2
  exact ⟨rfl, x⟩

set_option maxHeartbeats 2000000 in
theorem slot_Of_neg {b gp : Nat} {k : Int} {c : Conf} {t : Nat} {w : World} (h : PlanAt w b gp c t) (hk : k < 0) : Calls Tryd.prog 66 #[.pointer (some ⟨b, 0, none⟩), .int .i64 k] w fun e w' => e = .returned (.tuple #[.int .i64 0, .int .i64 0, .int .i64 2]) ∧ Ext w w' := by
  have H := Lib.hid h
  have t0 : decide (k < 0) = true := by simpa using hk
  clear h hk
  go_enter Tryd.func66, Tryd.ntmps66
  go_wp2_with fail
  refine (slot_none H.out).mono ?_
  rintro e w1000 ⟨rfl, rfl⟩
  go_wp2_with fail
  go_ret3
  exact ⟨rfl, Ext.refl _⟩

end Go.Proofs.YtlhajoamebfniaaDoor

/-! slot.New: a plan's shape in the memory. -/
namespace Go.Proofs.YtlhajoamebfniaaDoor
open Go.RowKit

theorem stOth {W : World} {b i j : Nat} {u v : Value} (h : i ≠ j) (hc : W.cell? ⟨b, j, none⟩ = some v) : (W.setCell ⟨b, i, none⟩ u).cell? ⟨b, j, none⟩ = some v := by
  have := World.cell?_setCell_other W ⟨b, i, none⟩ ⟨b, j, none⟩ u (by intro e; cases e; exact h rfl)
  rw [this]; exact hc
/-- What New's loop keeps. -/
structure PlanR (w0 : World) (c : Conf) (t b k : Nat) (sv : Value) (wr : World) : Prop where
  c0 : wr.cell? ⟨b, 0, none⟩ = some sv
  own : wr.ownsRow (b + 1) 145 5 sv k (pcs c t k)
  c1 : wr.cell? ⟨b, 1, none⟩ = some (.int .i64 (sS c t k))
  c2 : wr.cell? ⟨b, 2, none⟩ = some (.int .i64 (sG c t k))
  c3 : wr.cell? ⟨b, 3, none⟩ = some (.int .i64 c.page)
  fz : ∀ o, wr.frozen? ⟨b, o, none⟩ = false
  lo : w0.heap.size ≤ b
  ext : Ext w0 wr
theorem PlanR.go {w0 wr w' : World} {c : Conf} {t b k : Nat} {sv : Value} (h : PlanR w0 c t b k sv wr) (hx : Ext wr w') : PlanR w0 c t b k sv w' :=
  ⟨hx.cell h.c0, own_ext h.own hx, hx.cell h.c1, hx.cell h.c2, hx.cell h.c3, fun o => by rw [hx.frozen (p := ⟨b, o, none⟩) (show b < wr.heap.size from cell_lt h.c0)]; exact h.fz o, h.lo, h.ext.trans hx⟩

theorem PlanR.ne {w0 wr : World} {c : Conf} {t b k : Nat} {sv : Value} (h : PlanR w0 c t b k sv wr) : some b ≠ sv.ownBlock := fun e => by
  have := (h.own.lt b e.symm).1; omega
theorem PlanR.ne' {w0 wr : World} {c : Conf} {t b k x : Nat} {sv : Value} (h : PlanR w0 c t b k sv wr) (hx : x < w0.heap.size) : some x ≠ sv.ownBlock := fun e => by
  have := (h.own.lt x e.symm).1; have := h.lo; omega
/-- .. behind the append. -/
theorem PlanR.grown {w0 w3 W w4 : World} {c : Conf} {t b k : Nat} {sv : Value} (h : PlanR w0 c t b k sv w3) (hx : Ext w3 W) (hg : W.grownBy w4 sv.ownBlock) :
    w4.cell? ⟨b, 0, none⟩ = some sv ∧ w4.cell? ⟨b, 1, none⟩ = some (.int .i64 (sS c t k)) ∧ w4.cell? ⟨b, 2, none⟩ = some (.int .i64 (sG c t k)) ∧ w4.cell? ⟨b, 3, none⟩ = some (.int .i64 c.page) ∧ (∀ o, w4.frozen? ⟨b, o, none⟩ = false) ∧ Ext w0 w4 := by
  have hl : b < w3.heap.size := cell_lt h.c0
  refine ⟨grow_cell hg hx h.c0 h.ne, grow_cell hg hx h.c1 h.ne, grow_cell hg hx h.c2 h.ne, grow_cell hg hx h.c3 h.ne, fun o => ?_, (h.ext.trans hx).grown hg fun k' e => ?_⟩
  · rw [hg.frozen_far _ (Nat.lt_of_lt_of_le hl hx.size) h.ne, hx.frozen (p := ⟨b, o, none⟩) hl]; exact h.fz o
  · have := (h.own.lt k' e).1; have := h.lo; omega
theorem stSame {W : World} {b j : Nat} {u v : Value} (hc : W.cell? ⟨b, j, none⟩ = some v) : (W.setCell ⟨b, j, none⟩ u).cell? ⟨b, j, none⟩ = some u := World.cell?_setCell_same W _ _ hc
theorem PlanR.step {w0 w4 : World} {c : Conf} {t b k : Nat} {sv V : Value} {S G S' G' : Int} (q0 : w4.cell? ⟨b, 0, none⟩ = some sv) (q1 : w4.cell? ⟨b, 1, none⟩ = some (.int .i64 S)) (q2 : w4.cell? ⟨b, 2, none⟩ = some (.int .i64 G)) (q3 : w4.cell? ⟨b, 3, none⟩ = some (.int .i64 c.page))
    (qf : ∀ o, w4.frozen? ⟨b, o, none⟩ = false) (h4 : Ext w0 w4) (lo : w0.heap.size ≤ b) (hown : w4.ownsRow (b + 1) 145 5 V (k + 1) (pcs c t (k + 1))) (hS : sS c t (k + 1) = S') (hG : sG c t (k + 1) = G') :
    PlanR w0 c t b (k + 1) V (((w4.setCell ⟨b, 0, none⟩ V).setCell ⟨b, 1, none⟩ (.int .i64 S')).setCell ⟨b, 2, none⟩ (.int .i64 G')) := by
  subst hS hG
  exact ⟨stOth (by decide) (stOth (by decide) (stSame q0)), own_setCell (own_setCell (own_setCell hown (p := ⟨b, 0, none⟩) (Nat.lt_succ_self b) _) (p := ⟨b, 1, none⟩) (Nat.lt_succ_self b) _) (p := ⟨b, 2, none⟩) (Nat.lt_succ_self b) _, stOth (by decide) (stSame (stOth (by decide) q1)), stSame (stOth (by decide) (stOth (by decide) q2)), stOth (by decide) (stOth (by decide) (stOth (by decide) q3)), fun o => by simpa using qf o, lo,
    ((h4.setCell (p := ⟨b, 0, none⟩) lo _).setCell (p := ⟨b, 1, none⟩) lo _).setCell (p := ⟨b, 2, none⟩) lo _⟩
theorem PlanR.plan {w0 wr : World} {c : Conf} {t b : Nat} {sv : Value} (h : PlanR w0 c t b c.cl.length sv wr) (ho : KOk c) (ht : t < c.ts.length) : ∃ gp, PlanAt wr b gp c t := by
  obtain ⟨g, cap, rfl, _, _⟩ := h.own.form (by have := ho.cl.pos; omega)
  refine ⟨g, ho, ht, ⟨cap, h.c0⟩, h.c1, h.c2, h.c3, fun i hi j u hu => ?_⟩
  have hj : j < 5 := by have := (List.getElem?_eq_some_iff.1 hu).1; simpa [pc5] using this
  rw [h.own.cellAt _ (by omega), pcs_at c t _ i j hi hj]; exact hu
theorem info_part : (Tryd.prog.info? 145).map (fun i => (i.zero, i.size, i.bytes)) = some (some (.agg #[.int .i64 0, .int .i64 0, .int .i64 0, .int .i64 0, .int .i64 0]), 5, 40) := by kernel_rfl

set_option maxHeartbeats 2000000 in
theorem slot_New_no {ca ta : Option Addr} {cc tc : Nat} (c : Conf) (t : Int) {w : World} (hn : ¬ there c t 0) (h : CfgAt w ca ta cc tc c) :
    Calls Tryd.prog 47 #[.agg #[.slice ca c.cl.length cc, .int .i64 c.page, .slice ta c.ts.length tc, .int .i64 c.wk, .int .i64 c.gr, .int .i64 c.gens], .int .i64 t] w fun e w' => e = .returned (.tuple #[.pointer none, .int .i64 2]) ∧ Ext w w' := by
  have h1 := Ext.refl (w.alloc (.cells #[.slice ca c.cl.length cc, .int .i64 c.page, .slice ta c.ts.length tc, .int .i64 c.wk, .int .i64 c.gr, .int .i64 c.gens] 25))
  have hx := (Ext.refl w).alloc (.cells #[.slice ca c.cl.length cc, .int .i64 c.page, .slice ta c.ts.length tc, .int .i64 c.wk, .int .i64 c.gr, .int .i64 c.gens] 25)
  have R := Lib.hid (kregion_no hn)
  have H := Lib.hid h
  clear h hn
  go_enter Tryd.func47, Tryd.ntmps47
  go_wp2_with fail
  refine (conf_Region c t 0 2 R.out (H.out.ext (hx.trans h1))).mono ?_
  rintro e w1 ⟨rfl, h2⟩
  replace h1 := h1.trans h2
  clear h2
  go_wp2_with fail
  go_ret2
  exact ⟨rfl, hx.trans h1⟩

/-- What New hands back. -/
def PlanNew (c : Conf) (t : Nat) (w : World) (e : Ending) (w' : World) : Prop := ∃ b gp, e = .returned (.tuple #[.pointer (some ⟨b, 0, none⟩), .int .i64 0]) ∧ PlanAt w' b gp c t ∧ Ext w w'

set_option maxRecDepth 100000 in
set_option maxHeartbeats 8000000 in
theorem slot_New {ca ta : Option Addr} {cc tc : Nat} (c : Conf) (i : Nat) {w : World} (hk0 : kcheck c = 0) (hi : i < c.ts.length) (h : CfgAt w ca ta cc tc c) :
    Calls Tryd.prog 47 #[.agg #[.slice ca c.cl.length cc, .int .i64 c.page, .slice ta c.ts.length tc, .int .i64 c.wk, .int .i64 c.gr, .int .i64 c.gens], .int .i64 i] w (PlanNew c i w) := by
  obtain ⟨i0, hi0, hz0, hz1, hz2⟩ := info_parts info_part
  have h1 := Ext.refl (w.alloc (.cells #[.slice ca c.cl.length cc, .int .i64 c.page, .slice ta c.ts.length tc, .int .i64 c.wk, .int .i64 c.gr, .int .i64 c.gens] 25))
  have hx := (Ext.refl w).alloc (.cells #[.slice ca c.cl.length cc, .int .i64 c.page, .slice ta c.ts.length tc, .int .i64 c.wk, .int .i64 c.gr, .int .i64 c.gens] 25)
  have ho := kcheck_ok hk0
  have K0 := Lib.hid hk0
  have HO := Lib.hid ho
  have c8 := ho.cl.most
  have c1 := ho.cl.pos
  have R := Lib.hid (kregion_yes (there_mk (i := i) (j := 0) hk0 hi c1))
  obtain ⟨pw, hpw⟩ : ∃ p, wordsOf c i = p := ⟨_, rfl⟩
  rw [hpw] at R
  have H := Lib.hid h
  obtain ⟨cb, co, rfl, hc⟩ := h.cl.pos c1
  have HC := Lib.hid hc
  clear h hk0 ho hpw hc
  go_enter Tryd.func47, Tryd.ntmps47
  go_wp2_with fail
  refine (conf_Region c i pw 0 R.out (H.out.ext (hx.trans h1))).mono ?_
  rintro e w1 ⟨rfl, h2⟩
  replace h1 := h1.trans h2
  clear h2
  obtain ⟨b0, b1, b2, b3, b4, b5⟩ := box6 h1
  have hlt1 : w.heap.size < w1.heap.size := cell_lt b0
  go_wp2_with fail
  have PR0 : Hid (PlanR (w.alloc (.cells #[.slice (some ⟨cb, co, none⟩) c.cl.length cc, .int .i64 c.page, .slice ta c.ts.length tc, .int .i64 c.wk, .int .i64 c.gr, .int .i64 c.gens] 25)) c i w1.heap.size 0 (.slice none 0 0) (w1.alloc (.cells #[.slice none 0 0, .int .i64 0, .int .i64 0, .int .i64 c.page] 142))) :=
    Lib.hid ⟨cell_newN _ _ _ 0, World.ownsRow_nil _ _ _ _, cell_newN _ _ _ 1, cell_newN _ _ _ 2, cell_newN _ _ _ 3, fun o => World.frozen?_alloc_at _ _ _ _ rfl, h1.size, h1.alloc _⟩
  clear b0 b1 b2 b3 b4 b5 hlt1 h1
  generalize w1.heap.size = b at *
  go_loopw [31] (fun kv wr => ∃ (k : Nat) (sv : Value), k ≤ c.cl.length ∧ kv = .int .i64 k ∧ Hid (PlanR (w.alloc (.cells #[.slice (some ⟨cb, co, none⟩) c.cl.length cc, .int .i64 c.page, .slice ta c.ts.length tc, .int .i64 c.wk, .int .i64 c.gr, .int .i64 c.gens] 25)) c i b k sv wr)) (fun kv _ => c.cl.length - (intOf kv).toNat)
  case atStart => exact ⟨0, _, Nat.zero_le _, rfl, PR0⟩
  case round =>
    clear PR0
    obtain ⟨k, sv, hk, rfl, PR⟩ := hrel
    have h1 := PR.out.ext
    by_cases hlt : k < c.cl.length
    · have z0 := (hx.trans h1).cell (HC.out k hlt)
      have KS := Lib.hid (kslots_yes (there_mk K0.out hi hlt))
      have KP := Lib.hid (kpages_yes (there_mk K0.out hi hlt))
      have bd := HO.out.bounds hi hlt
      have u1 := bd.c2; have u2 := bd.cpage; have u3 := bd.p64; have u4 := bd.c64; have u5 := bd.s1; have u6 := bd.s2048; have u7 := bd.pg1; have u8 := bd.pg2048; have u9 := bd.per1; have u10 := bd.per32
      have sl := HO.out.sS_le hi hk
      have gl := HO.out.sG_le hi hk
      have HPE := Lib.hid (show c.page / nth c.cl k = perOf c k from rfl)
      have SS := Lib.hid (show sS c i (k + 1) = sS c i k + slotsOf c i k from rfl)
      have SG := Lib.hid (show sG c i (k + 1) = sG c i k + pagesOf c i k from rfl)
      have PS := Lib.hid (show pcs c i (k + 1) = pcs c i k ++ [.int .i64 (nth c.cl k), .int .i64 (sS c i k), .int .i64 (slotsOf c i k), .int .i64 (sG c i k), .int .i64 (perOf c k)] from rfl)
      obtain ⟨b0, b1, b2, b3, b4, b5⟩ := box6 h1
      clear bd
      obtain ⟨s0, s1⟩ := sl
      obtain ⟨g0, g1⟩ := gl
      generalize nth c.cl k = x at *
      generalize slotsOf c i k = s at *
      generalize pagesOf c i k = pg at *
      generalize perOf c k = pe at *
      go_wp2_with fail
      clear b0 b1 b2 b3 b4 b5
      refine (conf_Slots c i k s 0 KS.out (H.out.ext (hx.trans h1))).mono ?_
      rintro e w2 ⟨rfl, h2⟩
      have PR2 := Lib.hid (PR.out.go h2)
      clear h2 h1 z0
      have h1 := PR2.out.ext
      obtain ⟨b0, b1, b2, b3, b4, b5⟩ := box6 h1
      go_wp2_with fail
      clear b0 b1 b2 b3 b4 b5
      refine (conf_Pages c i k pg 0 KP.out (H.out.ext (hx.trans h1))).mono ?_
      rintro e w3 ⟨rfl, h2⟩
      have PR3 := Lib.hid (PR2.out.go h2)
      clear h2 h1
      have h1 := PR3.out.ext
      obtain ⟨b0, b1, b2, b3, b4, b5⟩ := box6 h1
      have p0 := PR3.out.c0; have p1 := PR3.out.c1; have p2 := PR3.out.c2; have p3 := PR3.out.c3
      go_wp2_with fail
      have n0 := PR3.out.ne
      have n1 := PR3.out.ne' (x := w.heap.size) (by simp)
      have hb3 : b < w3.heap.size := cell_lt p0
      have x0 : ¬ x = 0 := by omega
      have hwp : IntKind.i64.wrap pe = pe := IntWalk.i64_in _ (by omega)
      have NB1 := Lib.hid (show ∀ j u, [Value.int .i64 x, .int .i64 (sS c i k), .int .i64 s, .int .i64 (sG c i k), .int .i64 pe][j]? = some u → (w3.drew.alloc (.cells #[.int .i64 x, .int .i64 (sS c i k), .int .i64 s, .int .i64 (sG c i k), .int .i64 pe] 145)).cell? ((⟨w3.heap.size, 0, none⟩ : Addr).add j) = some u from fun j u hu => World.news_of_block (heap_alloc_new w3.drew _) j u hu)
      have NB2 := Lib.hid (show ∀ j u, [Value.int .i64 x, .int .i64 (sS c i k), .int .i64 s, .int .i64 (sG c i k), .int .i64 pe][j]? = some u → ((w3.alloc (.cells #[.int .i64 x, .int .i64 (sS c i k), .int .i64 s, .int .i64 (sG c i k), .int .i64 pe] 145)).drew).cell? ((⟨w3.heap.size, 0, none⟩ : Addr).add j) = some u from fun j u hu => (Ext.refl _).drew.cell (World.news_of_block (heap_alloc_new w3 _) j u hu))
      have hbw : b ≠ w.heap.size := by have := PR3.out.lo; simp at this; omega
      have xq : (c.page).tdiv x = pe := by rw [← HPE.out]; exact Int.tdiv_eq_ediv_of_nonneg (by omega)
      refine wp_region_noPanic ?_
      refine wp_region_held_drew (S := (fun w' => w'.cell? ⟨b, 1, none⟩ = some (.int .i64 (sS c i k)) ∧ w'.cell? ⟨b, 2, none⟩ = some (.int .i64 (sG c i k)) ∧ w'.cell? ⟨w.heap.size, 1, none⟩ = some (.int .i64 c.page))) (by kernel_rfl) ?_ (fun hHeld => ?_)
      focus ((try dsimp only); go_keep)
      refine wpAnyH_take (i := 0) (v := ?_) rfl (by kernel_rfl) (by kernel_rfl) (by kernel_rfl) (fun _ _ _ h => h) (Or.inl ⟨by rfl, ?_⟩) (by assumption) ?_
      rotate_left
      focus (intro w hSw; (try dsimp only at hSw); go_simp; try with_reducible rfl)
      try simp only [Act.put, List.setIfInBounds_toArray, List.set_cons_zero, List.set_cons_succ]
      refine wpAnyH_take (i := 1) (v := ?_) rfl (by kernel_rfl) (by kernel_rfl) (by kernel_rfl) (fun _ _ _ h => h) (Or.inl ⟨by rfl, ?_⟩) (by assumption) ?_
      rotate_left
      focus (intro w hSw; (try dsimp only at hSw); go_simp; try with_reducible rfl)
      try simp only [Act.put, List.setIfInBounds_toArray, List.set_cons_zero, List.set_cons_succ]
      refine wpAnyH_take (i := 2) (v := ?_) rfl (by kernel_rfl) (by kernel_rfl) (by kernel_rfl) (fun _ _ _ h => h) (Or.inl ⟨by rfl, ?_⟩) (by assumption) ?_
      rotate_left
      focus (intro w hSw; (try dsimp only at hSw); go_simp; try with_reducible rfl)
      try simp only [Act.put, List.setIfInBounds_toArray, List.set_cons_zero, List.set_cons_succ]
      refine wpAnyH_take (i := 3) (v := ?_) rfl (by kernel_rfl) (by kernel_rfl) (by kernel_rfl) (fun _ _ _ h => h) (Or.inl ⟨by rfl, ?_⟩) (by assumption) ?_
      rotate_left
      focus (intro w hSw; (try dsimp only at hSw); go_simp; try with_reducible rfl)
      try simp only [Act.put, List.setIfInBounds_toArray, List.set_cons_zero, List.set_cons_succ]
      refine wpAnyH_take (i := 5) (v := ?_) rfl (by kernel_rfl) (by kernel_rfl) (by kernel_rfl) (fun _ _ _ h => h) (Or.inl ⟨by rfl, ?_⟩) (by assumption) ?_
      rotate_left
      focus (intro w hSw; (try dsimp only at hSw); go_simp; try with_reducible rfl)
      try simp only [Act.put, List.setIfInBounds_toArray, List.set_cons_zero, List.set_cons_succ]
      refine wpAnyH_take (i := 6) (v := ?_) rfl (by kernel_rfl) (by kernel_rfl) (by kernel_rfl) (fun _ _ _ h => h) (Or.inl ⟨by rfl, ?_⟩) (by assumption) ?_
      rotate_left
      focus (intro w hSw; (try dsimp only at hSw); go_simp; try with_reducible rfl)
      try simp only [Act.put, List.setIfInBounds_toArray, List.set_cons_zero, List.set_cons_succ]
      refine wpAnyH_take (i := 7) (v := ?_) rfl (by kernel_rfl) (by kernel_rfl) (by kernel_rfl) (fun _ _ _ h => h) (Or.inl ⟨by rfl, ?_⟩) (by assumption) ?_
      rotate_left
      focus (intro w hSw; (try dsimp only at hSw); go_simp; try with_reducible rfl)
      try simp only [Act.put, List.setIfInBounds_toArray, List.set_cons_zero, List.set_cons_succ]
      refine wpAnyH_take (i := 8) (v := ?_) rfl (by kernel_rfl) (by kernel_rfl) (by kernel_rfl) (fun _ _ _ h => h) (Or.inl ⟨by rfl, ?_⟩) (by assumption) ?_
      rotate_left
      focus (intro w hSw; (try dsimp only at hSw); go_simp; try with_reducible rfl)
      try simp only [Act.put, List.setIfInBounds_toArray, List.set_cons_zero, List.set_cons_succ]
      refine wpAnyH_take (i := 9) (v := ?_) rfl (by kernel_rfl) (by kernel_rfl) (by kernel_rfl) (fun _ _ _ h => h) (Or.inl ⟨by rfl, ?_⟩) (by assumption) ?_
      rotate_left
      focus (intro w hSw; (try dsimp only at hSw); go_simp; try with_reducible rfl)
      try simp only [Act.put, List.setIfInBounds_toArray, List.set_cons_zero, List.set_cons_succ]
      refine wpAnyH_take (i := 10) (v := ?_) rfl (by kernel_rfl) (by kernel_rfl) (by kernel_rfl) (fun _ _ _ h => h) (Or.inl ⟨by rfl, ?_⟩) (by assumption) ?_
      rotate_left
      focus (intro w hSw; (try dsimp only at hSw); go_simp; try with_reducible rfl)
      try simp only [Act.put, List.setIfInBounds_toArray, List.set_cons_zero, List.set_cons_succ]
      refine wpAnyH_take (i := 11) (v := ?_) rfl (by kernel_rfl) (by kernel_rfl) (by kernel_rfl) (fun _ _ _ h => h) (Or.inl ⟨by rfl, ?_⟩) (by assumption) ?_
      rotate_left
      focus (intro w hSw; (try dsimp only at hSw); go_simp; try with_reducible rfl)
      try simp only [Act.put, List.setIfInBounds_toArray, List.set_cons_zero, List.set_cons_succ]
      refine wpAnyH_take (i := 12) (v := ?_) rfl (by kernel_rfl) (by kernel_rfl) (by kernel_rfl) (fun _ _ _ h => h) (Or.inl ⟨by rfl, ?_⟩) (by assumption) ?_
      rotate_left
      focus (intro w hSw; (try dsimp only at hSw); go_simp; try with_reducible rfl)
      try simp only [Act.put, List.setIfInBounds_toArray, List.set_cons_zero, List.set_cons_succ]
      refine wpAnyH_take (i := 13) (v := ?_) rfl (by kernel_rfl) (by kernel_rfl) (by kernel_rfl) (fun _ _ _ h => h) (Or.inl ⟨by rfl, ?_⟩) (by assumption) ?_
      rotate_left
      focus (intro w hSw; (try dsimp only at hSw); go_simp; try with_reducible rfl)
      try simp only [Act.put, List.setIfInBounds_toArray, List.set_cons_zero, List.set_cons_succ]
      refine wpAnyH_take (i := 14) (v := ?_) rfl (by kernel_rfl) (by kernel_rfl) (by kernel_rfl) (fun _ _ _ h => h) (Or.inl ⟨by rfl, ?_⟩) (by assumption) ?_
      rotate_left
      focus (intro w hSw; (try dsimp only at hSw); go_simp; try with_reducible rfl)
      try simp only [Act.put, List.setIfInBounds_toArray, List.set_cons_zero, List.set_cons_succ]
      refine wpAnyH_take (i := 15) (v := ?_) rfl (by kernel_rfl) (by kernel_rfl) (by kernel_rfl) (fun _ _ _ h => h) (Or.inl ⟨by rfl, ?_⟩) (by assumption) ?_
      rotate_left
      focus (intro w hSw; (try dsimp only at hSw); go_simp; try with_reducible rfl)
      try simp only [Act.put, List.setIfInBounds_toArray, List.set_cons_zero, List.set_cons_succ]
      refine wpAnyH_take (i := 16) (v := ?_) rfl (by kernel_rfl) (by kernel_rfl) (by kernel_rfl) (fun _ _ _ h => h) (Or.inl ⟨by rfl, ?_⟩) (by assumption) ?_
      rotate_left
      focus (intro w hSw; (try dsimp only at hSw); go_simp; try with_reducible rfl)
      try simp only [Act.put, List.setIfInBounds_toArray, List.set_cons_zero, List.set_cons_succ]
      refine wpAnyH_take (i := 17) (v := ?_) rfl (by kernel_rfl) (by kernel_rfl) (by kernel_rfl) (fun _ _ _ h => h) (Or.inl ⟨by rfl, ?_⟩) (by assumption) ?_
      rotate_left
      focus (intro w hSw; (try dsimp only at hSw); go_simp; try with_reducible rfl)
      try simp only [Act.put, List.setIfInBounds_toArray, List.set_cons_zero, List.set_cons_succ]
      refine wpAnyH_take (i := 18) (v := ?_) rfl (by kernel_rfl) (by kernel_rfl) (by kernel_rfl) (fun _ _ _ h => h) (Or.inl ⟨by rfl, ?_⟩) (by assumption) ?_
      rotate_left
      focus (intro w hSw; (try dsimp only at hSw); go_simp; try with_reducible rfl)
      try simp only [Act.put, List.setIfInBounds_toArray, List.set_cons_zero, List.set_cons_succ]
      refine wpAnyH_take (i := 19) (v := ?_) rfl (by kernel_rfl) (by kernel_rfl) (by kernel_rfl) (fun _ _ _ h => h) (Or.inl ⟨by rfl, ?_⟩) (by assumption) ?_
      rotate_left
      focus (intro w hSw; (try dsimp only at hSw); go_simp; try with_reducible rfl)
      try simp only [Act.put, List.setIfInBounds_toArray, List.set_cons_zero, List.set_cons_succ]
      refine wpAnyH_ready (rs := [4, 20]) (by kernel_rfl) (by simp) ?_
      refine AllReadyH.cons (i := 4) rfl (fun K hK => ?_) (AllReadyH.cons (i := 20) rfl (fun K hK => ?_) AllReadyH.nil)
      · go_simp
        refine hK.out _ _ ?_ (fun hHeld => ?_)
        focus ((try dsimp only); assumption)
        clear hK K
        try simp only [Act.put, List.setIfInBounds_toArray, List.set_cons_zero, List.set_cons_succ]
        refine wpAnyH_ready (rs := [20]) (by kernel_rfl) (by simp) ?_
        refine AllReadyH.cons (i := 20) rfl (fun K hK => ?_) AllReadyH.nil
        go_simp
        refine hK.out _ _ ?_ (fun hHeld => ?_)
        focus ((try dsimp only); go_keep)
        clear hK K
        try simp only [Act.put, List.setIfInBounds_toArray, List.set_cons_zero, List.set_cons_succ]
        refine wpAnyH_ready (rs := [21]) (by kernel_rfl) (by simp) ?_
        refine AllReadyH.cons (i := 21) rfl (fun K hK => ?_) AllReadyH.nil
        (refine step_append_lies _ (by rfl) (.tmp 54) (.tmp 70) 140 (by rfl) (b + 1) 145 i0 (.agg #[.int .i64 0, .int .i64 0, .int .i64 0, .int .i64 0, .int .i64 0]) 5 40 Tryd.underlying140 hi0 hz0 hz1 hz2 rfl (by decide) sv k (pcs c i k) (by simp [Act.eval]) (own_ext PR3.out.own (by repeat (first | with_reducible exact Ext.refl _ | with_reducible refine Ext.drew ?_ | with_reducible refine Ext.alloc ?_ _))) ⟨w3.heap.size, 0, none⟩ 1 1 [.int .i64 x, .int .i64 (sS c i k), .int .i64 s, .int .i64 (sG c i k), .int .i64 pe] (by simp [Act.eval]) rfl (fun j u hu => by first | exact NB1.out j u hu | exact NB2.out j u hu) (pc5_one ⟨x, sS c i k, s, sG c i k, pe⟩) (by decide) (by unfold maxLen; omega) (by omega) (by simp; omega) (w3.heap.size + 1) (by simp) ?_; intro g cap w4 hown hgrow hat hltg; obtain ⟨q0, q1, q2, q3, qf, h4⟩ := PR3.out.grown (by repeat (first | with_reducible exact Ext.refl _ | with_reducible refine Ext.drew ?_ | with_reducible refine Ext.alloc ?_ _)) hgrow; have q4 := (box6 h4).2.1; have qf0 := qf 0; have qf1 := qf 1; have qf2 := qf 2)
        refine hK.out _ _ ?_ (fun hHeld => ?_)
        focus ((try dsimp only); exact ⟨q1, q2, q4⟩)
        clear hK K
        try simp only [Act.put, List.setIfInBounds_toArray, List.set_cons_zero, List.set_cons_succ]
        refine wpAnyH_take (i := 22) (v := ?_) rfl (by kernel_rfl) (by kernel_rfl) (by kernel_rfl) (fun _ _ _ h => h) (Or.inl ⟨by rfl, ?_⟩) (by assumption) ?_
        rotate_left
        focus (intro w hSw; (try dsimp only at hSw); go_simp; try with_reducible rfl)
        try simp only [Act.put, List.setIfInBounds_toArray, List.set_cons_zero, List.set_cons_succ]
        refine wpAnyH_take (i := 23) (v := ?_) rfl (by kernel_rfl) (by kernel_rfl) (by kernel_rfl) (fun _ _ _ h => h) (Or.inl ⟨by rfl, ?_⟩) (by assumption) ?_
        rotate_left
        focus (intro w hSw; (try dsimp only at hSw); go_simp; try with_reducible rfl)
        try simp only [Act.put, List.setIfInBounds_toArray, List.set_cons_zero, List.set_cons_succ]
        refine wpAnyH_ready (rs := [24]) (by kernel_rfl) (by simp) ?_
        refine AllReadyH.cons (i := 24) rfl (fun K hK => ?_) AllReadyH.nil
        go_simp
        refine hK.out _ _ ?_ (fun hHeld => ?_)
        focus ((try dsimp only); exact ⟨stOth (by decide) q1, stOth (by decide) q2, (cell_far _ _ _ _ hbw).trans q4⟩)
        clear hK K
        try simp only [Act.put, List.setIfInBounds_toArray, List.set_cons_zero, List.set_cons_succ]
        refine wpAnyH_done (by kernel_rfl) ?_ _
        refine NoPanic.normal ?_
        have hown2 := Lib.hid hown
        rw [← PS.out] at hown2
        clear hown hgrow hat hltg q4 b0 b1 b2 b3 b4 b5 n0 n1 NB1 NB2 hwp x0 xq
        go_wp2_with fail
        go_roundw
        case rel => exact ⟨k + 1, .slice (some ⟨g, 0, none⟩) (k + 1) cap, by omega, by go_num, PlanR.step q0 q1 q2 q3 qf h4 PR3.out.lo hown2.out (by rw [SS.out]) (by rw [SG.out])⟩
        case measure => simp [intOf]; omega
      · go_simp
        refine hK.out _ _ ?_ (fun hHeld => ?_)
        focus ((try dsimp only); go_keep)
        clear hK K
        try simp only [Act.put, List.setIfInBounds_toArray, List.set_cons_zero, List.set_cons_succ]
        refine wpAnyH_ready (rs := [4]) (by kernel_rfl) (by simp) ?_
        refine AllReadyH.cons (i := 4) rfl (fun K hK => ?_) AllReadyH.nil
        go_simp
        refine hK.out _ _ ?_ (fun hHeld => ?_)
        focus ((try dsimp only); assumption)
        clear hK K
        try simp only [Act.put, List.setIfInBounds_toArray, List.set_cons_zero, List.set_cons_succ]
        refine wpAnyH_ready (rs := [21]) (by kernel_rfl) (by simp) ?_
        refine AllReadyH.cons (i := 21) rfl (fun K hK => ?_) AllReadyH.nil
        (refine step_append_lies _ (by rfl) (.tmp 54) (.tmp 70) 140 (by rfl) (b + 1) 145 i0 (.agg #[.int .i64 0, .int .i64 0, .int .i64 0, .int .i64 0, .int .i64 0]) 5 40 Tryd.underlying140 hi0 hz0 hz1 hz2 rfl (by decide) sv k (pcs c i k) (by simp [Act.eval]) (own_ext PR3.out.own (by repeat (first | with_reducible exact Ext.refl _ | with_reducible refine Ext.drew ?_ | with_reducible refine Ext.alloc ?_ _))) ⟨w3.heap.size, 0, none⟩ 1 1 [.int .i64 x, .int .i64 (sS c i k), .int .i64 s, .int .i64 (sG c i k), .int .i64 pe] (by simp [Act.eval]) rfl (fun j u hu => by first | exact NB1.out j u hu | exact NB2.out j u hu) (pc5_one ⟨x, sS c i k, s, sG c i k, pe⟩) (by decide) (by unfold maxLen; omega) (by omega) (by simp; omega) (w3.heap.size + 1) (by simp) ?_; intro g cap w4 hown hgrow hat hltg; obtain ⟨q0, q1, q2, q3, qf, h4⟩ := PR3.out.grown (by repeat (first | with_reducible exact Ext.refl _ | with_reducible refine Ext.drew ?_ | with_reducible refine Ext.alloc ?_ _)) hgrow; have q4 := (box6 h4).2.1; have qf0 := qf 0; have qf1 := qf 1; have qf2 := qf 2)
        refine hK.out _ _ ?_ (fun hHeld => ?_)
        focus ((try dsimp only); exact ⟨q1, q2, q4⟩)
        clear hK K
        try simp only [Act.put, List.setIfInBounds_toArray, List.set_cons_zero, List.set_cons_succ]
        refine wpAnyH_take (i := 22) (v := ?_) rfl (by kernel_rfl) (by kernel_rfl) (by kernel_rfl) (fun _ _ _ h => h) (Or.inl ⟨by rfl, ?_⟩) (by assumption) ?_
        rotate_left
        focus (intro w hSw; (try dsimp only at hSw); go_simp; try with_reducible rfl)
        try simp only [Act.put, List.setIfInBounds_toArray, List.set_cons_zero, List.set_cons_succ]
        refine wpAnyH_take (i := 23) (v := ?_) rfl (by kernel_rfl) (by kernel_rfl) (by kernel_rfl) (fun _ _ _ h => h) (Or.inl ⟨by rfl, ?_⟩) (by assumption) ?_
        rotate_left
        focus (intro w hSw; (try dsimp only at hSw); go_simp; try with_reducible rfl)
        try simp only [Act.put, List.setIfInBounds_toArray, List.set_cons_zero, List.set_cons_succ]
        refine wpAnyH_ready (rs := [24]) (by kernel_rfl) (by simp) ?_
        refine AllReadyH.cons (i := 24) rfl (fun K hK => ?_) AllReadyH.nil
        go_simp
        refine hK.out _ _ ?_ (fun hHeld => ?_)
        focus ((try dsimp only); exact ⟨stOth (by decide) q1, stOth (by decide) q2, (cell_far _ _ _ _ hbw).trans q4⟩)
        clear hK K
        try simp only [Act.put, List.setIfInBounds_toArray, List.set_cons_zero, List.set_cons_succ]
        refine wpAnyH_done (by kernel_rfl) ?_ _
        refine NoPanic.normal ?_
        have hown2 := Lib.hid hown
        rw [← PS.out] at hown2
        clear hown hgrow hat hltg q4 b0 b1 b2 b3 b4 b5 n0 n1 NB1 NB2 hwp x0 xq
        go_wp2_with fail
        go_roundw
        case rel => exact ⟨k + 1, .slice (some ⟨g, 0, none⟩) (k + 1) cap, by omega, by go_num, PlanR.step q0 q1 q2 q3 qf h4 PR3.out.lo hown2.out (by rw [SS.out]) (by rw [SG.out])⟩
        case measure => simp [intOf]; omega
    · obtain rfl : k = c.cl.length := by omega
      obtain ⟨gp, hpl⟩ := PR.out.plan HO.out hi
      have HPL := Lib.hid hpl
      clear hpl
      go_wp2_with fail
      go_ret2
      exact ⟨b, gp, rfl, HPL.out, hx.trans h1⟩

end Go.Proofs.YtlhajoamebfniaaDoor
