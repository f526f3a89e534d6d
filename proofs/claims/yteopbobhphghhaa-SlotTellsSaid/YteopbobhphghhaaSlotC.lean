/-
  slot: in, In.
-/
import Derived.Test.YteopbobhphghhaaSlotB
namespace Go.Proofs.Yteopbobhphghhaa
open Go.RowKit Go.Shelf

/-- A block of five cells that may be written. -/
structure Five (w : World) (b : Nat) (v0 v1 v2 v3 v4 : Value) : Prop where
  c0 : w.cell? ⟨b, 0, none⟩ = some v0
  c1 : w.cell? ⟨b, 1, none⟩ = some v1
  c2 : w.cell? ⟨b, 2, none⟩ = some v2
  c3 : w.cell? ⟨b, 3, none⟩ = some v3
  c4 : w.cell? ⟨b, 4, none⟩ = some v4
  fz : ∀ o, w.frozen? ⟨b, o, none⟩ = false
theorem Five.lt {w : World} {b : Nat} {v0 v1 v2 v3 v4 : Value} (h : Five w b v0 v1 v2 v3 v4) : b < w.heap.size := cell_lt h.c0
theorem Five.ext {w w' : World} {b : Nat} {v0 v1 v2 v3 v4 : Value} (h : Five w b v0 v1 v2 v3 v4) (hx : Ext w w') : Five w' b v0 v1 v2 v3 v4 :=
  ⟨hx.cell h.c0, hx.cell h.c1, hx.cell h.c2, hx.cell h.c3, hx.cell h.c4, fun o => by rw [hx.frozen (p := ⟨b, o, none⟩) h.lt]; exact h.fz o⟩
theorem Five.new (w : World) (v0 v1 v2 v3 v4 : Value) (t : TypeId) {b : Nat} (hb : w.heap.size = b) : Five (w.alloc (.cells #[v0, v1, v2, v3, v4] t)) b v0 v1 v2 v3 v4 := by
  subst hb
  exact ⟨cell_newN w _ t 0, cell_newN w _ t 1, cell_newN w _ t 2, cell_newN w _ t 3, cell_newN w _ t 4, fun o => World.frozen?_alloc_at _ _ _ _ rfl⟩
theorem fOth {W : World} {b i j : Nat} {u v : Value} (h : decide (i = j) = false) (hc : W.cell? ⟨b, j, none⟩ = some v) : (W.setCell ⟨b, i, none⟩ u).cell? ⟨b, j, none⟩ = some v := by
  have := World.cell?_setCell_other W ⟨b, i, none⟩ ⟨b, j, none⟩ u (by intro e; cases e; simp at h)
  rw [this]; exact hc
theorem fSame {W : World} {b j : Nat} {u v : Value} (hc : W.cell? ⟨b, j, none⟩ = some v) : (W.setCell ⟨b, j, none⟩ u).cell? ⟨b, j, none⟩ = some u := World.cell?_setCell_same W _ _ hc
theorem Five.store {W : World} {b : Nat} {v0 v1 v2 v3 v4 : Value} (h : Five W b v0 v1 v2 v3 v4) (u0 u1 u2 u3 u4 : Value) : Five (((((W.setCell ⟨b, 0, none⟩ u0).setCell ⟨b, 1, none⟩ u1).setCell ⟨b, 2, none⟩ u2).setCell ⟨b, 3, none⟩ u3).setCell ⟨b, 4, none⟩ u4) b u0 u1 u2 u3 u4 := by
  refine ⟨?_, ?_, ?_, ?_, ?_, fun o => by simpa using h.fz o⟩
  · exact fOth rfl (fOth rfl (fOth rfl (fOth rfl (fSame h.c0))))
  · exact fOth rfl (fOth rfl (fOth rfl (fSame (fOth rfl h.c1))))
  · exact fOth rfl (fOth rfl (fSame (fOth rfl (fOth rfl h.c2))))
  · exact fOth rfl (fSame (fOth rfl (fOth rfl (fOth rfl h.c3))))
  · exact fSame (fOth rfl (fOth rfl (fOth rfl (fOth rfl h.c4))))
theorem far5 {W : World} {b : Nat} {a : Addr} (h : b ≠ a.block) {v0 v1 v2 v3 v4 v : Value} (hc : W.cell? a = some v) : (((((W.setCell ⟨b, 0, none⟩ v0).setCell ⟨b, 1, none⟩ v1).setCell ⟨b, 2, none⟩ v2).setCell ⟨b, 3, none⟩ v3).setCell ⟨b, 4, none⟩ v4).cell? a = some v := by
  rw [cell_far _ _ _ _ (by exact h), cell_far _ _ _ _ (by exact h), cell_far _ _ _ _ (by exact h), cell_far _ _ _ _ (by exact h), cell_far _ _ _ _ (by exact h)]
  exact hc
theorem Ext.set5 {w W : World} (h : Ext w W) {b : Nat} (hb : w.heap.size ≤ b) (u0 u1 u2 u3 u4 : Value) : Ext w (((((W.setCell ⟨b, 0, none⟩ u0).setCell ⟨b, 1, none⟩ u1).setCell ⟨b, 2, none⟩ u2).setCell ⟨b, 3, none⟩ u3).setCell ⟨b, 4, none⟩ u4) :=
  ((((h.setCell (p := ⟨b, 0, none⟩) hb u0).setCell (p := ⟨b, 1, none⟩) hb u1).setCell (p := ⟨b, 2, none⟩) hb u2).setCell (p := ⟨b, 3, none⟩) hb u3).setCell (p := ⟨b, 4, none⟩) hb u4

/-- How many of its class's slots lie ahead of a page. -/
def aheadP (c : Conf) (t : Nat) (p : Int) (k : Nat) : Int := (p - sG c t k) * perOf c k

set_option maxRecDepth 100000 in
set_option maxHeartbeats 8000000 in
theorem slot_in {b gp k : Nat} {c : Conf} {t : Nat} {p : Int} {w : World} (h : PlanAt w b gp c t) (hk : AtPage c t p k) :
    Calls Try.prog 82 #[.pointer (some ⟨b, 0, none⟩), .int .i64 p] w fun e w' => e = .returned (.tuple #[pv5 (partOf c t k), .int .i64 (aheadP c t p k)]) ∧ Ext w w' := by
  obtain ⟨cap, h0⟩ := h.parts
  have H := Lib.hid h
  have kl := hk.lt
  have m8 := h.ok.cl.most
  have HS := Lib.hid (h.ok.G_side h.ti hk)
  have k0 : (0 : Int) ≤ (k : Int) := Int.natCast_nonneg _
  have k1 : (k : Int) < (c.cl.length : Int) := by omega
  have bd := h.ok.bounds h.ti kl
  have u1 := bd.per1; have u2 := bd.per32; have u3 := bd.pg2048
  have gl := h.ok.sG_le h.ti (Nat.le_of_lt kl)
  obtain ⟨g0, g1⟩ := gl
  have lo := hk.lo
  have hi : p - sG c t k ≤ 2048 := by have := hk.hi; have e : sG c t (k + 1) = sG c t k + pagesOf c t k := rfl; omega
  have mb := mul_bd (a := p - sG c t k) (b := perOf c k) (A := 2048) (B := 32) (by omega) hi (by omega) u2
  obtain ⟨a, ha⟩ : ∃ a, (p - sG c t k) * perOf c k = a := ⟨_, rfl⟩
  have AH := Lib.hid (show aheadP c t p k = a from ha)
  have HA := Lib.hid ha
  rw [ha] at mb
  obtain ⟨a0, a1⟩ := mb
  have p1 : p ≤ 20480 := by omega
  obtain ⟨z, hz⟩ : ∃ z, w.heap.size = z := ⟨_, rfl⟩
  obtain ⟨W0, hW0⟩ : ∃ W0, (w.alloc (.cells #[.int .i64 p] 3)).alloc (.cells #[.int .i64 0, .int .i64 0, .int .i64 0, .int .i64 0, .int .i64 0] 106) = W0 := ⟨_, rfl⟩
  have x0 : Ext w W0 := by rw [← hW0]; exact ((Ext.refl _).alloc _).alloc _
  have cp : W0.cell? ⟨z, 0, none⟩ = some (.int .i64 p) := by rw [← hW0, ← hz]; exact ((Ext.refl _).alloc _).cell (cell_newN _ _ _ 0)
  have f0 : Five W0 (z + 1) (.int .i64 0) (.int .i64 0) (.int .i64 0) (.int .i64 0) (.int .i64 0) := by rw [← hW0]; exact Five.new _ _ _ _ _ _ _ (by simp [← hz])
  have hbz : b < z := by rw [← hz]; exact cell_lt h0
  have hgz : gp < z := by rw [← hz]; exact cell_lt (h.cells kl).1
  have F0 := Lib.hid f0; have CP := Lib.hid cp; have X0 := Lib.hid x0; have HZ := Lib.hid hz
  have PA := Lib.hid (h.ext x0)
  have hd : Ext W0 W0.drew := (Ext.refl _).drew
  have hb0 := x0.cell h0
  obtain ⟨r0, r1, r2, r3, r4⟩ := (h.ext x0).cells kl
  clear h hk bd ha f0 cp x0 h0
  go_enter Try.func82, Try.ntmps82
  go_wp2_with fail
  have nz1 : z + 1 ≠ b := by omega
  have nz2 : z + 1 ≠ gp := by omega
  go_region_held3 (fun w' => w'.cell? ⟨b, 0, none⟩ = some (.slice (some ⟨gp, 0, none⟩) c.cl.length cap) ∧ w'.cell? ⟨gp, k * 5, none⟩ = some (.int .i64 (nth c.cl k)) ∧ w'.cell? ⟨gp, k * 5 + 1, none⟩ = some (.int .i64 (sS c t k)) ∧ w'.cell? ⟨gp, k * 5 + 2, none⟩ = some (.int .i64 (slotsOf c t k)) ∧ w'.cell? ⟨gp, k * 5 + 3, none⟩ = some (.int .i64 (sG c t k)) ∧ w'.cell? ⟨gp, k * 5 + 4, none⟩ = some (.int .i64 (perOf c k)))
    ((first | with_reducible exact ⟨far5 nz1 (hE.cell hb0), far5 nz2 (hE.cell r0), far5 nz2 (hE.cell r1), far5 nz2 (hE.cell r2), far5 nz2 (hE.cell r3), far5 nz2 (hE.cell r4)⟩ | with_reducible exact ⟨hE.cell hb0, hE.cell r0, hE.cell r1, hE.cell r2, hE.cell r3, hE.cell r4⟩ | go_keep))
    ((go_at_call 89; refine (slot_last (K := k) 91 #[.pointer (some ⟨z, 0, none⟩)] (PA.out.ext hd) kl (fun i hi w' hx => slot_in1 (partOf c t i) p (decide (i ≤ k)) ⟨z, 0, none⟩ ((hd.trans hx).cell CP.out) (HS.out i hi)) enters_in1).mono ?_; rintro e w1 ⟨rfl, hE0⟩; have hE := hd.trans hE0; obtain ⟨q0, q1, q2, q3, q4, qf⟩ := F0.out.ext hE; have qf0 := qf 0; have qf1 := qf 1; have qf2 := qf 2; have qf3 := qf 3; have qf4 := qf 4))
  all_goals
    have F1 := Lib.hid ((F0.out.ext hE).store (.int .i64 (nth c.cl k)) (.int .i64 (sS c t k)) (.int .i64 (slotsOf c t k)) (.int .i64 (sG c t k)) (.int .i64 (perOf c k)))
    have zs : w.heap.size ≤ z + 1 := by have := HZ.out; omega
    have X1 := Lib.hid ((X0.out.trans hE).set5 zs (.int .i64 (nth c.cl k)) (.int .i64 (sS c t k)) (.int .i64 (slotsOf c t k)) (.int .i64 (sG c t k)) (.int .i64 (perOf c k)))
    have CP1 := Lib.hid (far5 (show z + 1 ≠ (⟨z, 0, none⟩ : Addr).block by simp) (hE.cell CP.out) (v0 := .int .i64 (nth c.cl k)) (v1 := .int .i64 (sS c t k)) (v2 := .int .i64 (slotsOf c t k)) (v3 := .int .i64 (sG c t k)) (v4 := .int .i64 (perOf c k)))
    clear q0 q1 q2 q3 q4 qf qf0 qf1 qf2 qf3 qf4 hb0 r0 r1 r2 r3 r4 hE hE0
    generalize (((((w1.setCell ⟨z + 1, 0, none⟩ (.int .i64 (nth c.cl k))).setCell ⟨z + 1, 1, none⟩ (.int .i64 (sS c t k))).setCell ⟨z + 1, 2, none⟩ (.int .i64 (slotsOf c t k))).setCell ⟨z + 1, 3, none⟩ (.int .i64 (sG c t k))).setCell ⟨z + 1, 4, none⟩ (.int .i64 (perOf c k))) = w2 at *
    obtain ⟨q0, q1, q2, q3, q4, qf⟩ := F1.out
    have qf0 := qf 0; have qf1 := qf 1; have qf2 := qf 2; have qf3 := qf 3; have qf4 := qf 4
    have cp2 := CP1.out
    have ha := HA.out
    have hd2 : Ext w2 w2.drew := (Ext.refl _).drew
    have F2 := Lib.hid ((F1.out.store (.int .i64 (nth c.cl k)) (.int .i64 (sS c t k)) (.int .i64 (slotsOf c t k)) (.int .i64 (sG c t k)) (.int .i64 (perOf c k))).ext (Ext.refl _).drew)
    have zs2 : w.heap.size ≤ z + 1 := zs
    have X2 := Lib.hid ((X1.out.set5 zs2 (.int .i64 (nth c.cl k)) (.int .i64 (sS c t k)) (.int .i64 (slotsOf c t k)) (.int .i64 (sG c t k)) (.int .i64 (perOf c k))).drew)
    have CP2 := Lib.hid ((Ext.refl _).drew.cell (far5 (show z + 1 ≠ (⟨z, 0, none⟩ : Addr).block by simp) cp2 (v0 := .int .i64 (nth c.cl k)) (v1 := .int .i64 (sS c t k)) (v2 := .int .i64 (slotsOf c t k)) (v3 := .int .i64 (sG c t k)) (v4 := .int .i64 (perOf c k))))
    go_wp2_with fail
    go_region_held3 (fun w' => w'.cell? ⟨z + 1, 0, none⟩ = some (.int .i64 (nth c.cl k)) ∧ w'.cell? ⟨z + 1, 1, none⟩ = some (.int .i64 (sS c t k)) ∧ w'.cell? ⟨z + 1, 2, none⟩ = some (.int .i64 (slotsOf c t k)) ∧ w'.cell? ⟨z + 1, 3, none⟩ = some (.int .i64 (sG c t k)) ∧ w'.cell? ⟨z + 1, 4, none⟩ = some (.int .i64 (perOf c k)) ∧ w'.cell? ⟨z, 0, none⟩ = some (.int .i64 p))
      ((first | with_reducible exact ⟨F2.out.c0, F2.out.c1, F2.out.c2, F2.out.c3, F2.out.c4, CP2.out⟩ | with_reducible exact ⟨hd2.cell q0, hd2.cell q1, hd2.cell q2, hd2.cell q3, hd2.cell q4, hd2.cell cp2⟩ | go_keep))
      (fail)
    all_goals
      clear q0 q1 q2 q3 q4 qf qf0 qf1 qf2 qf3 qf4 cp2
      obtain ⟨q0, q1, q2, q3, q4, qf⟩ := F2.out
      go_wp2_with fail
      refine bodyPost_ret (v := .tuple #[pv5 (partOf c t k), .int .i64 a]) (by simp [results, Try.results82, go_sem, q0, q1, q2, q3, q4, pv5, partOf, IntWalk.i64_in (p - sG c t k) (by omega), HA.out, IntWalk.i64_in a (by omega)]) rfl ⟨by rw [AH.out], X2.out⟩

end Go.Proofs.Yteopbobhphghhaa
