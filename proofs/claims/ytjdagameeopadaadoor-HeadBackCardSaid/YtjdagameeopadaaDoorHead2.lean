/-
  head.Get.
-/
import Derived.Test.YtjdagameeopadaaDoorHead
namespace Go.Proofs.YtjdagameeopadaaDoor
open Go.RowKit

theorem hdis_iff {u x0 x4 : Int} {h : Hd} (e0 : u % 65536 = x0) (e4 : u / 72057594037927936 = x4) (eh : hdraw u = h) : hdis u ↔ x0 = 0 ∧ x4 = 199 ∧ hdok h := by
  unfold hdis; rw [e0, e4, eh]

set_option maxHeartbeats 4000000 in
theorem head_Get (u : Int) (h : Hd) (q : Int) {w : World} (hpq : hdget u = (h, q)) (h0 : 0 ≤ u) (h1 : u < 18446744073709551616) (hW : Wid w) :
    Calls Tryd.prog 8 #[.int .u64 u] w fun e w' => e = .returned (.tuple #[.agg #[.int .i64 h.c, .int .i64 h.r, .int .i64 h.w], .int .i64 q]) ∧ Ext w w' := by
  have UN0 := hdget_unpack h0 h1
  have U := Lib.hid h1
  obtain ⟨c, r, x, hx⟩ : ∃ c r x, hdraw u = ⟨c, r, x⟩ := ⟨_, _, _, rfl⟩
  obtain ⟨x0, e0⟩ : ∃ x0, u % 65536 = x0 := ⟨_, rfl⟩
  obtain ⟨x4, e4⟩ : ∃ x4, u / 72057594037927936 = x4 := ⟨_, rfl⟩
  have ec : u / 281474976710656 % 256 = c := congrArg Hd.c hx
  have er : u / 4294967296 % 65536 = r := congrArg Hd.r hx
  have ex : u / 65536 % 65536 = x := congrArg Hd.w hx
  have c0 : 0 ≤ c := by omega
  have c1 : c < 256 := by omega
  have r0 : 0 ≤ r := by omega
  have r1 : r < 65536 := by omega
  have y0 : 0 ≤ x := by omega
  have y1 : x < 65536 := by omega
  have hi := hdis_iff e0 e4 hx
  rw [hx, e0, e4] at UN0
  have UN := Lib.hid UN0
  have HX := Lib.hid hx
  clear UN0 hx h1 ec er ex e0 e4
  obtain ⟨g0, g1, g2, g3, g4⟩ := hW
  have gz : 0 < w.heap.size := cell_lt g0
  have cases4 : (∃ m, (x0 != 0) = false ∧ (x4 != 199) = false ∧ decide (hdok ⟨c, r, x⟩) = m ∧ (h, q) = (if m then (⟨c, r, x⟩, 0) else (hdnil, 5))) ∨ ((x0 != 0) = false ∧ (x4 != 199) = true ∧ h = hdnil ∧ q = 5) ∨ ((x0 != 0) = true ∧ h = hdnil ∧ q = 5) := by
    by_cases k0 : x0 = 0
    · by_cases k4 : x4 = 199
      · refine .inl ⟨_, by simpa using k0, by simpa using k4, rfl, ?_⟩
        by_cases k : hdok ⟨c, r, x⟩
        · rw [hdget_yes (hi.2 ⟨k0, k4, k⟩), HX.out] at hpq
          simp only [k, decide_true]; exact hpq.symm
        · rw [hdget_no (fun a => k (hi.1 a).2.2)] at hpq
          simp only [k, decide_false]; exact hpq.symm
      · rw [hdget_no (fun a => k4 (hi.1 a).2.1)] at hpq
        cases hpq
        exact .inr (.inl ⟨by simpa using k0, by simpa using k4, rfl, rfl⟩)
    · rw [hdget_no (fun a => k0 (hi.1 a).1)] at hpq
      cases hpq
      exact .inr (.inr ⟨by simpa using k0, rfl, rfl⟩)
  have C4 := Lib.hid cases4
  clear cases4 hi hpq
  go_enter Tryd.func8, Tryd.ntmps8
  go_wp2_with fail
  have hz : Ext w ((w.alloc (.cells #[.int .i64 0, .int .i64 0, .int .i64 0] 23)).alloc (.cells #[.int .i64 16, .int .i64 16, .int .i64 16, .int .i64 8, .int .i64 8] 49)) := ((Ext.refl w).alloc _).alloc _
  have hz1 : Ext (w.alloc (.cells #[.int .i64 0, .int .i64 0, .int .i64 0] 23)) ((w.alloc (.cells #[.int .i64 0, .int .i64 0, .int .i64 0] 23)).alloc (.cells #[.int .i64 16, .int .i64 16, .int .i64 16, .int .i64 8, .int .i64 8] 49)) := (Ext.refl _).alloc _
  have HA := Lib.hid (At.newb .i64 (w.alloc (.cells #[.int .i64 0, .int .i64 0, .int .i64 0] 23)) hdws 49 (w.heap.size + 1) (by simp))
  clear g0 g1 g2 g3 g4
  refine (field_Unpack hdws u _ 0 UN.out HA.out (by decide) h0 U.out).mono ?_
  rintro e w2 ⟨la, lc, rfl, hn, hE2⟩
  obtain ⟨g, rfl, hg1, hg2, hg3⟩ := hn.own (show 0 < 5 by decide)
  obtain ⟨b, o, hbo, hcell⟩ := hn.row.pos (show 0 < 5 by decide)
  cases hbo
  have l0 := hcell 0 (show 0 < 5 by decide); have l1 := hcell 1 (show 1 < 5 by decide); have l2 := hcell 2 (show 2 < 5 by decide); have l3 := hcell 3 (show 3 < 5 by decide); have l4 := hcell 4 (show 4 < 5 by decide)
  simp only [Nat.zero_add] at l0 l1 l2 l3 l4
  replace l0 : w2.cell? ⟨g, 0, none⟩ = some (.int .u64 x0) := l0
  replace l1 : w2.cell? ⟨g, 1, none⟩ = some (.int .u64 x) := l1
  replace l2 : w2.cell? ⟨g, 2, none⟩ = some (.int .u64 r) := l2
  replace l3 : w2.cell? ⟨g, 3, none⟩ = some (.int .u64 c) := l3
  replace l4 : w2.cell? ⟨g, 4, none⟩ = some (.int .u64 x4) := l4
  have H2 := Lib.hid (hz1.trans hE2)
  have p0 := H2.out.cell (cell_newN w #[.int .i64 0, .int .i64 0, .int .i64 0] 23 0)
  have p1 := H2.out.cell (cell_newN w #[.int .i64 0, .int .i64 0, .int .i64 0] 23 1)
  have p2 := H2.out.cell (cell_newN w #[.int .i64 0, .int .i64 0, .int .i64 0] 23 2)
  have q0 : w2.frozen? ⟨w.heap.size, 0, none⟩ = false := H2.out.frozenAt (v := .int .i64 0) (cell_newN w #[.int .i64 0, .int .i64 0, .int .i64 0] 23 0) (by simp)
  have q1 : w2.frozen? ⟨w.heap.size, 1, none⟩ = false := H2.out.frozenAt (v := .int .i64 0) (cell_newN w #[.int .i64 0, .int .i64 0, .int .i64 0] 23 1) (by simp)
  have q2 : w2.frozen? ⟨w.heap.size, 2, none⟩ = false := H2.out.frozenAt (v := .int .i64 0) (cell_newN w #[.int .i64 0, .int .i64 0, .int .i64 0] 23 2) (by simp)
  have hlt : w.heap.size < w2.heap.size := cell_lt p0
  have Z : Ext w w2 := ((Ext.refl w).alloc _).trans H2.out
  replace p0 : w2.cell? ⟨w.heap.size, 0, none⟩ = some (.int .i64 0) := p0
  replace p1 : w2.cell? ⟨w.heap.size, 1, none⟩ = some (.int .i64 0) := p1
  replace p2 : w2.cell? ⟨w.heap.size, 2, none⟩ = some (.int .i64 0) := p2
  have HZ := Lib.hid Z
  clear hn hcell hg3 hz hE2 hg1 HA Z hz1
  rcases C4.out with ⟨m, k0, k4, km, hm⟩ | ⟨k0, k4, rfl, rfl⟩ | ⟨k0, rfl, rfl⟩
  · have KM := Lib.hid km; clear km C4
    have HM := Lib.hid hm; clear hm
    go_wp2_with fail
    go_region
    go_wp2_with fail
    refine (head_may ⟨c, r, x⟩ m KM.out).mono ?_
    rintro e w3 ⟨rfl, h2⟩
    have X3 : Ext (w2.alloc (.cells #[.int .i64 c, .int .i64 r, .int .i64 x] 23)) w3 := (by repeat (first | exact Ext.refl _ | refine Ext.drew ?_) : Ext _ _).trans h2
    obtain ⟨b0, b1, b2⟩ := hbox X3
    have Y3 := ((Ext.refl w2).alloc (.cells #[.int .i64 c, .int .i64 r, .int .i64 x] 23)).trans X3
    have s0 := Y3.cell p0; have s1 := Y3.cell p1; have s2 := Y3.cell p2
    have t0 := Y3.frozenAt p0 q0; have t1 := Y3.frozenAt p1 q1; have t2 := Y3.frozenAt p2 q2
    have hl3 := cell_lt s0
    clear p0 p1 p2 q0 q1 q2 h2
    cases m
    · obtain ⟨rfl, rfl⟩ : h = hdnil ∧ q = 5 := by have e : (h, q) = (hdnil, 5) := HM.out; simpa using e
      go_wp2_with fail
      refine bodyPost_ret (v := .tuple #[.agg #[.int .i64 0, .int .i64 0, .int .i64 0], .int .i64 5]) (by simp [results, Tryd.results8, go_sem, s0, s1, s2, World.cell?_setCell_same, World.cell?_setCell_other]) rfl ⟨rfl, ?_⟩
      repeat (first | exact HZ.out.trans Y3 | refine Ext.setCell ?_ (Nat.le_refl _) _)
    · obtain ⟨rfl, rfl⟩ : h = ⟨c, r, x⟩ ∧ q = 0 := by have e : (h, q) = (⟨c, r, x⟩, 0) := HM.out; simpa using e
      go_wp2_with fail
      refine bodyPost_ret (v := .tuple #[.agg #[.int .i64 c, .int .i64 r, .int .i64 x], .int .i64 0]) (by simp [results, Tryd.results8, go_sem, s0, s1, s2, World.cell?_setCell_same, World.cell?_setCell_other]) rfl ⟨rfl, ?_⟩
      repeat (first | exact HZ.out.trans Y3 | refine Ext.setCell ?_ (Nat.le_refl _) _)
  all_goals
    go_wp2_with fail
    go_region
    go_wp2_with fail
    refine bodyPost_ret (v := .tuple #[.agg #[.int .i64 0, .int .i64 0, .int .i64 0], .int .i64 5]) (by simp [results, Tryd.results8, go_sem, p0, p1, p2, hlt, World.cell?_alloc_past, World.cell?_setCell_same, World.cell?_setCell_other]) rfl ⟨rfl, ?_⟩
    repeat (first | exact HZ.out | refine Ext.drew ?_ | refine Ext.alloc ?_ _ | refine Ext.setCell ?_ (Nat.le_refl _) _)

end Go.Proofs.YtjdagameeopadaaDoor
