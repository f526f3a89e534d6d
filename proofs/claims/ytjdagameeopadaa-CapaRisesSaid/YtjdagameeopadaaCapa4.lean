/-
  capa.Get.
-/
import Derived.Test.YtjdagameeopadaaCapa3
namespace Go.Proofs.Ytjdagameeopadaa
open Go.RowKit

theorem enters_Get1 : Enters Try.prog 45 := Enters.mk Try.func45 (by kernel_rfl) rfl

set_option linter.unusedSimpArgs false in
set_option maxHeartbeats 4000000 in
theorem capa_Get (u : Int) (c : Hnd) (q : Int) {w : World} (hpq : hget u = (c, q)) (h0 : 0 ≤ u) (h1 : u < 18446744073709551616) :
    Calls Try.prog 25 #[.int .u64 u] w fun e w' => e = .returned (.tuple #[.agg #[.int .i64 c.t, .int .i64 c.i, .int .u32 c.g], .int .i64 q]) ∧ Ext w w' := by
  have UN := Lib.hid (hget_unpack h0 h1)
  have U := Lib.hid h1; clear h1
  go_enter Try.func25, Try.ntmps25
  go_wp2_with fail
  refine (capa_widths _).mono ?_
  rintro e w1 ⟨a1, rfl, hA1, hE1⟩
  go_wp2_with fail
  refine (field_Unpack hws u _ 0 UN.out hA1 (by decide) h0 U.out).mono ?_
  rintro e w2 ⟨la, lc, rfl, hn, hE2⟩
  have HN := Lib.hid hn; clear hn
  go_wp2_with fail
  have hla : ∀ x o, la = some ⟨x, o, none⟩ → x ≠ w2.heap.size := fun x o e => by
    obtain ⟨g0, e2, _, h3, _⟩ := HN.out.own (show 0 < 3 by decide)
    rw [e2] at e; cases e; exact Nat.ne_of_lt h3
  have HLA := Lib.hid hla; clear hla
  have n0 := World.new_ne (w2.alloc (.cells #[.slice la 3 lc] 35)) _ (cell_new1 w2 (.slice la 3 lc) 35)
  go_region_held3 (fun w' => w'.cell? ⟨w2.heap.size, 0, none⟩ = some (.slice la 3 lc))
    ((first | exact hE.cell (by assumption) | go_keep))
    ((go_at_call 44; refine (capa_widths _).mono ?_; rintro e w3 ⟨a3, rfl, hA3, hE⟩))
  have c3 : w3.cell? ⟨w2.heap.size, 0, none⟩ = some (.slice la 3 lc) := hE.cell (by simp)
  have f3 : w3.frozen? ⟨w2.heap.size, 0, none⟩ = false := hE.frozenAt (v := .slice la 3 lc) (by simp) (by simp)
  have X3 : Ext w2 w3 := ((Ext.refl w2).alloc (.cells #[.slice la 3 lc] 35)).drew.trans hE
  have XW : Ext (w.alloc (.cells #[.int .i64 0, .int .i64 0, .int .u32 0] 48)) w2 := hE1.trans hE2
  have L3 := Lib.hid (show 3 ≤ lc from HN.out.cap1)
  have M3 := Lib.hid HN.out.cap2
  have A3 := Lib.hid (HN.out.row.ext X3)
  have Z3 := Lib.hid (XW.trans X3)
  have S3 := Lib.hid XW.size
  clear n0 hE X3 hA3 hA1 HN
  obtain ⟨g, hg⟩ : ∃ g, (hraw u).g = g := ⟨_, rfl⟩
  obtain ⟨i, hi⟩ : ∃ i, (hraw u).i = i := ⟨_, rfl⟩
  obtain ⟨t, ht⟩ : ∃ t, (hraw u).t = t := ⟨_, rfl⟩
  rw [hg, hi, ht] at A3
  have bd : 0 ≤ g ∧ g < 4294967296 ∧ 0 ≤ i ∧ i < 16777216 ∧ 0 ≤ t ∧ t < 256 := by
    have := U.out
    unfold hraw at hg hi ht
    simp only at hg hi ht
    omega
  obtain ⟨bg0, bg1, bi0, bi1, bt0, bt1⟩ := bd
  have HG := Lib.hid hg; have HI := Lib.hid hi; have HT := Lib.hid ht
  clear hg hi ht
  go_wp2_with fail
  refine (capa_Get1 [i, t] g c3 f3 A3.out rfl L3.out M3.out HLA.out).mono ?_
  rintro e w4 ⟨p1, rfl, hw4, hA4, hn4⟩
  have c4 : w4.cell? ⟨w2.heap.size, 0, none⟩ = some (.slice p1 2 (lc - 1)) := by rw [hw4]; exact World.cell?_setCell_same w3 _ _ c3
  have f4 : w4.frozen? ⟨w2.heap.size, 0, none⟩ = false := by rw [hw4]; simpa using f3
  have Z4 : Hid (Ext (w.alloc (.cells #[.int .i64 0, .int .i64 0, .int .u32 0] 48)) w4) := Lib.hid (by rw [hw4]; exact Z3.out.setCell S3.out _)
  have R1 := Lib.hid hn4
  have A4 := Lib.hid hA4
  clear hw4 hn4 hA4 c3 f3
  go_wp2_with fail
  refine (capa_Get1 [t] i c4 f4 A4.out rfl (by have := L3.out; omega) (by have := M3.out; omega) R1.out).mono ?_
  rintro e w5 ⟨p2, rfl, hw5, hA5, hn5⟩
  have c5 : w5.cell? ⟨w2.heap.size, 0, none⟩ = some (.slice p2 1 (lc - 1 - 1)) := by rw [hw5]; exact World.cell?_setCell_same w4 _ _ c4
  have f5 : w5.frozen? ⟨w2.heap.size, 0, none⟩ = false := by rw [hw5]; simpa using f4
  have Z5 : Hid (Ext (w.alloc (.cells #[.int .i64 0, .int .i64 0, .int .u32 0] 48)) w5) := Lib.hid (by rw [hw5]; exact Z4.out.setCell S3.out _)
  have R2 := Lib.hid hn5
  have A5 := Lib.hid hA5
  clear hw5 hn5 hA5 c4 f4
  go_wp2_with fail
  by_cases hz : g = 0
  · have hzb : (g == 0) = true := by simpa using hz
    refine (capa_Get1 [] t c5 f5 A5.out rfl (by have := L3.out; omega) (by have := M3.out; omega) R2.out).mono ?_
    rintro e w6 ⟨p3, rfl, hw6, hA6, hn6⟩
    have c6 : w6.cell? ⟨w2.heap.size, 0, none⟩ = some (.slice p3 0 (lc - 1 - 1 - 1)) := by rw [hw6]; exact World.cell?_setCell_same w5 _ _ c5
    have f6 : w6.frozen? ⟨w2.heap.size, 0, none⟩ = false := by rw [hw6]; simpa using f5
    have Z6 : Hid (Ext (w.alloc (.cells #[.int .i64 0, .int .i64 0, .int .u32 0] 48)) w6) := Lib.hid (by rw [hw6]; exact Z5.out.setCell S3.out _)
    have R3 := Lib.hid hn6
    have A6 := Lib.hid hA6
    clear hw6 hn6 hA6 c5 f5
    have r0 := Z6.out.cell (cell_newN w #[.int .i64 0, .int .i64 0, .int .u32 0] 48 0)
    have r1 := Z6.out.cell (cell_newN w #[.int .i64 0, .int .i64 0, .int .u32 0] 48 1)
    have r2 := Z6.out.cell (cell_newN w #[.int .i64 0, .int .i64 0, .int .u32 0] 48 2)
    have q0 : w6.frozen? ⟨w.heap.size, 0, none⟩ = false := Z6.out.frozenAt (v := .int .i64 0) (cell_newN w #[.int .i64 0, .int .i64 0, .int .u32 0] 48 0) (by simp)
    have q1 : w6.frozen? ⟨w.heap.size, 1, none⟩ = false := Z6.out.frozenAt (v := .int .i64 0) (cell_newN w #[.int .i64 0, .int .i64 0, .int .u32 0] 48 1) (by simp)
    have q2 : w6.frozen? ⟨w.heap.size, 2, none⟩ = false := Z6.out.frozenAt (v := .int .u32 0) (cell_newN w #[.int .i64 0, .int .i64 0, .int .u32 0] 48 2) (by simp)
    have hlt6 : w.heap.size < w6.heap.size := cell_lt r0
    replace r0 : w6.cell? ⟨w.heap.size, 0, none⟩ = some (.int .i64 0) := r0
    replace r1 : w6.cell? ⟨w.heap.size, 1, none⟩ = some (.int .i64 0) := r1
    replace r2 : w6.cell? ⟨w.heap.size, 2, none⟩ = some (.int .u32 0) := r2
    go_wp2_with fail
    have hgu : u % 4294967296 = g := HG.out
    have e0 : hget u = (hnil, 130) := by unfold hget; rw [hgu]; rw [if_pos hz]
    rw [e0] at hpq
    cases hpq
    have Z : Ext w w6 := ((Ext.refl w).alloc _).trans Z6.out
    refine bodyPost_ret (v := .tuple #[.agg #[.int .i64 0, .int .i64 0, .int .u32 0], .int .i64 130]) (by simp [results, Try.results25, go_sem, r0, r1, r2, hlt6, World.cell?_alloc_past, World.cell?_setCell_same, World.cell?_setCell_other]) rfl ⟨rfl, ?_⟩
    repeat (first | exact Z | refine Ext.alloc ?_ _ | refine Ext.setCell ?_ (Nat.le_refl _) _ | refine Ext.setCell ?_ (Nat.le_of_lt hlt6) _ | refine Ext.drew ?_)
  · have hzb : (g == 0) = false := by simpa using hz
    refine (capa_Get1 [] t c5 f5 A5.out rfl (by have := L3.out; omega) (by have := M3.out; omega) R2.out).mono ?_
    rintro e w6 ⟨p3, rfl, hw6, hA6, hn6⟩
    have c6 : w6.cell? ⟨w2.heap.size, 0, none⟩ = some (.slice p3 0 (lc - 1 - 1 - 1)) := by rw [hw6]; exact World.cell?_setCell_same w5 _ _ c5
    have f6 : w6.frozen? ⟨w2.heap.size, 0, none⟩ = false := by rw [hw6]; simpa using f5
    have Z6 : Hid (Ext (w.alloc (.cells #[.int .i64 0, .int .i64 0, .int .u32 0] 48)) w6) := Lib.hid (by rw [hw6]; exact Z5.out.setCell S3.out _)
    have R3 := Lib.hid hn6
    have A6 := Lib.hid hA6
    clear hw6 hn6 hA6 c5 f5
    have r0 := Z6.out.cell (cell_newN w #[.int .i64 0, .int .i64 0, .int .u32 0] 48 0)
    have r1 := Z6.out.cell (cell_newN w #[.int .i64 0, .int .i64 0, .int .u32 0] 48 1)
    have r2 := Z6.out.cell (cell_newN w #[.int .i64 0, .int .i64 0, .int .u32 0] 48 2)
    have q0 : w6.frozen? ⟨w.heap.size, 0, none⟩ = false := Z6.out.frozenAt (v := .int .i64 0) (cell_newN w #[.int .i64 0, .int .i64 0, .int .u32 0] 48 0) (by simp)
    have q1 : w6.frozen? ⟨w.heap.size, 1, none⟩ = false := Z6.out.frozenAt (v := .int .i64 0) (cell_newN w #[.int .i64 0, .int .i64 0, .int .u32 0] 48 1) (by simp)
    have q2 : w6.frozen? ⟨w.heap.size, 2, none⟩ = false := Z6.out.frozenAt (v := .int .u32 0) (cell_newN w #[.int .i64 0, .int .i64 0, .int .u32 0] 48 2) (by simp)
    have hlt6 : w.heap.size < w6.heap.size := cell_lt r0
    replace r0 : w6.cell? ⟨w.heap.size, 0, none⟩ = some (.int .i64 0) := r0
    replace r1 : w6.cell? ⟨w.heap.size, 1, none⟩ = some (.int .i64 0) := r1
    replace r2 : w6.cell? ⟨w.heap.size, 2, none⟩ = some (.int .u32 0) := r2
    go_wp2_with fail
    have hgu : u % 4294967296 = g := HG.out
    have e0 : hget u = (hraw u, 0) := by unfold hget; rw [hgu]; rw [if_neg hz]
    rw [e0] at hpq
    cases hpq
    have Z : Ext w w6 := ((Ext.refl w).alloc _).trans Z6.out
    refine bodyPost_ret (v := .tuple #[.agg #[.int .i64 t, .int .i64 i, .int .u32 g], .int .i64 0]) (by simp [results, Try.results25, go_sem, r0, r1, r2, hlt6, World.cell?_alloc_past, World.cell?_setCell_same, World.cell?_setCell_other]) rfl ⟨(by rw [HT.out, HI.out, HG.out]), ?_⟩
    repeat (first | exact Z | refine Ext.alloc ?_ _ | refine Ext.setCell ?_ (Nat.le_refl _) _ | refine Ext.setCell ?_ (Nat.le_of_lt hlt6) _ | refine Ext.drew ?_)

end Go.Proofs.Ytjdagameeopadaa
