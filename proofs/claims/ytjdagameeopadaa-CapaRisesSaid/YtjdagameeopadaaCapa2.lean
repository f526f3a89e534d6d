/-
  capa.Put, Get, Next, Elder.
-/
import Derived.Test.YtjdagameeopadaaCapa
namespace Go.Proofs.Ytjdagameeopadaa
open Go.RowKit

theorem box3 {w w1 : World} {v0 v1 v2 : Value} {t : TypeId} (hx : Ext (w.alloc (.cells #[v0, v1, v2] t)) w1) :
    w1.cell? ⟨w.heap.size, 0, none⟩ = some v0 ∧ w1.cell? ⟨w.heap.size, 1, none⟩ = some v1 ∧ w1.cell? ⟨w.heap.size, 2, none⟩ = some v2 :=
  ⟨hx.cell (cell_newN w _ t 0), hx.cell (cell_newN w _ t 1), hx.cell (cell_newN w _ t 2)⟩

set_option maxHeartbeats 4000000 in
theorem capa_Put (c : Hnd) (p q : Int) {w : World} (hpq : hput c = (p, q)) (hg : 0 ≤ c.g ∧ c.g < 4294967296) :
    Calls Try.prog 22 #[.agg #[.int .i64 c.t, .int .i64 c.i, .int .u32 c.g]] w fun e w' => e = .returned (.tuple #[.int .u64 p, .int .i64 q]) ∧ Ext w w' := by
  have h1 := Ext.refl (w.alloc (.cells #[.int .i64 c.t, .int .i64 c.i, .int .u32 c.g] 48))
  have hx := (Ext.refl w).alloc (.cells #[.int .i64 c.t, .int .i64 c.i, .int .u32 c.g] 48)
  obtain ⟨t, i, g⟩ := c
  simp only at hg h1 hx ⊢
  have g0 := hg.1; have g1 := hg.2
  by_cases hz : g = 0
  · have E := Lib.hid (show (0, 2) = (p, q) by rw [← hpq]; unfold hput; rw [if_neg (fun c => c.1 hz)])
    subst hz
    clear hpq hg
    go_enter Try.func22, Try.ntmps22
    go_wp2_with fail
    go_ret2
    cases E.out
    exact ⟨rfl, hx⟩
  · have hzb : (g == 0) = false := by simpa using hz
    cases hf : decide ((0 ≤ t ∧ t < 256) ∧ 0 ≤ i ∧ i < 16777216)
    · have E := Lib.hid (show (0, 2) = (p, q) by
        rw [← hpq]; unfold hput
        rw [if_neg]
        intro c
        have := of_decide_eq_false hf
        exact this ⟨⟨c.2.1, c.2.2.1⟩, c.2.2.2.1, c.2.2.2.2⟩)
      have HF := Lib.hid hf
      clear hpq hf hz hg
      go_enter Try.func22, Try.ntmps22
      go_wp2_with fail
      have hA : At .i64 ((w.alloc (.cells #[.int .i64 t, .int .i64 i, .int .u32 g] 48)).alloc (.cells #[.int .i64 t, .int .i64 8, .int .i64 i, .int .i64 24] 3)) (some ⟨w.heap.size + 1, 0, none⟩) [t, 8, i, 24] := At.newb .i64 _ [t, 8, i, 24] _ _ (by simp)
      have HA := Lib.hid hA; clear hA
      refine (capa_fit t i false HA.out HF.out).mono ?_
      rintro e w1 ⟨rfl, h2⟩
      go_wp2_with fail
      go_ret2
      cases E.out
      exact ⟨rfl, (hx.alloc _).trans h2⟩
    · obtain ⟨⟨t0, t1⟩, i0, i1⟩ := of_decide_eq_true hf
      have hok' : hok ⟨t, i, g⟩ := ⟨hz, t0, t1, i0, i1⟩
      have E := Lib.hid (show (hword ⟨t, i, g⟩, 0) = (p, q) by rw [← hpq]; unfold hput; rw [if_pos hok'])
      have PK : Hid (packR hws [g, i, t] = (hword ⟨t, i, g⟩, 0)) := Lib.hid (hput_pack hok' hg)
      have M3 : Hid ([g, i, t].length ≤ maxLen) := Lib.hid (show 3 ≤ maxLen by decide)
      have HB : Hid (∀ n ∈ [g, i, t], 0 ≤ n ∧ n < 18446744073709551616) := Lib.hid (by intro n hn; simp at hn; rcases hn with rfl | rfl | rfl <;> omega)
      have HF := Lib.hid hf
      clear hpq hf hz hg hok'
      generalize hword ⟨t, i, g⟩ = hw at *
      go_enter Try.func22, Try.ntmps22
      go_wp2_with fail
      have hA : At .i64 ((w.alloc (.cells #[.int .i64 t, .int .i64 i, .int .u32 g] 48)).alloc (.cells #[.int .i64 t, .int .i64 8, .int .i64 i, .int .i64 24] 3)) (some ⟨w.heap.size + 1, 0, none⟩) [t, 8, i, 24] := At.newb .i64 _ [t, 8, i, 24] _ _ (by simp)
      have HA := Lib.hid hA; clear hA
      refine (capa_fit t i true HA.out HF.out).mono ?_
      rintro e w1 ⟨rfl, h2⟩
      replace h1 := (h1.alloc (.cells #[.int .i64 t, .int .i64 8, .int .i64 i, .int .i64 24] 3)).trans h2
      clear h2
      obtain ⟨b0, b1, b2⟩ := box3 h1
      go_wp2_with fail
      have wg : IntKind.u64.wrap g = g := by rw [IntKind.wrap_u64]; exact Int.emod_eq_of_lt g0 (by omega)
      have wi : IntKind.u64.wrap i = i := by rw [IntKind.wrap_u64]; exact Int.emod_eq_of_lt i0 (by omega)
      have wt : IntKind.u64.wrap t = t := by rw [IntKind.wrap_u64]; exact Int.emod_eq_of_lt t0 (by omega)
      have n0 := World.new_ne w1 _ b0
      have n1 := World.new_ne w1 _ b1
      have n2 := World.new_ne w1 _ b2
      go_region_held3 (fun w' => w'.cell? ⟨w.heap.size, 0, none⟩ = some (.int .i64 t) ∧ w'.cell? ⟨w.heap.size, 1, none⟩ = some (.int .i64 i) ∧ w'.cell? ⟨w.heap.size, 2, none⟩ = some (.int .u32 g))
        ((first | go_keep | (go_split_ands; exact ⟨hE.cell (by assumption), hE.cell (by assumption), hE.cell (by assumption)⟩) | (go_split_ands; exact ⟨((Ext.refl _).alloc _).cell d0, ((Ext.refl _).alloc _).cell d1, ((Ext.refl _).alloc _).cell d2⟩)))
        (first | (go_at_call 44; refine (capa_widths _).mono ?_; rintro e w5 ⟨a1, rfl, hA1, hE⟩; have hX : Ext (w.alloc (.cells #[.int .i64 t, .int .i64 i, .int .u32 g] 48)) w5 := Ext.trans (by repeat (first | assumption | refine Ext.alloc ?_ _ | refine Ext.drew ?_)) hE; obtain ⟨d0, d1, d2⟩ := box3 hX) | (go_at_call 17; refine (field_Pack hws [g, i, t] hw 0 PK.out ?_ (by decide) ?_ M3.out HB.out).mono ?_; (first | exact hA1 | exact hA1.ext ((Ext.refl _).alloc _) | fail); (first | exact At.newb .u64 w5 [g, i, t] _ _ rfl | exact (At.newb .u64 w1 [g, i, t] _ _ rfl).ext hE | exact (At.newb .u64 w1 [g, i, t] _ _ rfl).ext ((Ext.refl _).drew.trans hE) | fail); rintro e w6 ⟨rfl, hE⟩; have hX6 : Ext (w.alloc (.cells #[.int .i64 t, .int .i64 i, .int .u32 g] 48)) w6 := Ext.trans (by repeat (first | assumption | refine Ext.alloc ?_ _ | refine Ext.drew ?_)) hE))
      all_goals
        go_wp2_with fail
        go_ret2
        cases E.out
        exact ⟨rfl, hx.trans hX6⟩

end Go.Proofs.Ytjdagameeopadaa
