/-
  capa.Next, Elder.
-/
import Derived.Test.YtjdagameeopadaaCapa4
namespace Go.Proofs.Ytjdagameeopadaa
open Go.RowKit

theorem hput_yes {c : Hnd} (h : hok c) : hput c = (hword c, 0) := by unfold hput; rw [if_pos h]
theorem hput_no {c : Hnd} (h : ¬ hok c) : hput c = (0, 2) := by unfold hput; rw [if_neg h]
theorem hget_yes {u : Int} (h : u % 4294967296 ≠ 0) : hget u = (hraw u, 0) := by unfold hget; rw [if_neg h]
theorem hget_no {u : Int} (h : u % 4294967296 = 0) : hget u = (hnil, 130) := by unfold hget; rw [if_pos h]
/-- The next generation's word. -/
theorem hput_next {u : Int} (h0 : 0 ≤ u) (h1 : u < 18446744073709551616) (h : u % 4294967296 ≠ 0) (hg : u % 4294967296 + 1 < 4294967296) :
    hput ⟨(hraw u).t, (hraw u).i, (hraw u).g + 1⟩ = (u + 1, 0) := by
  have r := hraw_ok h0 h1 h
  rw [hput_yes]
  · unfold hword hraw; simp only; congr 1; omega
  · unfold hok hraw at *; simp only at *; omega

set_option maxHeartbeats 4000000 in
theorem capa_Next (u gens p q : Int) {w : World} (hpq : hnext u gens = (p, q)) (h0 : 0 ≤ u) (h1 : u < 18446744073709551616) :
    Calls Try.prog 27 #[.int .u64 u, .int .i64 gens] w fun e w' => e = .returned (.tuple #[.int .u64 p, .int .i64 q]) ∧ Ext w w' := by
  have U := Lib.hid h1; clear h1
  by_cases ha : gens < 1
  · obtain ⟨rfl, rfl⟩ : 0 = p ∧ 2 = q := by unfold hnext at hpq; rw [if_pos (.inl ha)] at hpq; simpa using hpq
    clear hpq
    go_enter Try.func27, Try.ntmps27
    go_wp2_with fail
    go_ret2
    exact ⟨rfl, Ext.refl _⟩
  by_cases hb : 2147483648 < gens
  · obtain ⟨rfl, rfl⟩ : 0 = p ∧ 2 = q := by unfold hnext at hpq; rw [if_pos (.inr hb)] at hpq; simpa using hpq
    clear hpq
    go_enter Try.func27, Try.ntmps27
    go_wp2_with fail
    go_ret2
    exact ⟨rfl, Ext.refl _⟩
  have ha' : 1 ≤ gens := by omega
  have hb' : gens ≤ 2147483648 := by omega
  by_cases hz : u % 4294967296 = 0
  · have G := Lib.hid (hget_no hz)
    obtain ⟨rfl, rfl⟩ : 0 = p ∧ 130 = q := by unfold hnext at hpq; rw [if_neg (by omega), if_pos (by rw [hget_no hz]; decide)] at hpq; simpa using hpq
    clear hpq hz ha hb
    go_enter Try.func27, Try.ntmps27
    go_wp2_with fail
    refine (capa_Get u _ _ G.out h0 U.out).mono ?_
    rintro e w1 ⟨rfl, h1⟩
    unfold hnil
    dsimp only
    go_wp2_with fail
    go_ret2
    exact ⟨rfl, by repeat (first | exact h1 | refine Ext.alloc ?_ _ | refine Ext.setCell ?_ h1.size _ | refine Ext.drew ?_)⟩
  · obtain ⟨t, i, g, hr⟩ : ∃ t i g, hraw u = ⟨t, i, g⟩ := ⟨_, _, _, rfl⟩
    have hgu : u % 4294967296 = g := by have := congrArg Hnd.g hr; exact this
    have G := Lib.hid (show hget u = (⟨t, i, g⟩, 0) by rw [← hr]; exact hget_yes hz)
    have r := hraw_ok h0 U.out hz
    have N := Lib.hid (show g + 1 < 4294967296 → hput ⟨t, i, g + 1⟩ = (u + 1, 0) by have := hput_next h0 U.out hz; rw [hr, hgu] at this; exact this)
    have hn : hnext u gens = if gens ≤ g then (0, 131) else (u + 1, 0) := by unfold hnext; rw [if_neg (by omega), G.out, if_neg (by simp)]
    rw [hr] at r
    have r1 : 0 ≤ g := r.2.2.1
    have r2 : g < 4294967296 := r.2.2.2
    rw [hn] at hpq
    clear hr hn r hz ha hb hgu
    by_cases hge : gens ≤ g
    · obtain ⟨rfl, rfl⟩ : 0 = p ∧ 131 = q := by rw [if_pos hge] at hpq; simpa using hpq
      clear hpq
      go_enter Try.func27, Try.ntmps27
      go_wp2_with fail
      refine (capa_Get u _ _ G.out h0 U.out).mono ?_
      rintro e w1 ⟨rfl, h1⟩
      go_wp2_with fail
      go_ret2
      exact ⟨rfl, by repeat (first | exact h1 | refine Ext.alloc ?_ _ | refine Ext.setCell ?_ h1.size _ | refine Ext.drew ?_)⟩
    · have E := Lib.hid (show (u + 1, 0) = (p, q) by rw [if_neg hge] at hpq; exact hpq)
      replace hge : g < gens := by omega
      clear hpq
      replace N := Lib.hid (N.out (by omega))
      go_enter Try.func27, Try.ntmps27
      go_wp2_with fail
      refine (capa_Get u _ _ G.out h0 U.out).mono ?_
      rintro e w1 ⟨rfl, h1⟩
      go_wp2_with fail
      refine (capa_Put ⟨t, i, g + 1⟩ _ _ N.out (by show 0 ≤ g + 1 ∧ g + 1 < 4294967296; omega)).mono ?_
      rintro e w2 ⟨rfl, h2⟩
      go_wp2_with fail
      go_ret2
      cases E.out
      refine ⟨rfl, Ext.trans ?_ h2⟩
      repeat (first | exact h1 | refine Ext.alloc ?_ _ | refine Ext.setCell ?_ h1.size _ | refine Ext.drew ?_)

theorem hget_two {a : Int} {x : Hnd} {p : Int} (h : hget a = (x, p)) : (p = 130 ∧ x = hnil) ∨ (p = 0 ∧ x = hraw a) := by
  unfold hget at h
  split at h
  · left; simp at h; exact ⟨h.2.symm, h.1.symm⟩
  · right; simp at h; exact ⟨h.2.symm, h.1.symm⟩
theorem helder_parts {a b : Int} {x y : Hnd} {p q : Int} (hx : hget a = (x, p)) (hy : hget b = (y, q)) (a0 : 0 ≤ a) (a1 : a < 18446744073709551616) (b0 : 0 ≤ b) (b1 : b < 18446744073709551616) :
    helder a b = true ↔ p = 0 ∧ q = 0 ∧ x.t = y.t ∧ x.i = y.i ∧ x.g < y.g := by
  unfold helder
  rw [hx, hy, decide_eq_true_iff]
  rcases hget_two hx with ⟨rfl, rfl⟩ | ⟨rfl, rfl⟩
  · simp
  rcases hget_two hy with ⟨rfl, rfl⟩ | ⟨rfl, rfl⟩
  · simp
  unfold hraw
  simp only [true_and]
  omega

set_option maxHeartbeats 4000000 in
theorem capa_Elder (a b : Int) (r : Bool) {w : World} (hr : helder a b = r) (a0 : 0 ≤ a) (a1 : a < 18446744073709551616) (b0 : 0 ≤ b) (b1 : b < 18446744073709551616) :
    Calls Try.prog 29 #[.int .u64 a, .int .u64 b] w fun e w' => e = .returned (.bool r) ∧ Ext w w' := by
  have A := Lib.hid a1; have B := Lib.hid b1
  obtain ⟨x, p, hx⟩ : ∃ x p, hget a = (x, p) := ⟨_, _, rfl⟩
  obtain ⟨y, q, hy⟩ : ∃ y q, hget b = (y, q) := ⟨_, _, rfl⟩
  have hd := helder_parts hx hy a0 a1 b0 b1
  have X := Lib.hid hx; have Y := Lib.hid hy
  rw [hr] at hd
  have HD := Lib.hid hd
  clear hx hy hr a1 b1 hd
  go_enter Try.func29, Try.ntmps29
  go_wp2_with fail
  refine (capa_Get a _ _ X.out a0 A.out).mono ?_
  rintro e w1 ⟨rfl, h1⟩
  go_wp2_with fail
  refine (capa_Get b _ _ Y.out b0 B.out).mono ?_
  rintro e w2 ⟨rfl, h2⟩
  have d0 := h2.cell (cell_newN w1 #[.int .i64 x.t, .int .i64 x.i, .int .u32 x.g] 48 0)
  have d1 := h2.cell (cell_newN w1 #[.int .i64 x.t, .int .i64 x.i, .int .u32 x.g] 48 1)
  have d2 := h2.cell (cell_newN w1 #[.int .i64 x.t, .int .i64 x.i, .int .u32 x.g] 48 2)
  have d3 : w1.heap.size < w2.heap.size := cell_lt d0
  go_wp2_with fail
  all_goals go_ret
  all_goals refine ⟨ret_bool ?_, by repeat (first | exact (h1.alloc _).trans h2 | refine Ext.alloc ?_ _ | refine Ext.drewN ?_ _)⟩
  all_goals (rw [Bool.eq_iff_iff, HD.out])
  all_goals (simp [*]; done)

end Go.Proofs.Ytjdagameeopadaa
