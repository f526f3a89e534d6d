/-
  commonageref12.Put, Get, Next, Elder: each hands back what capa's own plain function computes.
-/
import Derived.Test.YtjdagameeopadaaCapa5
namespace Go.Proofs.Ytjdagameeopadaa
open Go.RowKit

set_option maxHeartbeats 4000000 in
theorem ref12_Put (c : Hnd) (p q : Int) {w : World} (hpq : hput c = (p, q)) (hg : 0 ≤ c.g ∧ c.g < 4294967296) :
    Calls Try.prog 23 #[.agg #[.int .i64 c.t, .int .i64 c.i, .int .u32 c.g]] w fun e w' => e = .returned (.tuple #[.int .u64 p, .int .i64 q]) ∧ Ext w w' := by
  have hx := (Ext.refl w).alloc (.cells #[.int .i64 c.t, .int .i64 c.i, .int .u32 c.g] 48)
  obtain ⟨t, i, g⟩ := c
  simp only at hg hx ⊢
  have g0 := hg.1; have g1 := hg.2
  have hd : (t < 0 ∨ 256 ≤ t ∨ i < 0 ∨ 16777216 ≤ i ∨ g = 0) → 0 = p ∧ 2 = q := by
    intro h
    rw [hput_no (by unfold hok; simp only; omega)] at hpq
    simpa using hpq
  have hu : ¬ (t < 0 ∨ 256 ≤ t ∨ i < 0 ∨ 16777216 ≤ i ∨ g = 0) → (t * 16777216 + i) * 4294967296 + g = p ∧ 0 = q := by
    intro h
    rw [hput_yes (by unfold hok; simp only; omega)] at hpq
    unfold hword at hpq
    simp only [Prod.mk.injEq] at hpq
    omega
  have HD := Lib.hid hd; have HU := Lib.hid hu
  clear hpq hd hu hg
  rcases (by omega : t < 0 ∨ (0 ≤ t ∧ 256 ≤ t) ∨ (0 ≤ t ∧ t < 256 ∧ i < 0) ∨ (0 ≤ t ∧ t < 256 ∧ 0 ≤ i ∧ 16777216 ≤ i) ∨ (0 ≤ t ∧ t < 256 ∧ 0 ≤ i ∧ i < 16777216)) with k | ⟨k0, k⟩ | ⟨k0, k1, k⟩ | ⟨k0, k1, k2, k⟩ | ⟨k0, k1, k2, k⟩
  rotate_left 4
  · by_cases hz : g = 0
    · obtain ⟨rfl, rfl⟩ := HD.out (by omega)
      have hzb : (g == 0) = true := by simpa using hz
      clear hz
      go_enter Try.func23, Try.ntmps23
      go_wp2_with fail
      go_ret2
      exact ⟨rfl, hx⟩
    · obtain ⟨h, rfl⟩ := HU.out (by omega)
      have hzb : (g == 0) = false := by simpa using hz
      have H := Lib.hid h
      clear h hz
      go_enter Try.func23, Try.ntmps23
      go_wp2_with fail
      go_ret2
      exact ⟨ret_int2 H.out rfl, hx⟩
  all_goals
    obtain ⟨rfl, rfl⟩ := HD.out (by omega)
    go_enter Try.func23, Try.ntmps23
    go_wp2_with fail
    go_ret2
    exact ⟨rfl, hx⟩

set_option maxHeartbeats 4000000 in
theorem ref12_Get (u : Int) (c : Hnd) (q : Int) {w : World} (hpq : hget u = (c, q)) (h0 : 0 ≤ u) (h1 : u < 18446744073709551616) :
    Calls Try.prog 26 #[.int .u64 u] w fun e w' => e = .returned (.tuple #[.agg #[.int .i64 c.t, .int .i64 c.i, .int .u32 c.g], .int .i64 q]) ∧ Ext w w' := by
  have u1 : u ≤ 18446744073709551615 := by omega
  clear h1
  by_cases hz : u % 4294967296 = 0
  · rw [hget_no hz] at hpq
    cases hpq
    unfold hnil
    dsimp only
    have hzb : (u % 4294967296 == 0) = true := by simpa using hz
    clear hz
    go_enter Try.func26, Try.ntmps26
    go_wp2_with fail
    exact bodyPost_ret (v := .tuple #[.agg #[.int .i64 0, .int .i64 0, .int .u32 0], .int .i64 130]) (by simp [results, Try.results26, go_sem]) rfl ⟨rfl, (Ext.refl w).alloc _⟩
  · rw [hget_yes hz] at hpq
    cases hpq
    unfold hraw
    dsimp only
    have hzb : (u % 4294967296 == 0) = false := by simpa using hz
    clear hz
    go_enter Try.func26, Try.ntmps26
    go_wp2_with fail
    refine bodyPost_ret (v := .tuple #[.agg #[.int .i64 (u / 4294967296 / 16777216), .int .i64 (u / 4294967296 % 16777216), .int .u32 (u % 4294967296)], .int .i64 0]) (by simp [results, Try.results26, go_sem]) rfl ⟨?_, (Ext.refl w).alloc _⟩
    rw [show u / 4294967296 / 16777216 = u / 72057594037927936 by omega]

set_option maxHeartbeats 4000000 in
theorem ref12_Next (u gens p q : Int) {w : World} (hpq : hnext u gens = (p, q)) (h0 : 0 ≤ u) (h1 : u < 18446744073709551616) :
    Calls Try.prog 28 #[.int .u64 u, .int .i64 gens] w fun e w' => e = .returned (.tuple #[.int .u64 p, .int .i64 q]) ∧ Ext w w' := by
  have U := Lib.hid h1; clear h1
  by_cases ha : gens < 1
  · obtain ⟨rfl, rfl⟩ : 0 = p ∧ 2 = q := by unfold hnext at hpq; rw [if_pos (.inl ha)] at hpq; simpa using hpq
    clear hpq
    go_enter Try.func28, Try.ntmps28
    go_wp2_with fail
    go_ret2
    exact ⟨rfl, Ext.refl _⟩
  by_cases hb : 2147483648 < gens
  · obtain ⟨rfl, rfl⟩ : 0 = p ∧ 2 = q := by unfold hnext at hpq; rw [if_pos (.inr hb)] at hpq; simpa using hpq
    clear hpq
    go_enter Try.func28, Try.ntmps28
    go_wp2_with fail
    go_ret2
    exact ⟨rfl, Ext.refl _⟩
  have ha' : 1 ≤ gens := by omega
  have hb' : gens ≤ 2147483648 := by omega
  by_cases hz : u % 4294967296 = 0
  · have G := Lib.hid (hget_no hz)
    obtain ⟨rfl, rfl⟩ : 0 = p ∧ 130 = q := by unfold hnext at hpq; rw [if_neg (by omega), if_pos (by rw [hget_no hz]; decide)] at hpq; simpa using hpq
    clear hpq hz ha hb
    go_enter Try.func28, Try.ntmps28
    go_wp2_with fail
    refine (ref12_Get u _ _ G.out h0 U.out).mono ?_
    rintro e w1 ⟨rfl, h1⟩
    unfold hnil
    dsimp only
    go_wp2_with fail
    go_ret2
    exact ⟨rfl, by repeat (first | exact h1 | refine Ext.alloc ?_ _ | refine Ext.setCell ?_ h1.size _ | refine Ext.drew ?_)⟩
  · obtain ⟨t, i, g, hr⟩ : ∃ t i g, hraw u = ⟨t, i, g⟩ := ⟨_, _, _, rfl⟩
    have hgu : u % 4294967296 = g := by have := congrArg Hnd.g hr; exact this
    have G := Lib.hid (show hget u = (⟨t, i, g⟩, 0) by rw [← hr]; exact hget_yes hz)
    have r := hraw_ok h0 U.out hz
    have hn : hnext u gens = if gens ≤ g then (0, 131) else (u + 1, 0) := by unfold hnext; rw [if_neg (by omega), G.out, if_neg (by simp)]
    rw [hr] at r
    have r1 : 0 ≤ g := r.2.2.1
    have r2 : g < 4294967296 := r.2.2.2
    rw [hn] at hpq
    by_cases hge : gens ≤ g
    · obtain ⟨rfl, rfl⟩ : 0 = p ∧ 131 = q := by rw [if_pos hge] at hpq; simpa using hpq
      clear hpq hr hn r hz ha hb hgu
      go_enter Try.func28, Try.ntmps28
      go_wp2_with fail
      refine (ref12_Get u _ _ G.out h0 U.out).mono ?_
      rintro e w1 ⟨rfl, h1⟩
      go_wp2_with fail
      go_ret2
      exact ⟨rfl, by repeat (first | exact h1 | refine Ext.alloc ?_ _ | refine Ext.setCell ?_ h1.size _ | refine Ext.drew ?_)⟩
    · have E := Lib.hid (show (u + 1, 0) = (p, q) by rw [if_neg hge] at hpq; exact hpq)
      replace hge : g < gens := by omega
      have u2 : u ≤ 18446744073709551614 := by have := U.out; omega
      clear hpq hr hn r hz ha hb hgu
      go_enter Try.func28, Try.ntmps28
      go_wp2_with fail
      refine (ref12_Get u _ _ G.out h0 U.out).mono ?_
      rintro e w1 ⟨rfl, h1⟩
      go_wp2_with fail
      go_ret2
      cases E.out
      exact ⟨rfl, by repeat (first | exact h1 | refine Ext.alloc ?_ _ | refine Ext.setCell ?_ h1.size _ | refine Ext.drew ?_)⟩

set_option maxHeartbeats 4000000 in
theorem ref12_Elder (a b : Int) (r : Bool) {w : World} (hr : helder a b = r) (a0 : 0 ≤ a) (a1 : a < 18446744073709551616) (b0 : 0 ≤ b) (b1 : b < 18446744073709551616) :
    Calls Try.prog 30 #[.int .u64 a, .int .u64 b] w fun e w' => e = .returned (.bool r) ∧ Ext w w' := by
  have A := Lib.hid a1; have B := Lib.hid b1
  obtain ⟨x, p, hx⟩ : ∃ x p, hget a = (x, p) := ⟨_, _, rfl⟩
  obtain ⟨y, q, hy⟩ : ∃ y q, hget b = (y, q) := ⟨_, _, rfl⟩
  have hd : r = true ↔ p = 0 ∧ q = 0 ∧ a / 4294967296 = b / 4294967296 ∧ a < b := by rw [← hr]; unfold helder; rw [hx, hy]; exact decide_eq_true_iff
  have X := Lib.hid hx; have Y := Lib.hid hy
  have HD := Lib.hid hd
  have a2 : a ≤ 18446744073709551615 := by omega
  have b2 : b ≤ 18446744073709551615 := by omega
  clear hx hy hr a1 b1 hd
  go_enter Try.func30, Try.ntmps30
  go_wp2_with fail
  refine (ref12_Get a _ _ X.out a0 A.out).mono ?_
  rintro e w1 ⟨rfl, h1⟩
  go_wp2_with fail
  refine (ref12_Get b _ _ Y.out b0 B.out).mono ?_
  rintro e w2 ⟨rfl, h2⟩
  go_wp2_with fail
  all_goals go_ret
  all_goals refine ⟨ret_bool ?_, by repeat (first | exact h1.trans h2 | exact (h1.alloc _).trans h2 | refine Ext.alloc ?_ _ | refine Ext.drewN ?_ _)⟩
  all_goals (rw [Bool.eq_iff_iff, HD.out])
  all_goals (simp [*]; done)

end Go.Proofs.Ytjdagameeopadaa
