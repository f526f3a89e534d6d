/-
  commonageref07: In, Load, Store, Zero, All.
-/
import Derived.Test.YteopbobhphghhaaRef07
namespace Go.Proofs.Yteopbobhphghhaa
open Go.RowKit

/-! ### In, Load -/
theorem partErr_one {c : Conf} {t a k : Int} (h : partErr c t a 1 = k) : (k = 2 ∧ (t < 0 ∨ (c.ts.length : Int) ≤ t)) ∨ (k = 4 ∧ ∃ i : Nat, t = i ∧ i < c.ts.length ∧ (a < 0 ∨ (wordsN c i : Int) ≤ a)) ∨ (k = 0 ∧ ∃ i j : Nat, t = i ∧ a = j ∧ i < c.ts.length ∧ j < wordsN c i) := by
  unfold partErr at h
  split at h
  · exact .inl ⟨h.symm, by assumption⟩
  · rename_i h1
    obtain ⟨i, rfl⟩ : ∃ i : Nat, t = i := ⟨t.toNat, by omega⟩
    rw [Int.toNat_natCast] at h
    split at h
    · rename_i h2
      exact .inr (.inl ⟨h.symm, i, rfl, by omega, by omega⟩)
    · rename_i h2
      exact .inr (.inr ⟨h.symm, i, a.toNat, rfl, by omega, by omega, by omega⟩)

theorem DocAt.words1 {P : Nat → Prop} {w : World} {d i : Nat} {c : Conf} {ws : List Int} (h : DocAt P w d c ws) (hi : i < c.ts.length) : ∃ g rc, w.cell? ⟨d, i, none⟩ = some (.slice (some ⟨g, 0, none⟩) (wordsN c i) rc) ∧ (∀ j, j < wordsN c i → w.cell? ⟨g, j, none⟩ = some (.int .u64 (nth ws (baseN c i + j)))) := by
  obtain ⟨g, rc, _, h1, h2⟩ := h.row i hi
  exact ⟨g, rc, h1, fun j hj => h.word hi hj h2⟩

set_option maxHeartbeats 4000000 in
theorem ref07_In {P : Nat → Prop} {d cap : Nat} {t a : Int} (k : Int) {c : Conf} {ws : List Int} {w : World} (h : DocAt P w d c ws) (hr : partErr c t a 1 = k) :
    Calls Try.prog 79 #[.agg #[.slice (some ⟨d, 0, none⟩) c.ts.length cap], .int .i64 t, .int .i64 a] w fun e w' => e = .returned (.int .i64 k) ∧ Ext w w' := by
  have t8 := h.ok.head.2.2.2.1
  have hx := (Ext.refl w).alloc (.cells #[.slice (some ⟨d, 0, none⟩) c.ts.length cap] 48)
  have hl := h.lt
  rcases partErr_one hr with ⟨rfl, ht⟩ | ⟨rfl, i, rfl, hi, ha⟩ | ⟨rfl, i, j, rfl, rfl, hi, hj⟩
  · clear h hr hl
    by_cases h0 : t < 0
    · have t0 : decide (t < 0) = true := by simpa using h0
      clear ht
      go_enter Try.func79, Try.ntmps79
      go_wp2_with fail
      go_ret
      exact ⟨rfl, hx⟩
    · have t0 : decide (t < 0) = false := by simpa using h0
      have t1 : decide ((c.ts.length : Int) ≤ t) = true := by simp; omega
      clear ht
      go_enter Try.func79, Try.ntmps79
      go_wp2_with fail
      go_ret
      exact ⟨rfl, hx⟩
  · obtain ⟨g, rc, h1, _⟩ := h.words1 hi
    have t0 : decide ((i : Int) < 0) = false := by simp
    have t1 : decide ((c.ts.length : Int) ≤ (i : Int)) = false := by simp; omega
    have t2 : decide (c.ts.length ≤ i) = false := by simp; omega
    clear h hr
    generalize wordsN c i = m at *
    by_cases h0 : a < 0
    · have t3 : decide (a < 0) = true := by simpa using h0
      clear ha
      go_enter Try.func79, Try.ntmps79
      go_wp2_with fail
      go_ret
      exact ⟨rfl, hx⟩
    · have t3 : decide (a < 0) = false := by simpa using h0
      have t4 : decide ((m : Int) ≤ a) = true := by simp; omega
      clear ha
      go_enter Try.func79, Try.ntmps79
      go_wp2_with fail
      go_ret
      exact ⟨rfl, hx⟩
  · obtain ⟨g, rc, h1, _⟩ := h.words1 hi
    have t0 : decide ((i : Int) < 0) = false := by simp
    have t1 : decide ((c.ts.length : Int) ≤ (i : Int)) = false := by simp; omega
    have t2 : decide (c.ts.length ≤ i) = false := by simp; omega
    clear h hr
    generalize wordsN c i = m at *
    have t3 : decide ((j : Int) < 0) = false := by simp
    have t4 : decide ((m : Int) ≤ (j : Int)) = false := by simp; omega
    have t5 : decide (m ≤ j) = false := by simp; omega
    go_enter Try.func79, Try.ntmps79
    go_wp2_with fail
    go_ret
    exact ⟨rfl, hx⟩

set_option maxHeartbeats 4000000 in
theorem ref07_Load {P : Nat → Prop} {d cap : Nat} {t a : Int} (v k : Int) {c : Conf} {ws : List Int} {w : World} (h : DocAt P w d c ws) (hr : loadR c ws t a = (v, k)) :
    Calls Try.prog 51 #[.agg #[.slice (some ⟨d, 0, none⟩) c.ts.length cap], .int .i64 t, .int .i64 a] w fun e w' => e = .returned (.tuple #[.int .u64 v, .int .i64 k]) ∧ Ext w w' := by
  have t8 := h.ok.head.2.2.2.1
  have hx := (Ext.refl w).alloc (.cells #[.slice (some ⟨d, 0, none⟩) c.ts.length cap] 48)
  obtain ⟨z, hz⟩ : ∃ z, w.heap.size = z := ⟨_, rfl⟩
  have bx := box_new w (.slice (some ⟨d, 0, none⟩) c.ts.length cap) 48 hz
  have BX := Lib.hid bx
  obtain ⟨q, hq⟩ : ∃ q, partErr c t a 1 = q := ⟨_, rfl⟩
  have C1 := Lib.hid (fun W (hw : Ext w W) => ref07_In (cap := cap) q (h.ext hw) hq)
  have HZ := Lib.hid hz
  unfold loadR at hr
  rcases partErr_one hq with ⟨rfl, ht⟩ | ⟨rfl, i, rfl, hi, ha⟩ | ⟨rfl, i, j, rfl, rfl, hi, hj⟩
  · rw [hq, if_neg (by decide)] at hr
    cases hr
    clear h hq ht bx hz
    go_enter Try.func51, Try.ntmps51
    go_wp2_with fail
    refine (C1.out _ hx).mono ?_
    rintro e w1 ⟨rfl, x⟩
    go_wp2_with fail
    go_ret2
    exact ⟨rfl, hx.trans x⟩
  · rw [hq, if_neg (by decide)] at hr
    cases hr
    clear h hq ha bx hz
    go_enter Try.func51, Try.ntmps51
    go_wp2_with fail
    refine (C1.out _ hx).mono ?_
    rintro e w1 ⟨rfl, x⟩
    go_wp2_with fail
    go_ret2
    exact ⟨rfl, hx.trans x⟩
  · rw [hq, if_pos rfl] at hr
    cases hr
    obtain ⟨g, rc, h3, h4⟩ := h.words1 hi
    have h5 := h4 j hj
    have X3 := Lib.hid h3; have X5 := Lib.hid h5
    clear h hq h3 h4 h5 bx hz
    simp only [Int.toNat_natCast]
    go_enter Try.func51, Try.ntmps51
    go_wp2_with fail
    refine (C1.out _ hx).mono ?_
    rintro e w1 ⟨rfl, x⟩
    have z0 := (box_up BX.out x).1
    have z1 := (hx.trans x).cell X3.out
    have z2 := (hx.trans x).cell X5.out
    rw [← HZ.out] at z0
    go_wp2_with fail
    go_ret2
    exact ⟨rfl, hx.trans x⟩

end Go.Proofs.Yteopbobhphghhaa
