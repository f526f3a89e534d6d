/-
  head.may, packed, Put, Get, Need, Field: each hands back what its plain function computes, and leaves all that there was as it was. Wid: the package variable head.widths holds its numbers.
-/
import Derived.Test.YtjdagameeopadaaDoorField4
import Derived.Test.YtjdagameeopadaaDoorHeadP
import Derived.Deep.RegionHeld3
import Derived.BigRegion
namespace Go.Proofs.YtjdagameeopadaaDoor
open Go.RowKit

/-- The package variable's five cells. -/
def Wid (w : World) : Prop :=
  w.cell? ⟨0, 0, none⟩ = some (.int .i64 16) ∧ w.cell? ⟨0, 1, none⟩ = some (.int .i64 16) ∧ w.cell? ⟨0, 2, none⟩ = some (.int .i64 16) ∧ w.cell? ⟨0, 3, none⟩ = some (.int .i64 8) ∧ w.cell? ⟨0, 4, none⟩ = some (.int .i64 8)
theorem Wid.ext {w w' : World} (h : Wid w) (hx : Ext w w') : Wid w' :=
  ⟨hx.cell h.1, hx.cell h.2.1, hx.cell h.2.2.1, hx.cell h.2.2.2.1, hx.cell h.2.2.2.2⟩

/-- The three cells of a box, still there. -/
theorem hbox {w w1 : World} {v0 v1 v2 : Value} {t : TypeId} (hx : Ext (w.alloc (.cells #[v0, v1, v2] t)) w1) :
    w1.cell? ⟨w.heap.size, 0, none⟩ = some v0 ∧ w1.cell? ⟨w.heap.size, 1, none⟩ = some v1 ∧ w1.cell? ⟨w.heap.size, 2, none⟩ = some v2 :=
  ⟨hx.cell (cell_newN w _ t 0), hx.cell (cell_newN w _ t 1), hx.cell (cell_newN w _ t 2)⟩

theorem hd_cases (c r w : Int) : (hdok ⟨c, r, w⟩ ∧ 0 ≤ c ∧ c < 8 ∧ 0 ≤ r ∧ 0 ≤ w ∧ r ≤ 63 ∧ w ≤ 63 - r) ∨ (¬ hdok ⟨c, r, w⟩ ∧ (c < 0 ∨ (0 ≤ c ∧ 8 ≤ c) ∨ (0 ≤ c ∧ c < 8 ∧ r < 0) ∨ (0 ≤ c ∧ c < 8 ∧ 0 ≤ r ∧ w < 0) ∨ (0 ≤ c ∧ c < 8 ∧ 0 ≤ r ∧ 0 ≤ w ∧ 63 < r) ∨ (0 ≤ c ∧ c < 8 ∧ 0 ≤ r ∧ 0 ≤ w ∧ r ≤ 63 ∧ 63 - r < w))) := by
  unfold hdok
  simp only
  omega

set_option maxHeartbeats 4000000 in
theorem head_may (h : Hd) (b : Bool) {w : World} (hb : decide (hdok h) = b) :
    Calls Tryd.prog 15 #[.agg #[.int .i64 h.c, .int .i64 h.r, .int .i64 h.w]] w fun e w' => e = .returned (.bool b) ∧ Ext w w' := by
  have hx := (Ext.refl w).alloc (.cells #[.int .i64 h.c, .int .i64 h.r, .int .i64 h.w] 23)
  obtain ⟨c, r, q⟩ := h
  simp only at hx ⊢
  have k := hd_cases c r q
  rcases k with ⟨k, k1, k2, k3, k4, k5, k6⟩ | ⟨k, h | ⟨h1, h2⟩ | ⟨h1, h2, h3⟩ | ⟨h1, h2, h3, h4⟩ | ⟨h1, h2, h3, h4, h5⟩ | ⟨h1, h2, h3, h4, h5, h6⟩⟩
  · have HB := Lib.hid (show true = b by rw [← hb, decide_eq_true k])
    clear hb k
    go_enter Tryd.func15, Tryd.ntmps15
    go_wp2_with fail
    all_goals go_ret
    all_goals first | exact ⟨ret_bool HB.out, hx⟩ | exact ⟨ret_bool ((decide_eq_false (by omega)).trans HB.out), hx⟩ | exact ⟨ret_bool ((decide_eq_true (by omega)).trans HB.out), hx⟩
  all_goals
    have HB := Lib.hid (show false = b by rw [← hb, decide_eq_false k])
    clear hb k
    go_enter Tryd.func15, Tryd.ntmps15
    go_wp2_with fail
    all_goals go_ret
    all_goals first | exact ⟨ret_bool HB.out, hx⟩ | exact ⟨ret_bool ((decide_eq_false (by omega)).trans HB.out), hx⟩ | exact ⟨ret_bool ((decide_eq_true (by omega)).trans HB.out), hx⟩

set_option maxHeartbeats 4000000 in
theorem head_packed {a : Option Addr} {cap : Nat} (h : Hd) {w : World} (hk : hdok h) (hW : Wid w) (hA : At .u64 w a [0, h.w, h.r, h.c, 199]) :
    Calls Tryd.prog 16 #[.slice a 5 cap] w fun e w' => e = .returned (.int .u64 (hdword h)) ∧ Ext w w' := by
  have PK := Lib.hid (hdput_pack hk)
  have HA := Lib.hid hA; clear hA
  obtain ⟨g0, g1, g2, g3, g4⟩ := hW
  have HB : Hid (∀ n ∈ [0, h.w, h.r, h.c, 199], 0 ≤ n ∧ n < 18446744073709551616) := Lib.hid (by
    obtain ⟨⟨k1, k2⟩, k3, k4, k5, k6⟩ := hk
    intro n hn; simp at hn; rcases hn with rfl | rfl | rfl | rfl | rfl <;> omega)
  have M5 : Hid ([0, h.w, h.r, h.c, 199].length ≤ maxLen) := Lib.hid (show 5 ≤ maxLen by decide)
  clear hk
  go_enter Tryd.func16, Tryd.ntmps16
  go_wp2_with fail
  have h1 := (Ext.refl w).alloc (.cells #[.int .i64 16, .int .i64 16, .int .i64 16, .int .i64 8, .int .i64 8] 49)
  have HW := Lib.hid (At.newb .i64 w hdws 49 _ rfl)
  clear g0 g1 g2 g3 g4
  refine (field_Pack hdws _ _ 0 PK.out HW.out (by decide) (HA.out.ext h1) M5.out HB.out).mono ?_
  rintro e w1 ⟨rfl, h2⟩
  go_wp2_with fail
  go_ret
  exact ⟨rfl, h1.trans h2⟩

set_option maxHeartbeats 4000000 in
theorem head_Put (h : Hd) (p q : Int) {w : World} (hpq : hdput h = (p, q)) (hW : Wid w) :
    Calls Tryd.prog 6 #[.agg #[.int .i64 h.c, .int .i64 h.r, .int .i64 h.w]] w fun e w' => e = .returned (.tuple #[.int .u64 p, .int .i64 q]) ∧ Ext w w' := by
  have hx := (Ext.refl w).alloc (.cells #[.int .i64 h.c, .int .i64 h.r, .int .i64 h.w] 23)
  have h1 := Ext.refl (w.alloc (.cells #[.int .i64 h.c, .int .i64 h.r, .int .i64 h.w] 23))
  have HW := Lib.hid hW; clear hW
  by_cases hk : hdok h
  · have E := Lib.hid (show (hdword h, 0) = (p, q) by rw [← hpq, hdput_yes hk])
    have HB := Lib.hid (show decide (hdok h) = true from decide_eq_true hk)
    have HK := Lib.hid hk
    obtain ⟨⟨k1, k2⟩, k3, k4, k5, k6⟩ := hk
    clear hpq
    go_enter Tryd.func6, Tryd.ntmps6
    go_wp2_with fail
    refine (head_may h true HB.out).mono ?_
    rintro e w1 ⟨rfl, h2⟩
    replace h1 := h1.trans h2
    obtain ⟨b0, b1, b2⟩ := hbox h1
    go_wp2_with fail
    have HA := Lib.hid (At.newb .u64 w1 [0, h.w, h.r, h.c, 199] 24 _ rfl)
    refine (head_packed h HK.out (HW.out.ext ((hx.trans h1).alloc _)) HA.out).mono ?_
    rintro e w2 ⟨rfl, h2⟩
    go_wp2_with fail
    go_ret2
    cases E.out
    exact ⟨rfl, ((hx.trans h1).alloc _).trans h2⟩
  · obtain ⟨rfl, rfl⟩ : 0 = p ∧ 2 = q := by rw [hdput_no hk] at hpq; simpa using hpq
    have HB := Lib.hid (show decide (hdok h) = false from decide_eq_false hk)
    clear hpq hk
    go_enter Tryd.func6, Tryd.ntmps6
    go_wp2_with fail
    refine (head_may h false HB.out).mono ?_
    rintro e w1 ⟨rfl, h2⟩
    go_wp2_with fail
    go_ret2
    exact ⟨rfl, hx.trans h2⟩

set_option maxHeartbeats 4000000 in
theorem head_Need (h : Hd) (p q : Int) {w : World} (hpq : hdneed h = (p, q)) :
    Calls Tryd.prog 10 #[.agg #[.int .i64 h.c, .int .i64 h.r, .int .i64 h.w]] w fun e w' => e = .returned (.tuple #[.int .i64 p, .int .i64 q]) ∧ Ext w w' := by
  have hx := (Ext.refl w).alloc (.cells #[.int .i64 h.c, .int .i64 h.r, .int .i64 h.w] 23)
  have h1 := Ext.refl (w.alloc (.cells #[.int .i64 h.c, .int .i64 h.r, .int .i64 h.w] 23))
  by_cases hk : hdok h
  · have E := Lib.hid (show (h.r + h.w + 1, 0) = (p, q) by rw [← hpq]; unfold hdneed; rw [if_pos hk])
    have HB := Lib.hid (show decide (hdok h) = true from decide_eq_true hk)
    obtain ⟨⟨k1, k2⟩, k3, k4, k5, k6⟩ := hk
    clear hpq
    go_enter Tryd.func10, Tryd.ntmps10
    go_wp2_with fail
    refine (head_may h true HB.out).mono ?_
    rintro e w1 ⟨rfl, h2⟩
    replace h1 := h1.trans h2
    obtain ⟨b0, b1, b2⟩ := hbox h1
    go_wp2_with fail
    go_ret2
    cases E.out
    exact ⟨rfl, hx.trans h1⟩
  · obtain ⟨rfl, rfl⟩ : 0 = p ∧ 2 = q := by unfold hdneed at hpq; rw [if_neg hk] at hpq; simpa using hpq
    have HB := Lib.hid (show decide (hdok h) = false from decide_eq_false hk)
    clear hpq hk
    go_enter Tryd.func10, Tryd.ntmps10
    go_wp2_with fail
    refine (head_may h false HB.out).mono ?_
    rintro e w1 ⟨rfl, h2⟩
    go_wp2_with fail
    go_ret2
    exact ⟨rfl, hx.trans h2⟩

set_option maxHeartbeats 4000000 in
theorem head_Field (h : Hd) (i : Int) (p : Bool) (q : Int) {w : World} (hpq : hdfield h i = (p, q)) :
    Calls Tryd.prog 12 #[.agg #[.int .i64 h.c, .int .i64 h.r, .int .i64 h.w], .int .i64 i] w fun e w' => e = .returned (.tuple #[.bool p, .int .i64 q]) ∧ Ext w w' := by
  have hx := (Ext.refl w).alloc (.cells #[.int .i64 h.c, .int .i64 h.r, .int .i64 h.w] 23)
  have h1 := Ext.refl (w.alloc (.cells #[.int .i64 h.c, .int .i64 h.r, .int .i64 h.w] 23))
  by_cases hk : hdok h
  · have HB := Lib.hid (show decide (hdok h) = true from decide_eq_true hk)
    unfold hdfield at hpq
    rw [if_pos hk] at hpq
    obtain ⟨⟨k1, k2⟩, k3, k4, k5, k6⟩ := hk
    by_cases hi : i < 0
    · obtain ⟨rfl, rfl⟩ : false = p ∧ 110 = q := by rw [if_pos (.inl hi)] at hpq; simpa using hpq
      clear hpq
      go_enter Tryd.func12, Tryd.ntmps12
      go_wp2_with fail
      refine (head_may h true HB.out).mono ?_
      rintro e w1 ⟨rfl, h2⟩
      replace h1 := h1.trans h2
      obtain ⟨b0, b1, b2⟩ := hbox h1
      go_wp2_with fail
      go_ret2
      exact ⟨rfl, hx.trans h1⟩
    · have hi0 : 0 ≤ i := by omega
      by_cases hj : h.r + h.w ≤ i
      · obtain ⟨rfl, rfl⟩ : false = p ∧ 110 = q := by rw [if_pos (.inr hj)] at hpq; simpa using hpq
        clear hpq
        go_enter Tryd.func12, Tryd.ntmps12
        go_wp2_with fail
        refine (head_may h true HB.out).mono ?_
        rintro e w1 ⟨rfl, h2⟩
        replace h1 := h1.trans h2
        obtain ⟨b0, b1, b2⟩ := hbox h1
        go_wp2_with fail
        go_ret2
        exact ⟨rfl, hx.trans h1⟩
      · have E := Lib.hid (show (decide (i < h.r), (0 : Int)) = (p, q) by rw [← hpq, if_neg (by omega)])
        clear hpq
        replace hj : i < h.r + h.w := by omega
        go_enter Tryd.func12, Tryd.ntmps12
        go_wp2_with fail
        refine (head_may h true HB.out).mono ?_
        rintro e w1 ⟨rfl, h2⟩
        replace h1 := h1.trans h2
        obtain ⟨b0, b1, b2⟩ := hbox h1
        go_wp2_with fail
        go_ret2
        cases E.out
        exact ⟨rfl, hx.trans h1⟩
  · obtain ⟨rfl, rfl⟩ : false = p ∧ 2 = q := by unfold hdfield at hpq; rw [if_neg hk] at hpq; simpa using hpq
    have HB := Lib.hid (show decide (hdok h) = false from decide_eq_false hk)
    clear hpq hk
    go_enter Tryd.func12, Tryd.ntmps12
    go_wp2_with fail
    refine (head_may h false HB.out).mono ?_
    rintro e w1 ⟨rfl, h2⟩
    go_wp2_with fail
    go_ret2
    exact ⟨rfl, hx.trans h2⟩

end Go.Proofs.YtjdagameeopadaaDoor
