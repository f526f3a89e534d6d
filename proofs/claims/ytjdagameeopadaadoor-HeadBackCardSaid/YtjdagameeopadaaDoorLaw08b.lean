/-
  The walks of commonagelaw08.HeadUnlike and HeadBack.
-/
import Derived.Test.YtjdagameeopadaaDoorLaw08
namespace Go.Proofs.YtjdagameeopadaaDoor
open Go.RowKit

/-- Two boxes of three cells. -/
theorem hbox2 {w w1 : World} {v0 v1 v2 u0 u1 u2 : Value} {t : TypeId} (hx : Ext ((w.alloc (.cells #[v0, v1, v2] t)).alloc (.cells #[u0, u1, u2] t)) w1) :
    (w1.cell? ⟨w.heap.size, 0, none⟩ = some v0 ∧ w1.cell? ⟨w.heap.size, 1, none⟩ = some v1 ∧ w1.cell? ⟨w.heap.size, 2, none⟩ = some v2) ∧
    w1.cell? ⟨w.heap.size + 1, 0, none⟩ = some u0 ∧ w1.cell? ⟨w.heap.size + 1, 1, none⟩ = some u1 ∧ w1.cell? ⟨w.heap.size + 1, 2, none⟩ = some u2 := by
  have a := hbox (((Ext.refl _).alloc _).trans hx)
  have b := hbox hx
  simp at b
  exact ⟨a, b⟩

theorem hdneed_yes {h : Hd} (k : hdok h) : hdneed h = (h.r + h.w + 1, 0) := by unfold hdneed; rw [if_pos k]

set_option maxRecDepth 100000 in
set_option maxHeartbeats 4000000 in
theorem law08_HeadUnlike (a b : Hd) (w : World) (hW : Wid w) :
    Calls Tryd.prog 5 #[.agg #[.int .i64 a.c, .int .i64 a.r, .int .i64 a.w], .agg #[.int .i64 b.c, .int .i64 b.r, .int .i64 b.w]] w fun e w' => e = .returned (.bool true) ∧ Ext w w' := by
  have HW := Lib.hid hW; clear hW
  have hx := ((Ext.refl w).alloc (.cells #[.int .i64 a.c, .int .i64 a.r, .int .i64 a.w] 23)).alloc (.cells #[.int .i64 b.c, .int .i64 b.r, .int .i64 b.w] 23)
  have h1 := Ext.refl ((w.alloc (.cells #[.int .i64 a.c, .int .i64 a.r, .int .i64 a.w] 23)).alloc (.cells #[.int .i64 b.c, .int .i64 b.r, .int .i64 b.w] 23))
  by_cases hab : hdok a ∧ hdok b
  · have P1 := Lib.hid (hdput_yes hab.1); have P2 := Lib.hid (hdput_yes hab.2)
    have N1 := Lib.hid (hdneed_yes hab.1); have N2 := Lib.hid (hdneed_yes hab.2)
    obtain ⟨⟨a1, a2⟩, a3, a4, a5, a6⟩ := hab.1
    obtain ⟨⟨b1, b2⟩, b3, b4, b5, b6⟩ := hab.2
    have inj := fun e => hdword_inj hab.1 hab.2 e
    obtain ⟨ac, ar, aw⟩ := a
    obtain ⟨bc, br, bw⟩ := b
    simp only at *
    have hc : (ac = bc ∧ ar = br ∧ aw = bw) ∨ ((hdword ⟨ac, ar, aw⟩ == hdword ⟨bc, br, bw⟩) = false ∧ ((ac == bc) = false ∨ ((ac == bc) = true ∧ (ar == br) = false) ∨ ((ac == bc) = true ∧ (ar == br) = true ∧ (aw == bw) = false))) := by
      by_cases e1 : ac = bc
      · by_cases e2 : ar = br
        · by_cases e3 : aw = bw
          · exact .inl ⟨e1, e2, e3⟩
          · exact .inr ⟨by simp only [beq_eq_false_iff_ne]; intro e; have := inj e; simp only [Hd.mk.injEq] at this; exact e3 this.2.2, .inr (.inr ⟨by simpa using e1, by simpa using e2, by simpa using e3⟩)⟩
        · exact .inr ⟨by simp only [beq_eq_false_iff_ne]; intro e; have := inj e; simp only [Hd.mk.injEq] at this; exact e2 this.2.1, .inr (.inl ⟨by simpa using e1, by simpa using e2⟩)⟩
      · exact .inr ⟨by simp only [beq_eq_false_iff_ne]; intro e; have := inj e; simp only [Hd.mk.injEq] at this; exact e1 this.1, .inl (by simpa using e1)⟩
    clear hab inj
    rcases hc with ⟨rfl, rfl, rfl⟩ | hc
    · generalize hdword ⟨ac, ar, aw⟩ = x at *
      obtain ⟨⟨b0, b1, b2⟩, d0, d1, d2⟩ := hbox2 h1
      go_enter Tryd.func5, Tryd.ntmps5
      go_wp2_with fail
      clear b0 b1 b2 d0 d1 d2
      refine (head_Put ⟨ac, ar, aw⟩ x 0 P1.out (HW.out.ext (hx.trans h1))).mono ?_
      rintro e w1 ⟨rfl, h2⟩
      replace h1 := (h1.trans (by repeat (first | exact Ext.refl _ | refine Ext.alloc ?_ _ | refine Ext.drewN ?_ _))).trans h2
      try replace h3 := (h3.trans (by repeat (first | exact Ext.refl _ | refine Ext.alloc ?_ _ | refine Ext.drewN ?_ _))).trans h2
      try replace h5 := (h5.trans (by repeat (first | exact Ext.refl _ | refine Ext.alloc ?_ _ | refine Ext.drewN ?_ _))).trans h2
      clear h2
      obtain ⟨⟨b0, b1, b2⟩, d0, d1, d2⟩ := hbox2 h1
      go_wp2_with fail
      clear b0 b1 b2 d0 d1 d2
      refine (head_Put ⟨ac, ar, aw⟩ x 0 P2.out (HW.out.ext (hx.trans h1))).mono ?_
      rintro e w2 ⟨rfl, h2⟩
      replace h1 := (h1.trans (by repeat (first | exact Ext.refl _ | refine Ext.alloc ?_ _ | refine Ext.drewN ?_ _))).trans h2
      try replace h3 := (h3.trans (by repeat (first | exact Ext.refl _ | refine Ext.alloc ?_ _ | refine Ext.drewN ?_ _))).trans h2
      try replace h5 := (h5.trans (by repeat (first | exact Ext.refl _ | refine Ext.alloc ?_ _ | refine Ext.drewN ?_ _))).trans h2
      clear h2
      obtain ⟨⟨b0, b1, b2⟩, d0, d1, d2⟩ := hbox2 h1
      go_wp2_with fail
      clear b0 b1 b2 d0 d1 d2
      refine (head_Need ⟨ac, ar, aw⟩ _ 0 N1.out).mono ?_
      rintro e w3 ⟨rfl, h2⟩
      replace h1 := (h1.trans (by repeat (first | exact Ext.refl _ | refine Ext.alloc ?_ _ | refine Ext.drewN ?_ _))).trans h2
      try replace h3 := (h3.trans (by repeat (first | exact Ext.refl _ | refine Ext.alloc ?_ _ | refine Ext.drewN ?_ _))).trans h2
      try replace h5 := (h5.trans (by repeat (first | exact Ext.refl _ | refine Ext.alloc ?_ _ | refine Ext.drewN ?_ _))).trans h2
      clear h2
      obtain ⟨⟨b0, b1, b2⟩, d0, d1, d2⟩ := hbox2 h1
      go_wp2_with fail
      clear b0 b1 b2 d0 d1 d2
      refine (head_Need ⟨ac, ar, aw⟩ _ 0 N2.out).mono ?_
      rintro e w4 ⟨rfl, h2⟩
      replace h1 := (h1.trans (by repeat (first | exact Ext.refl _ | refine Ext.alloc ?_ _ | refine Ext.drewN ?_ _))).trans h2
      try replace h3 := (h3.trans (by repeat (first | exact Ext.refl _ | refine Ext.alloc ?_ _ | refine Ext.drewN ?_ _))).trans h2
      try replace h5 := (h5.trans (by repeat (first | exact Ext.refl _ | refine Ext.alloc ?_ _ | refine Ext.drewN ?_ _))).trans h2
      clear h2
      obtain ⟨⟨b0, b1, b2⟩, d0, d1, d2⟩ := hbox2 h1
      go_wp2_with fail
      clear b0 b1 b2 d0 d1 d2
      refine (law08_awake _ (HW.out.ext (hx.trans h1))).mono ?_
      rintro e w5 ⟨rfl, h2⟩
      replace h1 := (h1.trans (by repeat (first | exact Ext.refl _ | refine Ext.alloc ?_ _ | refine Ext.drewN ?_ _))).trans h2
      try replace h3 := (h3.trans (by repeat (first | exact Ext.refl _ | refine Ext.alloc ?_ _ | refine Ext.drewN ?_ _))).trans h2
      try replace h5 := (h5.trans (by repeat (first | exact Ext.refl _ | refine Ext.alloc ?_ _ | refine Ext.drewN ?_ _))).trans h2
      clear h2
      go_wp2_with fail
      go_ret
      exact ⟨rfl, hx.trans h1⟩
    · generalize hdword ⟨ac, ar, aw⟩ = x at *
      generalize hdword ⟨bc, br, bw⟩ = y at *
      obtain ⟨hxy, hc⟩ := hc
      rcases hc with hc | ⟨hc1, hc⟩ | ⟨hc1, hc2, hc⟩
      all_goals
        obtain ⟨⟨b0, b1, b2⟩, d0, d1, d2⟩ := hbox2 h1
        go_enter Tryd.func5, Tryd.ntmps5
        go_wp2_with fail
        clear b0 b1 b2 d0 d1 d2
        refine (head_Put ⟨ac, ar, aw⟩ x 0 P1.out (HW.out.ext (hx.trans h1))).mono ?_
        rintro e w6 ⟨rfl, h2⟩
        replace h1 := (h1.trans (by repeat (first | exact Ext.refl _ | refine Ext.alloc ?_ _ | refine Ext.drewN ?_ _))).trans h2
        try replace h3 := (h3.trans (by repeat (first | exact Ext.refl _ | refine Ext.alloc ?_ _ | refine Ext.drewN ?_ _))).trans h2
        try replace h5 := (h5.trans (by repeat (first | exact Ext.refl _ | refine Ext.alloc ?_ _ | refine Ext.drewN ?_ _))).trans h2
        clear h2
        obtain ⟨⟨b0, b1, b2⟩, d0, d1, d2⟩ := hbox2 h1
        go_wp2_with fail
        clear b0 b1 b2 d0 d1 d2
        refine (head_Put ⟨bc, br, bw⟩ y 0 P2.out (HW.out.ext (hx.trans h1))).mono ?_
        rintro e w7 ⟨rfl, h2⟩
        replace h1 := (h1.trans (by repeat (first | exact Ext.refl _ | refine Ext.alloc ?_ _ | refine Ext.drewN ?_ _))).trans h2
        try replace h3 := (h3.trans (by repeat (first | exact Ext.refl _ | refine Ext.alloc ?_ _ | refine Ext.drewN ?_ _))).trans h2
        try replace h5 := (h5.trans (by repeat (first | exact Ext.refl _ | refine Ext.alloc ?_ _ | refine Ext.drewN ?_ _))).trans h2
        clear h2
        obtain ⟨⟨b0, b1, b2⟩, d0, d1, d2⟩ := hbox2 h1
        go_wp2_with fail
        clear b0 b1 b2 d0 d1 d2
        refine (head_Need ⟨ac, ar, aw⟩ _ 0 N1.out).mono ?_
        rintro e w8 ⟨rfl, h2⟩
        replace h1 := (h1.trans (by repeat (first | exact Ext.refl _ | refine Ext.alloc ?_ _ | refine Ext.drewN ?_ _))).trans h2
        try replace h3 := (h3.trans (by repeat (first | exact Ext.refl _ | refine Ext.alloc ?_ _ | refine Ext.drewN ?_ _))).trans h2
        try replace h5 := (h5.trans (by repeat (first | exact Ext.refl _ | refine Ext.alloc ?_ _ | refine Ext.drewN ?_ _))).trans h2
        clear h2
        obtain ⟨⟨b0, b1, b2⟩, d0, d1, d2⟩ := hbox2 h1
        go_wp2_with fail
        clear b0 b1 b2 d0 d1 d2
        refine (head_Need ⟨bc, br, bw⟩ _ 0 N2.out).mono ?_
        rintro e w9 ⟨rfl, h2⟩
        replace h1 := (h1.trans (by repeat (first | exact Ext.refl _ | refine Ext.alloc ?_ _ | refine Ext.drewN ?_ _))).trans h2
        try replace h3 := (h3.trans (by repeat (first | exact Ext.refl _ | refine Ext.alloc ?_ _ | refine Ext.drewN ?_ _))).trans h2
        try replace h5 := (h5.trans (by repeat (first | exact Ext.refl _ | refine Ext.alloc ?_ _ | refine Ext.drewN ?_ _))).trans h2
        clear h2
        obtain ⟨⟨b0, b1, b2⟩, d0, d1, d2⟩ := hbox2 h1
        go_wp2_with fail
        clear b0 b1 b2 d0 d1 d2
        refine (law08_awake _ (HW.out.ext (hx.trans h1))).mono ?_
        rintro e w10 ⟨rfl, h2⟩
        replace h1 := (h1.trans (by repeat (first | exact Ext.refl _ | refine Ext.alloc ?_ _ | refine Ext.drewN ?_ _))).trans h2
        try replace h3 := (h3.trans (by repeat (first | exact Ext.refl _ | refine Ext.alloc ?_ _ | refine Ext.drewN ?_ _))).trans h2
        try replace h5 := (h5.trans (by repeat (first | exact Ext.refl _ | refine Ext.alloc ?_ _ | refine Ext.drewN ?_ _))).trans h2
        clear h2
        go_wp2_with fail
        go_ret
        exact ⟨rfl, hx.trans h1⟩
  · obtain ⟨p1, q1, e1⟩ : ∃ p q, hdput a = (p, q) := ⟨_, _, rfl⟩
    obtain ⟨p2, q2, e2⟩ : ∃ p q, hdput b = (p, q) := ⟨_, _, rfl⟩
    have P1 := Lib.hid e1; have P2 := Lib.hid e2
    have hq : ((q1 != 0) = true) ∨ ((q1 != 0) = false ∧ (q2 != 0) = true) := by
      by_cases k1 : hdok a
      · have k2 : ¬ hdok b := fun h => hab ⟨k1, h⟩
        rw [hdput_yes k1] at e1
        rw [hdput_no k2] at e2
        cases e1; cases e2; right; exact ⟨rfl, rfl⟩
      · rw [hdput_no k1] at e1
        cases e1; left; rfl
    clear e1 e2 hab
    rcases hq with hq | ⟨hq, hq'⟩
    all_goals
      obtain ⟨⟨b0, b1, b2⟩, d0, d1, d2⟩ := hbox2 h1
      go_enter Tryd.func5, Tryd.ntmps5
      go_wp2_with fail
      clear b0 b1 b2 d0 d1 d2
      refine (head_Put a p1 q1 P1.out (HW.out.ext (hx.trans h1))).mono ?_
      rintro e w11 ⟨rfl, h2⟩
      replace h1 := (h1.trans (by repeat (first | exact Ext.refl _ | refine Ext.alloc ?_ _ | refine Ext.drewN ?_ _))).trans h2
      try replace h3 := (h3.trans (by repeat (first | exact Ext.refl _ | refine Ext.alloc ?_ _ | refine Ext.drewN ?_ _))).trans h2
      try replace h5 := (h5.trans (by repeat (first | exact Ext.refl _ | refine Ext.alloc ?_ _ | refine Ext.drewN ?_ _))).trans h2
      clear h2
      obtain ⟨⟨b0, b1, b2⟩, d0, d1, d2⟩ := hbox2 h1
      go_wp2_with fail
      clear b0 b1 b2 d0 d1 d2
      refine (head_Put b p2 q2 P2.out (HW.out.ext (hx.trans h1))).mono ?_
      rintro e w12 ⟨rfl, h2⟩
      replace h1 := (h1.trans (by repeat (first | exact Ext.refl _ | refine Ext.alloc ?_ _ | refine Ext.drewN ?_ _))).trans h2
      try replace h3 := (h3.trans (by repeat (first | exact Ext.refl _ | refine Ext.alloc ?_ _ | refine Ext.drewN ?_ _))).trans h2
      try replace h5 := (h5.trans (by repeat (first | exact Ext.refl _ | refine Ext.alloc ?_ _ | refine Ext.drewN ?_ _))).trans h2
      clear h2
      go_wp2_with fail
      refine (law08_awake _ (HW.out.ext (hx.trans h1))).mono ?_
      rintro e w13 ⟨rfl, h2⟩
      replace h1 := (h1.trans (by repeat (first | exact Ext.refl _ | refine Ext.alloc ?_ _ | refine Ext.drewN ?_ _))).trans h2
      try replace h3 := (h3.trans (by repeat (first | exact Ext.refl _ | refine Ext.alloc ?_ _ | refine Ext.drewN ?_ _))).trans h2
      try replace h5 := (h5.trans (by repeat (first | exact Ext.refl _ | refine Ext.alloc ?_ _ | refine Ext.drewN ?_ _))).trans h2
      clear h2
      go_wp2_with fail
      go_ret
      exact ⟨rfl, hx.trans h1⟩

end Go.Proofs.YtjdagameeopadaaDoor
