/-
  commonageref08: May, Put, Get, Need, Field: each hands back what head's own plain function computes.
-/
import Derived.Test.YtjdagameeopadaaDoorHead2
namespace Go.Proofs.YtjdagameeopadaaDoor
open Go.RowKit

set_option maxHeartbeats 4000000 in
theorem ref08_May (h : Hd) (b : Bool) {w : World} (hb : decide (hdok h) = b) :
    Calls Tryd.prog 17 #[.agg #[.int .i64 h.c, .int .i64 h.r, .int .i64 h.w]] w fun e w' => e = .returned (.bool b) ∧ Ext w w' := by
  have hx := (Ext.refl w).alloc (.cells #[.int .i64 h.c, .int .i64 h.r, .int .i64 h.w] 23)
  obtain ⟨c, r, q⟩ := h
  simp only at hx ⊢
  have k := hd_cases c r q
  rcases k with ⟨k, k1, k2, k3, k4, k5, k6⟩ | ⟨k, h | ⟨h1, h2⟩ | ⟨h1, h2, h3⟩ | ⟨h1, h2, h3, h4⟩ | ⟨h1, h2, h3, h4, h5⟩ | ⟨h1, h2, h3, h4, h5, h6⟩⟩
  · have HB := Lib.hid (show true = b by rw [← hb, decide_eq_true k])
    clear hb k
    go_enter Tryd.func17, Tryd.ntmps17
    go_wp2_with fail
    all_goals go_ret
    all_goals first | exact ⟨ret_bool HB.out, hx⟩ | exact ⟨ret_bool ((decide_eq_false (by omega)).trans HB.out), hx⟩ | exact ⟨ret_bool ((decide_eq_true (by omega)).trans HB.out), hx⟩
  all_goals
    have HB := Lib.hid (show false = b by rw [← hb, decide_eq_false k])
    clear hb k
    go_enter Tryd.func17, Tryd.ntmps17
    go_wp2_with fail
    all_goals go_ret
    all_goals first | exact ⟨ret_bool HB.out, hx⟩ | exact ⟨ret_bool ((decide_eq_false (by omega)).trans HB.out), hx⟩ | exact ⟨ret_bool ((decide_eq_true (by omega)).trans HB.out), hx⟩

set_option maxHeartbeats 4000000 in
theorem ref08_Put (h : Hd) (p q : Int) {w : World} (hpq : hdput h = (p, q)) :
    Calls Tryd.prog 7 #[.agg #[.int .i64 h.c, .int .i64 h.r, .int .i64 h.w]] w fun e w' => e = .returned (.tuple #[.int .u64 p, .int .i64 q]) ∧ Ext w w' := by
  have hx := (Ext.refl w).alloc (.cells #[.int .i64 h.c, .int .i64 h.r, .int .i64 h.w] 23)
  have h1 := Ext.refl (w.alloc (.cells #[.int .i64 h.c, .int .i64 h.r, .int .i64 h.w] 23))
  by_cases hk : hdok h
  · have E := Lib.hid (show (hdword h, 0) = (p, q) by rw [← hpq, hdput_yes hk])
    have HB := Lib.hid (show decide (hdok h) = true from decide_eq_true hk)
    obtain ⟨⟨k1, k2⟩, k3, k4, k5, k6⟩ := hk
    have kr : h.r ≤ 63 := k5
    have kw : h.w ≤ 63 := by omega
    clear hpq
    go_enter Tryd.func7, Tryd.ntmps7
    go_wp2_with fail
    refine (ref08_May h true HB.out).mono ?_
    rintro e w1 ⟨rfl, h2⟩
    replace h1 := h1.trans h2
    obtain ⟨b0, b1, b2⟩ := hbox h1
    go_wp2_with fail
    go_ret2
    cases E.out
    refine ⟨ret_int2 ?_ rfl, hx.trans h1⟩
    unfold hdword
    simp
    omega
  · obtain ⟨rfl, rfl⟩ : 0 = p ∧ 2 = q := by rw [hdput_no hk] at hpq; simpa using hpq
    have HB := Lib.hid (show decide (hdok h) = false from decide_eq_false hk)
    clear hpq hk
    go_enter Tryd.func7, Tryd.ntmps7
    go_wp2_with fail
    refine (ref08_May h false HB.out).mono ?_
    rintro e w1 ⟨rfl, h2⟩
    go_wp2_with fail
    go_ret2
    exact ⟨rfl, hx.trans h2⟩

/-- What is read of a word, put again, is the word, just where head.Get takes it. -/
theorem hdraw_again {u : Int} (k : hdok (hdraw u)) : hdword (hdraw u) = u ↔ hdis u := by
  constructor
  · intro e
    refine ⟨?_, ?_, k⟩
    · rw [← e]; obtain ⟨⟨h1, h2⟩, h3, h4, h5, h6⟩ := k; generalize hdraw u = h at *; unfold hdword; omega
    · rw [← e]; obtain ⟨⟨h1, h2⟩, h3, h4, h5, h6⟩ := k; generalize hdraw u = h at *; unfold hdword; omega
  · exact hdis_word

set_option maxHeartbeats 4000000 in
theorem ref08_Get (u : Int) (h : Hd) (q : Int) {w : World} (hpq : hdget u = (h, q)) (h0 : 0 ≤ u) (h1 : u < 18446744073709551616) :
    Calls Tryd.prog 9 #[.int .u64 u] w fun e w' => e = .returned (.tuple #[.agg #[.int .i64 h.c, .int .i64 h.r, .int .i64 h.w], .int .i64 q]) ∧ Ext w w' := by
  have u1 : u ≤ 18446744073709551615 := by omega
  have hr := fun k => hdraw_again (u := u) k
  clear h1
  obtain ⟨c, r, x, hx⟩ : ∃ c r x, hdraw u = ⟨c, r, x⟩ := ⟨_, _, _, rfl⟩
  have ec : u / 281474976710656 % 256 = c := congrArg Hd.c hx
  have er : u / 4294967296 % 65536 = r := congrArg Hd.r hx
  have ex : u / 65536 % 65536 = x := congrArg Hd.w hx
  obtain ⟨p, s, hps⟩ : ∃ p s, hdput ⟨c, r, x⟩ = (p, s) := ⟨_, _, rfl⟩
  have P := Lib.hid hps
  rw [hx] at hr
  by_cases hk : hdis u
  · rw [hdget_yes hk, hx] at hpq
    cases hpq
    have k2 := hk.2.2
    rw [hx] at k2
    rw [hdput_yes k2] at hps
    obtain ⟨rfl, rfl⟩ : u = p ∧ 0 = s := by rw [(hr k2).2 hk] at hps; simpa using hps
    clear hps hr hk k2 hx
    dsimp only
    have P' := Lib.hid (show hdput ⟨c, r, x⟩ = (u, 0) from P.out)
    have h1 := ((Ext.refl w).alloc (.cells #[.int .i64 0, .int .i64 0, .int .i64 0] 23)).alloc (.cells #[.int .i64 c, .int .i64 r, .int .i64 x] 23)
    have h5 := (Ext.refl (w.alloc (.cells #[.int .i64 0, .int .i64 0, .int .i64 0] 23))).alloc (.cells #[.int .i64 c, .int .i64 r, .int .i64 x] 23)
    have h3 := Ext.refl ((w.alloc (.cells #[.int .i64 0, .int .i64 0, .int .i64 0] 23)).alloc (.cells #[.int .i64 c, .int .i64 r, .int .i64 x] 23))
    clear P
    go_enter Tryd.func9, Tryd.ntmps9
    go_wp2_with fail
    refine (ref08_Put ⟨c, r, x⟩ u 0 P'.out).mono ?_
    rintro e w1 ⟨rfl, h2⟩
    replace h1 := (h1.trans (by repeat (first | exact Ext.refl _ | refine Ext.alloc ?_ _ | refine Ext.drewN ?_ _))).trans h2
    try replace h3 := (h3.trans (by repeat (first | exact Ext.refl _ | refine Ext.alloc ?_ _ | refine Ext.drewN ?_ _))).trans h2
    try replace h5 := (h5.trans (by repeat (first | exact Ext.refl _ | refine Ext.alloc ?_ _ | refine Ext.drewN ?_ _))).trans h2
    clear h2
    obtain ⟨d0, d1, d2⟩ := hbox h3
    obtain ⟨p0, p1, p2⟩ := hbox h5
    simp only [World.size_alloc] at d0 d1 d2
    have q0 := h5.frozenAt (cell_newN w #[.int .i64 0, .int .i64 0, .int .i64 0] 23 0) (by simp)
    have q1 := h5.frozenAt (cell_newN w #[.int .i64 0, .int .i64 0, .int .i64 0] 23 1) (by simp)
    have q2 := h5.frozenAt (cell_newN w #[.int .i64 0, .int .i64 0, .int .i64 0] 23 2) (by simp)
    have hlt := cell_lt p0
    go_wp2_with fail
    refine bodyPost_ret (v := .tuple #[.agg #[.int .i64 c, .int .i64 r, .int .i64 x], .int .i64 0]) (by simp [results, Tryd.results9, go_sem, p0, p1, p2, World.cell?_setCell_same, World.cell?_setCell_other]) rfl ⟨rfl, ?_⟩
    repeat (first | exact h1 | refine Ext.setCell ?_ (Nat.le_refl _) _)
  · rw [hdget_no hk] at hpq
    cases hpq
    unfold hdnil
    dsimp only
    have hn : (s != 0) = true ∨ ((s != 0) = false ∧ (p != u) = true) := by
      by_cases k : hdok ⟨c, r, x⟩
      · right
        rw [hdput_yes k] at hps
        obtain ⟨rfl, rfl⟩ : hdword ⟨c, r, x⟩ = p ∧ 0 = s := by simpa using hps
        refine ⟨rfl, ?_⟩
        simp only [bne_iff_ne]
        exact fun e => hk ((hr k).1 e)
      · left
        rw [hdput_no k] at hps
        obtain ⟨rfl, rfl⟩ : 0 = p ∧ 2 = s := by simpa using hps
        rfl
    have h1 := ((Ext.refl w).alloc (.cells #[.int .i64 0, .int .i64 0, .int .i64 0] 23)).alloc (.cells #[.int .i64 c, .int .i64 r, .int .i64 x] 23)
    have h5 := (Ext.refl (w.alloc (.cells #[.int .i64 0, .int .i64 0, .int .i64 0] 23))).alloc (.cells #[.int .i64 c, .int .i64 r, .int .i64 x] 23)
    clear hps hr hx
    rcases hn with hn | ⟨hn, hn'⟩
    all_goals
      go_enter Tryd.func9, Tryd.ntmps9
      go_wp2_with fail
      refine (ref08_Put ⟨c, r, x⟩ p s P.out).mono ?_
      rintro e w1 ⟨rfl, h2⟩
      replace h1 := h1.trans h2
      replace h5 := h5.trans h2
      clear h2
      obtain ⟨p0, p1, p2⟩ := hbox h5
      have q0 := h5.frozenAt (cell_newN w #[.int .i64 0, .int .i64 0, .int .i64 0] 23 0) (by simp)
      have q1 := h5.frozenAt (cell_newN w #[.int .i64 0, .int .i64 0, .int .i64 0] 23 1) (by simp)
      have q2 := h5.frozenAt (cell_newN w #[.int .i64 0, .int .i64 0, .int .i64 0] 23 2) (by simp)
      have hlt := cell_lt p0
      go_wp2_with fail
      refine bodyPost_ret (v := .tuple #[.agg #[.int .i64 0, .int .i64 0, .int .i64 0], .int .i64 5]) (by simp [results, Tryd.results9, go_sem, p0, p1, p2, World.cell?_setCell_same, World.cell?_setCell_other]) rfl ⟨rfl, ?_⟩
      repeat (first | exact h1 | refine Ext.setCell ?_ (Nat.le_refl _) _)

set_option maxHeartbeats 4000000 in
theorem ref08_Need (h : Hd) (p q : Int) {w : World} (hpq : hdneed h = (p, q)) :
    Calls Tryd.prog 11 #[.agg #[.int .i64 h.c, .int .i64 h.r, .int .i64 h.w]] w fun e w' => e = .returned (.tuple #[.int .i64 p, .int .i64 q]) ∧ Ext w w' := by
  have hx := (Ext.refl w).alloc (.cells #[.int .i64 h.c, .int .i64 h.r, .int .i64 h.w] 23)
  have h1 := Ext.refl (w.alloc (.cells #[.int .i64 h.c, .int .i64 h.r, .int .i64 h.w] 23))
  by_cases hk : hdok h
  · have E := Lib.hid (show (h.r + h.w + 1, 0) = (p, q) by rw [← hpq]; unfold hdneed; rw [if_pos hk])
    have HB := Lib.hid (show decide (hdok h) = true from decide_eq_true hk)
    obtain ⟨⟨k1, k2⟩, k3, k4, k5, k6⟩ := hk
    clear hpq
    go_enter Tryd.func11, Tryd.ntmps11
    go_wp2_with fail
    refine (ref08_May h true HB.out).mono ?_
    rintro e w1 ⟨rfl, h2⟩
    replace h1 := h1.trans h2
    obtain ⟨b0, b1, b2⟩ := hbox h1
    go_wp2_with fail
    go_ret2
    cases E.out
    exact ⟨ret_int2 (by omega) rfl, hx.trans h1⟩
  · obtain ⟨rfl, rfl⟩ : 0 = p ∧ 2 = q := by unfold hdneed at hpq; rw [if_neg hk] at hpq; simpa using hpq
    have HB := Lib.hid (show decide (hdok h) = false from decide_eq_false hk)
    clear hpq hk
    go_enter Tryd.func11, Tryd.ntmps11
    go_wp2_with fail
    refine (ref08_May h false HB.out).mono ?_
    rintro e w1 ⟨rfl, h2⟩
    go_wp2_with fail
    go_ret2
    exact ⟨rfl, hx.trans h2⟩

set_option maxHeartbeats 4000000 in
theorem ref08_Field (h : Hd) (i : Int) (p : Bool) (q : Int) {w : World} (hpq : hdfield h i = (p, q)) :
    Calls Tryd.prog 13 #[.agg #[.int .i64 h.c, .int .i64 h.r, .int .i64 h.w], .int .i64 i] w fun e w' => e = .returned (.tuple #[.bool p, .int .i64 q]) ∧ Ext w w' := by
  have hx := (Ext.refl w).alloc (.cells #[.int .i64 h.c, .int .i64 h.r, .int .i64 h.w] 23)
  have h1 := Ext.refl (w.alloc (.cells #[.int .i64 h.c, .int .i64 h.r, .int .i64 h.w] 23))
  by_cases hk : hdok h
  · have HB := Lib.hid (show decide (hdok h) = true from decide_eq_true hk)
    unfold hdfield at hpq
    rw [if_pos hk] at hpq
    obtain ⟨⟨k1, k2⟩, k3, k4, k5, k6⟩ := hk
    by_cases hi : i < 0
    · obtain ⟨rfl, rfl⟩ : false = p ∧ 110 = q := by rw [if_pos (.inl hi)] at hpq; simpa using hpq
      clear hpq
      go_enter Tryd.func13, Tryd.ntmps13
      go_wp2_with fail
      refine (ref08_May h true HB.out).mono ?_
      rintro e w1 ⟨rfl, h2⟩
      replace h1 := h1.trans h2
      obtain ⟨b0, b1, b2⟩ := hbox h1
      go_wp2_with fail
      go_ret2
      exact ⟨rfl, hx.trans h1⟩
    · have hi0 : 0 ≤ i := by omega
      by_cases hj : h.r + h.w ≤ i
      · obtain ⟨rfl, rfl⟩ : false = p ∧ 110 = q := by rw [if_pos (.inr hj)] at hpq; simpa using hpq
        clear hpq
        go_enter Tryd.func13, Tryd.ntmps13
        go_wp2_with fail
        refine (ref08_May h true HB.out).mono ?_
        rintro e w1 ⟨rfl, h2⟩
        replace h1 := h1.trans h2
        obtain ⟨b0, b1, b2⟩ := hbox h1
        go_wp2_with fail
        go_ret2
        exact ⟨rfl, hx.trans h1⟩
      · have E := Lib.hid (show (decide (i < h.r), (0 : Int)) = (p, q) by rw [← hpq, if_neg (by omega)])
        clear hpq
        replace hj : i < h.r + h.w := by omega
        go_enter Tryd.func13, Tryd.ntmps13
        go_wp2_with fail
        refine (ref08_May h true HB.out).mono ?_
        rintro e w1 ⟨rfl, h2⟩
        replace h1 := h1.trans h2
        obtain ⟨b0, b1, b2⟩ := hbox h1
        go_wp2_with fail
        go_ret2
        cases E.out
        exact ⟨rfl, hx.trans h1⟩
  · obtain ⟨rfl, rfl⟩ : false = p ∧ 2 = q := by unfold hdfield at hpq; rw [if_neg hk] at hpq; simpa using hpq
    have HB := Lib.hid (show decide (hdok h) = false from decide_eq_false hk)
    clear hpq hk
    go_enter Tryd.func13, Tryd.ntmps13
    go_wp2_with fail
    refine (ref08_May h false HB.out).mono ?_
    rintro e w1 ⟨rfl, h2⟩
    go_wp2_with fail
    go_ret2
    exact ⟨rfl, hx.trans h2⟩

end Go.Proofs.YtjdagameeopadaaDoor
