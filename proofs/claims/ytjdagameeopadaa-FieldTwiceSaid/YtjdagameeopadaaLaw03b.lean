/-
  The walks of commonagelaw03.FieldApart, FieldTwice, FieldParts.
-/
import Derived.Test.YtjdagameeopadaaLaw03
namespace Go.Proofs.Ytjdagameeopadaa
open Go.RowKit

theorem fgetI_fsetI {u f m v : Int} (hf : fitsB v m = true) (h0 : 0 ≤ v) : fgetI (fsetI u f m v) f m = v := by
  unfold fitsB at hf
  simp only [decide_eq_true_eq] at hf
  unfold fgetI fsetI
  rw [Int.toNat_natCast, fget_fset hf, Int.toNat_of_nonneg h0]
theorem fgetI_apart {u f m v g n : Int} (hm : mayB f m = true) (hn : mayB g n = true) (hf : fitsB v m = true) (h : f + m ≤ g ∨ g + n ≤ f) : fgetI (fsetI u f m v) g n = fgetI u g n := by
  rw [mayB_iff] at hm hn
  unfold fitsB at hf
  simp only [decide_eq_true_eq] at hf
  unfold fgetI fsetI
  rw [Int.toNat_natCast, fget_apart hf (by omega)]
theorem fsetI_twice {u f m v : Int} (hf : fitsB v m = true) : fsetI (fsetI u f m v) f m 0 = fsetI u f m 0 := by
  unfold fitsB at hf
  simp only [decide_eq_true_eq] at hf
  unfold fsetI
  rw [Int.toNat_natCast, show (0 : Int).toNat = 0 from rfl, fset_twice hf (Nat.two_pow_pos _)]
theorem fsetI_swap {u f m v g n x : Int} (hm : mayB f m = true) (hn : mayB g n = true) (hf : fitsB v m = true) (hx : fitsB x n = true) (h : f + m ≤ g ∨ g + n ≤ f) :
    fsetI (fsetI u f m v) g n x = fsetI (fsetI u g n x) f m v := by
  rw [mayB_iff] at hm hn
  unfold fitsB at hf hx
  simp only [decide_eq_true_eq] at hf hx
  unfold fsetI
  rw [Int.toNat_natCast, Int.toNat_natCast, fset_swap hf hx (by omega)]
theorem fits0 (m : Int) : fitsB 0 m = true := by unfold fitsB; simp; exact Nat.two_pow_pos _
theorem gset_yes {u f m v : Int} (hm : mayB f m = true) (hf : fitsB v m = true) : gset u f m v = (fsetI u f m v, 0) := by unfold gset; rw [if_pos hm, if_pos hf]
theorem gget_yes {u f m : Int} (hm : mayB f m = true) : gget u f m = (fgetI u f m, 0) := by unfold gget; rw [if_pos hm]
theorem gget_no {u f m : Int} (hm : mayB f m = false) : gget u f m = (0, 2) := by unfold gget; rw [if_neg (by rw [hm]; decide)]

/-- Two boxes of three cells, and more behind them. -/
theorem box33 {w w1 : World} {v0 v1 v2 u0 u1 u2 : Value} {t : TypeId} (hx : Ext ((w.alloc (.cells #[v0, v1, v2] t)).alloc (.cells #[u0, u1, u2] t)) w1) :
    (w1.cell? ⟨w.heap.size, 0, none⟩ = some v0 ∧ w1.cell? ⟨w.heap.size, 1, none⟩ = some v1 ∧ w1.cell? ⟨w.heap.size, 2, none⟩ = some v2) ∧
    w1.cell? ⟨w.heap.size + 1, 0, none⟩ = some u0 ∧ w1.cell? ⟨w.heap.size + 1, 1, none⟩ = some u1 ∧ w1.cell? ⟨w.heap.size + 1, 2, none⟩ = some u2 := by
  have a := box3 (((Ext.refl _).alloc _).trans hx)
  have b := box3 hx
  simp at b
  exact ⟨a, b⟩

set_option maxRecDepth 100000 in
set_option maxHeartbeats 4000000 in
theorem law03_FieldApart (u f m v g n x : Int) (w : World) (hu : 0 ≤ u ∧ u < 18446744073709551616) (hv : 0 ≤ v ∧ v < 18446744073709551616) :
    Calls Try.prog 5 #[.int .u64 u, .agg #[.int .i64 f, .int .i64 m, .int .u64 v], .agg #[.int .i64 g, .int .i64 n, .int .u64 x]] w fun e w' => e = .returned (.bool true) ∧ Ext w w' := by
  have U := Lib.hid hu.2; have V := Lib.hid hv.2
  have u0 := hu.1; have v0 := hv.1
  have h1 := Ext.refl ((w.alloc (.cells #[.int .i64 f, .int .i64 m, .int .u64 v] 24)).alloc (.cells #[.int .i64 g, .int .i64 n, .int .u64 x] 24))
  have hx0 := ((Ext.refl w).alloc (.cells #[.int .i64 f, .int .i64 m, .int .u64 v] 24)).alloc (.cells #[.int .i64 g, .int .i64 n, .int .u64 x] 24)
  obtain ⟨r, s, e1⟩ : ∃ p q, gset u f m v = (p, q) := ⟨_, _, rfl⟩
  have E1 := Lib.hid e1
  by_cases hs : s = 0
  · subst hs
    obtain ⟨hm, hf, hr⟩ := gset_ok e1
    obtain ⟨f0, m1, m64, fm⟩ := mayB_iff.1 hm
    have r64 := gset_64 hu.1 hu.2 e1
    have r0 := r64.1; have R := Lib.hid r64.2
    have E2 := Lib.hid (show gget r f m = (v, 0) by rw [gget_yes hm, hr, fgetI_fsetI hf hv.1])
    clear e1 hu hv r64
    cases hn : mayB g n
    · have E3 := Lib.hid (gget_no (u := u) hn); have E4 := Lib.hid (gget_no (u := r) hn)
      clear hm hf hr hn
      go_enter Try.func5, Try.ntmps5
      go_wp2_with fail
      refine (field_Set r 0 u0 U.out v0 V.out E1.out).mono ?_
      rintro e w1 ⟨rfl, h2⟩
      replace h1 := h1.trans h2
      clear h2
      obtain ⟨⟨b0, b1, b2⟩, d0, d1, d2⟩ := box33 h1
      go_wp2_with fail
      refine (field_Get v 0 r0 R.out E2.out).mono ?_
      clear b0 b1 b2 d0 d1 d2
      rintro e w2 ⟨rfl, h2⟩
      replace h1 := h1.trans h2
      clear h2
      obtain ⟨⟨b0, b1, b2⟩, d0, d1, d2⟩ := box33 h1
      go_wp2_with fail
      refine (field_Get 0 2 u0 U.out E3.out).mono ?_
      clear b0 b1 b2 d0 d1 d2
      rintro e w3 ⟨rfl, h2⟩
      replace h1 := h1.trans h2
      clear h2
      obtain ⟨⟨b0, b1, b2⟩, d0, d1, d2⟩ := box33 h1
      go_wp2_with fail
      refine (field_Get 0 2 r0 R.out E4.out).mono ?_
      clear b0 b1 b2 d0 d1 d2
      rintro e w4 ⟨rfl, h2⟩
      replace h1 := h1.trans h2
      clear h2
      obtain ⟨⟨b0, b1, b2⟩, d0, d1, d2⟩ := box33 h1
      go_wp2_with fail
      refine (law03_awake _).mono ?_
      rintro e w1 ⟨rfl, h2⟩
      replace h1 := h1.trans h2
      clear h2
      go_wp2_with fail
      go_ret
      exact ⟨rfl, hx0.trans h1⟩
    · obtain ⟨g0, n1, n64, gn⟩ := mayB_iff.1 hn
      obtain ⟨a, ha⟩ : ∃ a, fgetI u g n = a := ⟨_, rfl⟩
      obtain ⟨b, hb⟩ : ∃ b, fgetI r g n = b := ⟨_, rfl⟩
      have E3 := Lib.hid (show gget u g n = (a, 0) by rw [gget_yes hn, ha]); have E4 := Lib.hid (show gget r g n = (b, 0) by rw [gget_yes hn, hb])
      have AB := Lib.hid (fun h => show a = b by rw [← ha, ← hb, hr, fgetI_apart hm hn hf h])
      clear hm hf hr hn ha hb
      by_cases hap : f + m ≤ g ∨ g + n ≤ f
      · obtain rfl := AB.out hap
        have hA := Lib.hid hap
        by_cases h3 : f + m ≤ g
        · have h3b : decide (f + m ≤ g) = true := by simpa using h3
          clear hap AB
          go_enter Try.func5, Try.ntmps5
          go_wp2_with fail
          refine (field_Set r 0 u0 U.out v0 V.out E1.out).mono ?_
          rintro e w1 ⟨rfl, h2⟩
          replace h1 := h1.trans h2
          clear h2
          obtain ⟨⟨b0, b1, b2⟩, d0, d1, d2⟩ := box33 h1
          go_wp2_with fail
          refine (field_Get v 0 r0 R.out E2.out).mono ?_
          clear b0 b1 b2 d0 d1 d2
          rintro e w2 ⟨rfl, h2⟩
          replace h1 := h1.trans h2
          clear h2
          obtain ⟨⟨b0, b1, b2⟩, d0, d1, d2⟩ := box33 h1
          go_wp2_with fail
          refine (field_Get a 0 u0 U.out E3.out).mono ?_
          clear b0 b1 b2 d0 d1 d2
          rintro e w3 ⟨rfl, h2⟩
          replace h1 := h1.trans h2
          clear h2
          obtain ⟨⟨b0, b1, b2⟩, d0, d1, d2⟩ := box33 h1
          go_wp2_with fail
          refine (field_Get a 0 r0 R.out E4.out).mono ?_
          clear b0 b1 b2 d0 d1 d2
          rintro e w4 ⟨rfl, h2⟩
          replace h1 := h1.trans h2
          clear h2
          obtain ⟨⟨b0, b1, b2⟩, d0, d1, d2⟩ := box33 h1
          go_wp2_with fail
          refine (law03_awake _).mono ?_
          rintro e w2 ⟨rfl, h2⟩
          replace h1 := h1.trans h2
          clear h2
          go_wp2_with fail
          go_ret
          exact ⟨rfl, hx0.trans h1⟩
        · have h3b : decide (f + m ≤ g) = false := by simpa using h3
          have h4b : decide (g + n ≤ f) = true := by simp; omega
          clear hap AB
          go_enter Try.func5, Try.ntmps5
          go_wp2_with fail
          refine (field_Set r 0 u0 U.out v0 V.out E1.out).mono ?_
          rintro e w1 ⟨rfl, h2⟩
          replace h1 := h1.trans h2
          clear h2
          obtain ⟨⟨b0, b1, b2⟩, d0, d1, d2⟩ := box33 h1
          go_wp2_with fail
          refine (field_Get v 0 r0 R.out E2.out).mono ?_
          clear b0 b1 b2 d0 d1 d2
          rintro e w2 ⟨rfl, h2⟩
          replace h1 := h1.trans h2
          clear h2
          obtain ⟨⟨b0, b1, b2⟩, d0, d1, d2⟩ := box33 h1
          go_wp2_with fail
          refine (field_Get a 0 u0 U.out E3.out).mono ?_
          clear b0 b1 b2 d0 d1 d2
          rintro e w3 ⟨rfl, h2⟩
          replace h1 := h1.trans h2
          clear h2
          obtain ⟨⟨b0, b1, b2⟩, d0, d1, d2⟩ := box33 h1
          go_wp2_with fail
          refine (field_Get a 0 r0 R.out E4.out).mono ?_
          clear b0 b1 b2 d0 d1 d2
          rintro e w4 ⟨rfl, h2⟩
          replace h1 := h1.trans h2
          clear h2
          obtain ⟨⟨b0, b1, b2⟩, d0, d1, d2⟩ := box33 h1
          go_wp2_with fail
          refine (law03_awake _).mono ?_
          rintro e w3 ⟨rfl, h2⟩
          replace h1 := h1.trans h2
          clear h2
          go_wp2_with fail
          go_ret
          exact ⟨rfl, hx0.trans h1⟩
      · have h3b : decide (f + m ≤ g) = false := by simp; omega
        have h4b : decide (g + n ≤ f) = false := by simp; omega
        clear hap AB
        go_enter Try.func5, Try.ntmps5
        go_wp2_with fail
        refine (field_Set r 0 u0 U.out v0 V.out E1.out).mono ?_
        rintro e w1 ⟨rfl, h2⟩
        replace h1 := h1.trans h2
        clear h2
        obtain ⟨⟨b0, b1, b2⟩, d0, d1, d2⟩ := box33 h1
        go_wp2_with fail
        refine (field_Get v 0 r0 R.out E2.out).mono ?_
        clear b0 b1 b2 d0 d1 d2
        rintro e w2 ⟨rfl, h2⟩
        replace h1 := h1.trans h2
        clear h2
        obtain ⟨⟨b0, b1, b2⟩, d0, d1, d2⟩ := box33 h1
        go_wp2_with fail
        refine (field_Get a 0 u0 U.out E3.out).mono ?_
        clear b0 b1 b2 d0 d1 d2
        rintro e w3 ⟨rfl, h2⟩
        replace h1 := h1.trans h2
        clear h2
        obtain ⟨⟨b0, b1, b2⟩, d0, d1, d2⟩ := box33 h1
        go_wp2_with fail
        refine (field_Get b 0 r0 R.out E4.out).mono ?_
        clear b0 b1 b2 d0 d1 d2
        rintro e w4 ⟨rfl, h2⟩
        replace h1 := h1.trans h2
        clear h2
        obtain ⟨⟨b0, b1, b2⟩, d0, d1, d2⟩ := box33 h1
        go_wp2_with fail
        refine (law03_awake _).mono ?_
        rintro e w4 ⟨rfl, h2⟩
        replace h1 := h1.trans h2
        clear h2
        go_wp2_with fail
        go_ret
        exact ⟨rfl, hx0.trans h1⟩
  · have hsb : (s != 0) = true := by simpa using hs
    obtain rfl := gset_bad e1 hs
    clear hs e1 hu hv
    go_enter Try.func5, Try.ntmps5
    go_wp2_with fail
    refine (field_Set 0 s u0 U.out v0 V.out E1.out).mono ?_
    rintro e w1 ⟨rfl, h2⟩
    replace h1 := h1.trans h2
    clear h2
    go_wp2_with fail
    refine (law03_awake _).mono ?_
    rintro e w5 ⟨rfl, h2⟩
    replace h1 := h1.trans h2
    clear h2
    go_wp2_with fail
    go_ret
    exact ⟨rfl, hx0.trans h1⟩

set_option maxRecDepth 100000 in
set_option maxHeartbeats 4000000 in
theorem law03_FieldTwice (u f m v g n x : Int) (w : World) (hu : 0 ≤ u ∧ u < 18446744073709551616) (hv : 0 ≤ v ∧ v < 18446744073709551616) (hx : 0 ≤ x ∧ x < 18446744073709551616) :
    Calls Try.prog 8 #[.int .u64 u, .agg #[.int .i64 f, .int .i64 m, .int .u64 v], .agg #[.int .i64 g, .int .i64 n, .int .u64 x]] w fun e w' => e = .returned (.bool true) ∧ Ext w w' := by
  have U := Lib.hid hu.2; have V := Lib.hid hv.2; have X := Lib.hid hx.2
  have u0 := hu.1; have v0 := hv.1; have x0 := hx.1
  have h1 := Ext.refl ((w.alloc (.cells #[.int .i64 f, .int .i64 m, .int .u64 v] 24)).alloc (.cells #[.int .i64 g, .int .i64 n, .int .u64 x] 24))
  have hx0 := ((Ext.refl w).alloc (.cells #[.int .i64 f, .int .i64 m, .int .u64 v] 24)).alloc (.cells #[.int .i64 g, .int .i64 n, .int .u64 x] 24)
  obtain ⟨r, s, e1⟩ : ∃ p q, gset u f m v = (p, q) := ⟨_, _, rfl⟩
  have E1 := Lib.hid e1
  by_cases hs : s = 0
  · subst hs
    obtain ⟨hm, hf, hr⟩ := gset_ok e1
    obtain ⟨f0, m1, m64, fm⟩ := mayB_iff.1 hm
    have r64 := gset_64 hu.1 hu.2 e1
    have r0 := r64.1; have R := Lib.hid r64.2
    have Z := Lib.hid (show (0 : Int) < 18446744073709551616 by decide)
    obtain ⟨o, ho⟩ : ∃ o, fsetI u f m 0 = o := ⟨_, rfl⟩
    have E2 := Lib.hid (show gset r f m 0 = (o, 0) by rw [gset_yes hm (fits0 m), hr, fsetI_twice hf, ho])
    have E3 := Lib.hid (show gset u f m 0 = (o, 0) by rw [gset_yes hm (fits0 m), ho])
    obtain ⟨b, h, e4⟩ : ∃ p q, gset u g n x = (p, q) := ⟨_, _, rfl⟩
    have E4 := Lib.hid e4
    clear e1 r64 ho
    by_cases hh : h = 0
    · subst hh
      obtain ⟨hn, hg, hb⟩ := gset_ok e4
      obtain ⟨g0, n1, n64, gn⟩ := mayB_iff.1 hn
      have b64 := gset_64 hu.1 hu.2 e4
      have bb0 := b64.1; have BB := Lib.hid b64.2
      clear e4 b64 hu hv hx
      by_cases hap : f + m ≤ g ∨ g + n ≤ f
      · obtain ⟨c, hc⟩ : ∃ c, fsetI r g n x = c := ⟨_, rfl⟩
        have E5 := Lib.hid (show gset r g n x = (c, 0) by rw [gset_yes hn hg, hc])
        have E6 := Lib.hid (show gset b f m v = (c, 0) by rw [gset_yes hm hf, hb, ← fsetI_swap hm hn hf hg hap, ← hr, hc])
        clear hm hf hr hn hg hb hc
        by_cases h3 : g < f + m
        · have h4b : decide (f < g + n) = false := by simp; omega
          have h3b : decide (g < f + m) = true := by simpa using h3
          clear hap
          go_enter Try.func8, Try.ntmps8
          go_wp2_with fail
          try clear b0 b1 b2 d0 d1 d2
          refine (field_Set r 0 u0 U.out v0 V.out E1.out).mono ?_
          rintro e w1 ⟨rfl, h2⟩
          replace h1 := h1.trans h2
          clear h2
          obtain ⟨⟨b0, b1, b2⟩, d0, d1, d2⟩ := box33 h1
          go_wp2_with fail
          try clear b0 b1 b2 d0 d1 d2
          refine (field_Set o 0 r0 R.out (Int.le_refl 0) Z.out E2.out).mono ?_
          rintro e w2 ⟨rfl, h2⟩
          replace h1 := h1.trans h2
          clear h2
          obtain ⟨⟨b0, b1, b2⟩, d0, d1, d2⟩ := box33 h1
          go_wp2_with fail
          try clear b0 b1 b2 d0 d1 d2
          refine (field_Set o 0 u0 U.out (Int.le_refl 0) Z.out E3.out).mono ?_
          rintro e w3 ⟨rfl, h2⟩
          replace h1 := h1.trans h2
          clear h2
          obtain ⟨⟨b0, b1, b2⟩, d0, d1, d2⟩ := box33 h1
          go_wp2_with fail
          try clear b0 b1 b2 d0 d1 d2
          refine (field_Set b 0 u0 U.out x0 X.out E4.out).mono ?_
          rintro e w4 ⟨rfl, h2⟩
          replace h1 := h1.trans h2
          clear h2
          obtain ⟨⟨b0, b1, b2⟩, d0, d1, d2⟩ := box33 h1
          go_wp2_with fail
          try clear b0 b1 b2 d0 d1 d2
          refine (field_Set c 0 r0 R.out x0 X.out E5.out).mono ?_
          rintro e w5 ⟨rfl, h2⟩
          replace h1 := h1.trans h2
          clear h2
          obtain ⟨⟨b0, b1, b2⟩, d0, d1, d2⟩ := box33 h1
          go_wp2_with fail
          try clear b0 b1 b2 d0 d1 d2
          refine (field_Set c 0 bb0 BB.out v0 V.out E6.out).mono ?_
          rintro e w6 ⟨rfl, h2⟩
          replace h1 := h1.trans h2
          clear h2
          obtain ⟨⟨b0, b1, b2⟩, d0, d1, d2⟩ := box33 h1
          go_wp2_with fail
          refine (law03_awake _).mono ?_
          rintro e w7 ⟨rfl, h2⟩
          replace h1 := h1.trans h2
          clear h2
          go_wp2_with fail
          go_ret
          exact ⟨rfl, hx0.trans h1⟩
        · have h3b : decide (g < f + m) = false := by simpa using h3
          clear hap
          go_enter Try.func8, Try.ntmps8
          go_wp2_with fail
          try clear b0 b1 b2 d0 d1 d2
          refine (field_Set r 0 u0 U.out v0 V.out E1.out).mono ?_
          rintro e w8 ⟨rfl, h2⟩
          replace h1 := h1.trans h2
          clear h2
          obtain ⟨⟨b0, b1, b2⟩, d0, d1, d2⟩ := box33 h1
          go_wp2_with fail
          try clear b0 b1 b2 d0 d1 d2
          refine (field_Set o 0 r0 R.out (Int.le_refl 0) Z.out E2.out).mono ?_
          rintro e w9 ⟨rfl, h2⟩
          replace h1 := h1.trans h2
          clear h2
          obtain ⟨⟨b0, b1, b2⟩, d0, d1, d2⟩ := box33 h1
          go_wp2_with fail
          try clear b0 b1 b2 d0 d1 d2
          refine (field_Set o 0 u0 U.out (Int.le_refl 0) Z.out E3.out).mono ?_
          rintro e w10 ⟨rfl, h2⟩
          replace h1 := h1.trans h2
          clear h2
          obtain ⟨⟨b0, b1, b2⟩, d0, d1, d2⟩ := box33 h1
          go_wp2_with fail
          try clear b0 b1 b2 d0 d1 d2
          refine (field_Set b 0 u0 U.out x0 X.out E4.out).mono ?_
          rintro e w11 ⟨rfl, h2⟩
          replace h1 := h1.trans h2
          clear h2
          obtain ⟨⟨b0, b1, b2⟩, d0, d1, d2⟩ := box33 h1
          go_wp2_with fail
          try clear b0 b1 b2 d0 d1 d2
          refine (field_Set c 0 r0 R.out x0 X.out E5.out).mono ?_
          rintro e w12 ⟨rfl, h2⟩
          replace h1 := h1.trans h2
          clear h2
          obtain ⟨⟨b0, b1, b2⟩, d0, d1, d2⟩ := box33 h1
          go_wp2_with fail
          try clear b0 b1 b2 d0 d1 d2
          refine (field_Set c 0 bb0 BB.out v0 V.out E6.out).mono ?_
          rintro e w13 ⟨rfl, h2⟩
          replace h1 := h1.trans h2
          clear h2
          obtain ⟨⟨b0, b1, b2⟩, d0, d1, d2⟩ := box33 h1
          go_wp2_with fail
          refine (law03_awake _).mono ?_
          rintro e w14 ⟨rfl, h2⟩
          replace h1 := h1.trans h2
          clear h2
          go_wp2_with fail
          go_ret
          exact ⟨rfl, hx0.trans h1⟩
      · have h3b : decide (g < f + m) = true := by simp; omega
        have h4b : decide (f < g + n) = true := by simp; omega
        clear hap hm hf hr hn hg hb
        go_enter Try.func8, Try.ntmps8
        go_wp2_with fail
        try clear b0 b1 b2 d0 d1 d2
        refine (field_Set r 0 u0 U.out v0 V.out E1.out).mono ?_
        rintro e w15 ⟨rfl, h2⟩
        replace h1 := h1.trans h2
        clear h2
        obtain ⟨⟨b0, b1, b2⟩, d0, d1, d2⟩ := box33 h1
        go_wp2_with fail
        try clear b0 b1 b2 d0 d1 d2
        refine (field_Set o 0 r0 R.out (Int.le_refl 0) Z.out E2.out).mono ?_
        rintro e w16 ⟨rfl, h2⟩
        replace h1 := h1.trans h2
        clear h2
        obtain ⟨⟨b0, b1, b2⟩, d0, d1, d2⟩ := box33 h1
        go_wp2_with fail
        try clear b0 b1 b2 d0 d1 d2
        refine (field_Set o 0 u0 U.out (Int.le_refl 0) Z.out E3.out).mono ?_
        rintro e w17 ⟨rfl, h2⟩
        replace h1 := h1.trans h2
        clear h2
        obtain ⟨⟨b0, b1, b2⟩, d0, d1, d2⟩ := box33 h1
        go_wp2_with fail
        try clear b0 b1 b2 d0 d1 d2
        refine (field_Set b 0 u0 U.out x0 X.out E4.out).mono ?_
        rintro e w18 ⟨rfl, h2⟩
        replace h1 := h1.trans h2
        clear h2
        obtain ⟨⟨b0, b1, b2⟩, d0, d1, d2⟩ := box33 h1
        go_wp2_with fail
        refine (law03_awake _).mono ?_
        rintro e w19 ⟨rfl, h2⟩
        replace h1 := h1.trans h2
        clear h2
        go_wp2_with fail
        go_ret
        exact ⟨rfl, hx0.trans h1⟩
    · have hhb : (h != 0) = true := by simpa using hh
      clear hh e4 hm hf hr hu hv hx
      go_enter Try.func8, Try.ntmps8
      go_wp2_with fail
      try clear b0 b1 b2 d0 d1 d2
      refine (field_Set r 0 u0 U.out v0 V.out E1.out).mono ?_
      rintro e w20 ⟨rfl, h2⟩
      replace h1 := h1.trans h2
      clear h2
      obtain ⟨⟨b0, b1, b2⟩, d0, d1, d2⟩ := box33 h1
      go_wp2_with fail
      try clear b0 b1 b2 d0 d1 d2
      refine (field_Set o 0 r0 R.out (Int.le_refl 0) Z.out E2.out).mono ?_
      rintro e w21 ⟨rfl, h2⟩
      replace h1 := h1.trans h2
      clear h2
      obtain ⟨⟨b0, b1, b2⟩, d0, d1, d2⟩ := box33 h1
      go_wp2_with fail
      try clear b0 b1 b2 d0 d1 d2
      refine (field_Set o 0 u0 U.out (Int.le_refl 0) Z.out E3.out).mono ?_
      rintro e w22 ⟨rfl, h2⟩
      replace h1 := h1.trans h2
      clear h2
      obtain ⟨⟨b0, b1, b2⟩, d0, d1, d2⟩ := box33 h1
      go_wp2_with fail
      try clear b0 b1 b2 d0 d1 d2
      refine (field_Set b h u0 U.out x0 X.out E4.out).mono ?_
      rintro e w23 ⟨rfl, h2⟩
      replace h1 := h1.trans h2
      clear h2
      obtain ⟨⟨b0, b1, b2⟩, d0, d1, d2⟩ := box33 h1
      go_wp2_with fail
      refine (law03_awake _).mono ?_
      rintro e w24 ⟨rfl, h2⟩
      replace h1 := h1.trans h2
      clear h2
      go_wp2_with fail
      go_ret
      exact ⟨rfl, hx0.trans h1⟩
  · have hsb : (s != 0) = true := by simpa using hs
    clear hs e1 hu hv hx
    go_enter Try.func8, Try.ntmps8
    go_wp2_with fail
    try clear b0 b1 b2 d0 d1 d2
    refine (field_Set r s u0 U.out v0 V.out E1.out).mono ?_
    rintro e w25 ⟨rfl, h2⟩
    replace h1 := h1.trans h2
    clear h2
    obtain ⟨⟨b0, b1, b2⟩, d0, d1, d2⟩ := box33 h1
    go_wp2_with fail
    refine (law03_awake _).mono ?_
    rintro e w26 ⟨rfl, h2⟩
    replace h1 := h1.trans h2
    clear h2
    go_wp2_with fail
    go_ret
    exact ⟨rfl, hx0.trans h1⟩

end Go.Proofs.Ytjdagameeopadaa
