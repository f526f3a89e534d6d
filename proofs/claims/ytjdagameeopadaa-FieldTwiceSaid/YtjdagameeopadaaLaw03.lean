/-
  The walks of commonagelaw03's statements: each returns true, and leaves all that there was as it was.
-/
import Derived.Test.YtjdagameeopadaaRef03c
namespace Go.Proofs.Ytjdagameeopadaa
open Go.RowKit

/-- The three cells of a box, still there. -/
theorem box3 {w w1 : World} {v0 v1 v2 : Value} {t : TypeId} (hx : Ext (w.alloc (.cells #[v0, v1, v2] t)) w1) :
    w1.cell? ⟨w.heap.size, 0, none⟩ = some v0 ∧ w1.cell? ⟨w.heap.size, 1, none⟩ = some v1 ∧ w1.cell? ⟨w.heap.size, 2, none⟩ = some v2 :=
  ⟨hx.cell (cell_newN w _ t 0), hx.cell (cell_newN w _ t 1), hx.cell (cell_newN w _ t 2)⟩

set_option maxRecDepth 100000 in
set_option maxHeartbeats 2000000 in
theorem law03_FieldTells (u f m v : Int) (w : World) (hu : 0 ≤ u ∧ u < 18446744073709551616) (hv : 0 ≤ v ∧ v < 18446744073709551616) :
    Calls Try.prog 3 #[.int .u64 u, .agg #[.int .i64 f, .int .i64 m, .int .u64 v]] w fun e w' => e = .returned (.bool true) ∧ Ext w w' := by
  obtain ⟨p, q, e1⟩ : ∃ p q, gget u f m = (p, q) := ⟨_, _, rfl⟩
  obtain ⟨r, s, e2⟩ : ∃ p q, gset u f m v = (p, q) := ⟨_, _, rfl⟩
  have E1 := Lib.hid e1; have E2 := Lib.hid e2
  have U := Lib.hid hu.2; have V := Lib.hid hv.2
  have u0 := hu.1; have v0 := hv.1
  clear e1 e2 hu hv
  have h1 := Ext.refl (w.alloc (.cells #[.int .i64 f, .int .i64 m, .int .u64 v] 24))
  have hx := (Ext.refl w).alloc (.cells #[.int .i64 f, .int .i64 m, .int .u64 v] 24)
  go_enter Try.func3, Try.ntmps3
  go_wp2_with fail
  refine (field_Get p q u0 U.out E1.out).mono ?_
  rintro e w1 ⟨rfl, h2⟩
  replace h1 := h1.trans h2
  clear h2
  obtain ⟨b0, b1, b2⟩ := box3 h1
  go_wp2_with fail
  refine (ref03_Get p q u0 U.out E1.out).mono ?_
  rintro e w1000 ⟨rfl, rfl⟩
  go_wp2_with fail
  refine (field_Set r s u0 U.out v0 V.out E2.out).mono ?_
  clear b0 b1 b2
  rintro e w2 ⟨rfl, h2⟩
  replace h1 := h1.trans h2
  clear h2
  obtain ⟨b0, b1, b2⟩ := box3 h1
  go_wp2_with fail
  refine (ref03_Set r s u0 U.out v0 V.out E2.out).mono ?_
  rintro e w1000 ⟨rfl, rfl⟩
  go_wp2_with fail
  clear b0 b1 b2
  refine (law03_awake _).mono ?_
  rintro e w1 ⟨rfl, h2⟩
  replace h1 := h1.trans h2
  clear h2
  go_wp2_with fail
  go_ret
  exact ⟨rfl, hx.trans h1⟩

set_option maxRecDepth 100000 in
set_option maxHeartbeats 2000000 in
theorem law03_FieldPacks {a b : Option Addr} {ca cb : Nat} (xs vs : List Int) (u : Int) (w : World) (h : At .i64 w a xs) (hl : xs.length ≤ maxLen) (hv : At .u64 w b vs) (hvl : vs.length ≤ maxLen) (hvb : ∀ n ∈ vs, 0 ≤ n ∧ n < 18446744073709551616) (hu : 0 ≤ u ∧ u < 18446744073709551616) :
    Calls Try.prog 4 #[.slice a xs.length ca, .slice b vs.length cb, .int .u64 u] w fun e w' => e = .returned (.bool true) ∧ Ext w w' := by
  have h1 := Ext.refl w
  have hl' := hl; have hvl' := hvl
  unfold maxLen at hl' hvl'
  have H := Lib.hid h; have HV := Lib.hid hv; have HB := Lib.hid hvb; have HL := Lib.hid hl; have HVL := Lib.hid hvl; have U := Lib.hid hu.2
  have u0 := hu.1
  clear h hv hvb hu
  by_cases hs : 100 < xs.length
  · go_enter Try.func4, Try.ntmps4
    go_wp2_with fail
    refine (law03_awake _).mono ?_
    rintro e w1 ⟨rfl, h2⟩
    replace h1 := h1.trans h2
    clear h2
    go_wp2_with fail
    go_ret
    exact ⟨rfl, h1⟩
  · have hs1 : decide (100 < (xs.length : Int)) = false := by simp; omega
    by_cases hs2 : 100 < vs.length
    · go_enter Try.func4, Try.ntmps4
      go_wp2_with fail
      refine (law03_awake _).mono ?_
      rintro e w2 ⟨rfl, h2⟩
      replace h1 := h1.trans h2
      clear h2
      go_wp2_with fail
      go_ret
      exact ⟨rfl, h1⟩
    · have hs3 : decide (100 < (vs.length : Int)) = false := by simp; omega
      obtain ⟨p, q, e1⟩ : ∃ p q, packR xs vs = (p, q) := ⟨_, _, rfl⟩
      obtain ⟨l, s, e2⟩ : ∃ p q, unpackR xs u = (p, q) := ⟨_, _, rfl⟩
      have E1 := Lib.hid e1; have E2 := Lib.hid e2
      clear e1 e2 hs hs2
      go_enter Try.func4, Try.ntmps4
      go_wp2_with fail
      refine (field_Pack xs vs p q E1.out (H.out.ext h1) HL.out (HV.out.ext h1) HVL.out HB.out).mono ?_
      rintro e w3 ⟨rfl, h2⟩
      replace h1 := h1.trans h2
      clear h2
      go_wp2_with fail
      refine (ref03_Pack xs vs p q E1.out (H.out.ext h1) HL.out (HV.out.ext h1) HVL.out HB.out).mono ?_
      rintro e w4 ⟨rfl, h2⟩
      replace h1 := h1.trans h2
      clear h2
      go_wp2_with fail
      refine (field_Unpack xs u l s E2.out (H.out.ext h1) HL.out u0 U.out).mono ?_
      rintro e w3 ⟨la, lc, rfl, hn, h2⟩
      have HN := Lib.hid hn.row; have M1 := Lib.hid (Nat.le_trans hn.cap1 hn.cap2)
      clear hn
      replace h1 := h1.trans h2
      clear h2
      go_wp2_with fail
      refine (ref03_Unpack xs u l s E2.out (H.out.ext h1) HL.out u0 U.out).mono ?_
      rintro e w4 ⟨lb, ld, rfl, hn, h2⟩
      have HN2 := Lib.hid hn.row
      replace HN := Lib.hid (HN.out.ext h2)
      clear hn
      replace h1 := h1.trans h2
      clear h2
      go_wp2_with fail
      refine (ref03_Same l l true (by simp) HN.out HN2.out M1.out M1.out).mono ?_
      rintro e w5 ⟨rfl, h2⟩
      replace h1 := h1.trans h2
      clear h2
      go_wp2_with fail
      refine (law03_awake _).mono ?_
      rintro e w6 ⟨rfl, h2⟩
      replace h1 := h1.trans h2
      clear h2
      go_wp2_with fail
      go_ret
      exact ⟨rfl, h1⟩

set_option maxRecDepth 100000 in
set_option maxHeartbeats 2000000 in
theorem law03_FieldBack {a b : Option Addr} {ca cb : Nat} (xs vs : List Int) (u : Int) (w : World) (h : At .i64 w a xs) (hl : xs.length ≤ maxLen) (hv : At .u64 w b vs) (hvl : vs.length ≤ maxLen) (hvb : ∀ n ∈ vs, 0 ≤ n ∧ n < 18446744073709551616) (hu : 0 ≤ u ∧ u < 18446744073709551616) :
    Calls Try.prog 6 #[.slice a xs.length ca, .slice b vs.length cb, .int .u64 u] w fun e w' => e = .returned (.bool true) ∧ Ext w w' := by
  have h1 := Ext.refl w
  have hl' := hl; have hvl' := hvl
  unfold maxLen at hl' hvl'
  have H := Lib.hid h; have HV := Lib.hid hv; have HB := Lib.hid hvb; have HL := Lib.hid hl; have HVL := Lib.hid hvl; have U := Lib.hid hu.2
  have u0 := hu.1
  clear h hv hvb hu
  by_cases hs : 100 < xs.length
  · go_enter Try.func6, Try.ntmps6
    go_wp2_with fail
    refine (law03_awake _).mono ?_
    rintro e w1 ⟨rfl, h2⟩
    replace h1 := h1.trans h2
    clear h2
    go_wp2_with fail
    go_ret
    exact ⟨rfl, h1⟩
  · have hs1 : decide (100 < (xs.length : Int)) = false := by simp; omega
    by_cases hs2 : 100 < vs.length
    · go_enter Try.func6, Try.ntmps6
      go_wp2_with fail
      refine (law03_awake _).mono ?_
      rintro e w2 ⟨rfl, h2⟩
      replace h1 := h1.trans h2
      clear h2
      go_wp2_with fail
      go_ret
      exact ⟨rfl, h1⟩
    · have hs3 : decide (100 < (vs.length : Int)) = false := by simp; omega
      obtain ⟨p, q, e1⟩ : ∃ p q, packR xs vs = (p, q) := ⟨_, _, rfl⟩
      obtain ⟨l, s, e2⟩ : ∃ p q, unpackR xs u = (p, q) := ⟨_, _, rfl⟩
      have E1 := Lib.hid e1; have E2 := Lib.hid e2
      have pb := packR_64 e1
      have p0 := pb.1; have PB := Lib.hid pb.2
      clear pb hs hs2
      have LB := Lib.hid (unpackR_64 e2)
      by_cases hq : q = 0
      · subst hq
        have E3 := Lib.hid (unpack_pack e1 fun n hn => (HB.out n hn).1)
        clear e1
        by_cases hs0 : s = 0
        · subst hs0
          have E4 := Lib.hid (pack_unpack e2 u0)
          clear e2
          go_enter Try.func6, Try.ntmps6
          go_wp2_with fail
          refine (field_Pack xs vs p 0 E1.out (H.out.ext h1) HL.out (HV.out.ext h1) HVL.out HB.out).mono ?_
          rintro e w3 ⟨rfl, h2⟩
          replace h1 := h1.trans h2
          clear h2
          go_wp2_with fail
          refine (field_Unpack xs p vs 0 E3.out (H.out.ext h1) HL.out p0 PB.out).mono ?_
          rintro e w3 ⟨la, lc, rfl, hn, h2⟩
          have HN := Lib.hid hn.row; clear hn
          replace h1 := h1.trans h2
          clear h2
          go_wp2_with fail
          refine (ref03_Same vs vs true (by simp) HN.out (HV.out.ext h1) HVL.out HVL.out).mono ?_
          rintro e w4 ⟨rfl, h2⟩
          replace h1 := h1.trans h2
          clear h2
          go_wp2_with fail
          refine (field_Unpack xs u l 0 E2.out (H.out.ext h1) HL.out u0 U.out).mono ?_
          rintro e w4 ⟨lb, ld, rfl, hn, h2⟩
          have HN2 := Lib.hid hn.row; have M1 := Lib.hid (Nat.le_trans hn.cap1 hn.cap2)
          clear hn HN
          replace h1 := h1.trans h2
          clear h2
          go_wp2_with fail
          refine (field_Pack xs l u 0 E4.out (H.out.ext h1) HL.out HN2.out M1.out LB.out).mono ?_
          rintro e w5 ⟨rfl, h2⟩
          replace h1 := h1.trans h2
          clear h2
          go_wp2_with fail
          refine (law03_awake _).mono ?_
          rintro e w6 ⟨rfl, h2⟩
          replace h1 := h1.trans h2
          clear h2
          go_wp2_with fail
          go_ret
          exact ⟨rfl, h1⟩
        · have hsb : (s != 0) = true := by simpa using hs0
          obtain rfl := unpackR_bad e2 hs0
          clear hs0 e2
          go_enter Try.func6, Try.ntmps6
          go_wp2_with fail
          refine (field_Pack xs vs p 0 E1.out (H.out.ext h1) HL.out (HV.out.ext h1) HVL.out HB.out).mono ?_
          rintro e w7 ⟨rfl, h2⟩
          replace h1 := h1.trans h2
          clear h2
          go_wp2_with fail
          refine (field_Unpack xs p vs 0 E3.out (H.out.ext h1) HL.out p0 PB.out).mono ?_
          rintro e w3 ⟨la, lc, rfl, hn, h2⟩
          have HN := Lib.hid hn.row; clear hn
          replace h1 := h1.trans h2
          clear h2
          go_wp2_with fail
          refine (ref03_Same vs vs true (by simp) HN.out (HV.out.ext h1) HVL.out HVL.out).mono ?_
          rintro e w8 ⟨rfl, h2⟩
          replace h1 := h1.trans h2
          clear h2
          go_wp2_with fail
          refine (field_Unpack xs u [] s E2.out (H.out.ext h1) HL.out u0 U.out).mono ?_
          rintro e w4 ⟨lb, ld, rfl, hn, h2⟩
          clear hn HN
          replace h1 := h1.trans h2
          clear h2
          go_wp2_with fail
          refine (law03_awake _).mono ?_
          rintro e w9 ⟨rfl, h2⟩
          replace h1 := h1.trans h2
          clear h2
          go_wp2_with fail
          go_ret
          exact ⟨rfl, h1⟩
      · have hqb : (q == 0) = false := by simpa using hq
        clear hq e1
        by_cases hs0 : s = 0
        · subst hs0
          have E4 := Lib.hid (pack_unpack e2 u0)
          clear e2
          go_enter Try.func6, Try.ntmps6
          go_wp2_with fail
          refine (field_Pack xs vs p q E1.out (H.out.ext h1) HL.out (HV.out.ext h1) HVL.out HB.out).mono ?_
          rintro e w10 ⟨rfl, h2⟩
          replace h1 := h1.trans h2
          clear h2
          go_wp2_with fail
          refine (field_Unpack xs u l 0 E2.out (H.out.ext h1) HL.out u0 U.out).mono ?_
          rintro e w4 ⟨lb, ld, rfl, hn, h2⟩
          have HN2 := Lib.hid hn.row; have M1 := Lib.hid (Nat.le_trans hn.cap1 hn.cap2)
          clear hn
          replace h1 := h1.trans h2
          clear h2
          go_wp2_with fail
          refine (field_Pack xs l u 0 E4.out (H.out.ext h1) HL.out HN2.out M1.out LB.out).mono ?_
          rintro e w11 ⟨rfl, h2⟩
          replace h1 := h1.trans h2
          clear h2
          go_wp2_with fail
          refine (law03_awake _).mono ?_
          rintro e w12 ⟨rfl, h2⟩
          replace h1 := h1.trans h2
          clear h2
          go_wp2_with fail
          go_ret
          exact ⟨rfl, h1⟩
        · have hsb : (s != 0) = true := by simpa using hs0
          obtain rfl := unpackR_bad e2 hs0
          clear hs0 e2
          go_enter Try.func6, Try.ntmps6
          go_wp2_with fail
          refine (field_Pack xs vs p q E1.out (H.out.ext h1) HL.out (HV.out.ext h1) HVL.out HB.out).mono ?_
          rintro e w13 ⟨rfl, h2⟩
          replace h1 := h1.trans h2
          clear h2
          go_wp2_with fail
          refine (field_Unpack xs u [] s E2.out (H.out.ext h1) HL.out u0 U.out).mono ?_
          rintro e w4 ⟨lb, ld, rfl, hn, h2⟩
          clear hn
          replace h1 := h1.trans h2
          clear h2
          go_wp2_with fail
          refine (law03_awake _).mono ?_
          rintro e w14 ⟨rfl, h2⟩
          replace h1 := h1.trans h2
          clear h2
          go_wp2_with fail
          go_ret
          exact ⟨rfl, h1⟩

end Go.Proofs.Ytjdagameeopadaa
