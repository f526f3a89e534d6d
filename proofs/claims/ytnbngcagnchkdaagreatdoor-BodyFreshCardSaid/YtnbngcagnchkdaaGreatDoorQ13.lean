/-
  Merged texts: Law11e.
-/
import Derived.Test.YtnbngcagnchkdaaGreatDoorQ12
set_option linter.unusedVariables false
set_option linter.unusedSimpArgs false
/-! commonagelaw11: does (2). (Printed by wip/gen11x.py.) -/
namespace Go.Proofs.YtnbngcagnchkdaaGreatDoor
open Go.RowKit
variable {P : Nat → Prop} {w w' W : World} {bb mm gw gb pb gp d cap lb lc fb fc mb mc cc : Nat} {ca : Option Addr} {c : Conf} {t : Nat} {ws ws' : List Int} {wh s i to x k : Int} {hd : Hd}

set_option maxRecDepth 100000 in
set_option maxHeartbeats 32000000 in
theorem law11_does_2 (hyy : wh % 7 = 2) (hwh : 0 ≤ wh ∧ wh ≤ 255) (hx64 : 0 ≤ x ∧ x < 18446744073709551616) (hb : BodyAt w bb mm gw gb pb gp c t ws) (hdb : DBd P w d lb fb mb ca c t ws) (hA : P gw) (hP : ∀ k, P k → k < w.heap.size) :
    Calls Tryz.prog 10 #[.pointer (some ⟨bb, 0, none⟩), .agg #[.slice (some ⟨d, 0, none⟩) c.ts.length cap, .int .i64 t, .slice (some ⟨lb, 0, none⟩) (nS c t) lc, .slice (some ⟨fb, 0, none⟩) (nG c t) fc, .slice (some ⟨mb, 0, none⟩) (nG c t) mc, .int .i64 (wordsOf c t), .slice ca c.cl.length cc], .agg #[.int .u8 wh, .int .i64 s, .int .i64 i, .int .i64 to, .int .u64 x, .int .i64 hd.c, .int .i64 hd.r, .int .i64 hd.w]] w (DidB P w bb mm gw gb pb gp lb lc fb fc mb mc cc ca c t (actB c t ws wh s i to x hd)) := by
  obtain ⟨z, hz⟩ : ∃ z, w.heap.size = z := ⟨_, rfl⟩
  obtain ⟨W1, hW1, hB, hY, hR, x1⟩ := bd8 w hz d lb fb mb lc fc mc cc cap ca c t wh s i to x hd
  have B := Lib.hid hB; have A := Lib.hid hY; have R := Lib.hid hR
  have H := Lib.hid (hb.ext x1)
  have D := Lib.hid ((hdb.three hz).ext x1)
  have X := Lib.hid x1
  have PL : Hid (∀ k, P3 P z k → k < W1.heap.size) := Lib.hid fun k q => by
    have := hR.lt; have := x1.size
    rcases q with q | q | q | q
    · exact Nat.lt_of_lt_of_le (hP k q) x1.size
    all_goals omega
  have ZL := Lib.hid (show w.heap.size ≤ z + 2 by omega)
  have PA := Lib.hid hA
  have AL := Lib.hid (show bb < z ∧ mm < z ∧ gw < z ∧ gb < z ∧ pb < z ∧ gp < z ∧ 0 < z by rw [← hz]; exact hb.all_lt)
  have HX := Lib.hid hx64
  have hw0 := Int.emod_nonneg wh (show (7 : Int) ≠ 0 by decide)
  have hw1 := Int.emod_lt_of_pos wh (show (0 : Int) < 7 by decide)
  obtain ⟨y, hy⟩ : ∃ y, wh % 7 = y := ⟨_, rfl⟩
  rw [hy] at hw0 hw1
  have HY := Lib.hid hy
  obtain ⟨wsn, hwsn⟩ : ∃ wsn, actB c t ws wh s i to x hd = wsn := ⟨_, rfl⟩
  rw [hwsn]
  unfold actB at hwsn
  rw [hy] at hwsn
  clear hB hY hR x1 hb hdb hA hP hx64
  have a0 := A.out.c 0 _ rfl; have a1 := A.out.c 1 _ rfl; have a2 := A.out.c 2 _ rfl; have a3 := A.out.c 3 _ rfl; have a4 := A.out.c 4 _ rfl; have a5 := A.out.c 5 _ rfl; have a6 := A.out.c 6 _ rfl; have a7 := A.out.c 7 _ rfl
  have az := A.out.lt
  obtain rfl : y = 2 := by rw [← hy]; exact hyy
  clear hyy
  obtain ⟨ws2, k2, hr⟩ : ∃ ws2 k2, bSetRef c t ws s i to = (ws2, k2) := ⟨_, _, rfl⟩
  have HR := Lib.hid hr
  obtain rfl : ws2 = wsn := by rw [← hwsn]; simp [hr]
  clear hwsn hr
  have b0 := B.out.c 0 _ rfl; have b1 := B.out.c 1 _ rfl; have b2 := B.out.c 2 _ rfl; have b3 := B.out.c 3 _ rfl; have b4 := B.out.c 4 _ rfl; have b5 := B.out.c 5 _ rfl; have b6 := B.out.c 6 _ rfl
  have bz := B.out.lt
  go_enter Tryz.func10, Tryz.ntmps10
  go_wp2_with fail
  clear hW1 hz
  clear b0 b1 b2 b3 b4 b5 b6 bz
  clear a0 a1 a2 a3 a4 a5 a6 a7 az
  refine (ref11_SetRef D.out PL.out HR.out).mono ?_
  rintro e w2 ⟨v, rfl, d2, cap2, rfl, hd2, xx⟩
  have D2 := Lib.hid hd2
  replace H := Lib.hid (H.out.ext xx); replace X := Lib.hid (X.out.trans xx); replace B := Lib.hid (B.out.ext xx); replace A := Lib.hid (A.out.ext xx); replace R := Lib.hid (R.out.ext xx); replace PL := Lib.hid (fun k q => Nat.lt_of_lt_of_le (PL.out k q) xx.size)
  clear hd2 xx
  go_upto_region 4 with fail
  obtain ⟨y8, hy8⟩ : ∃ y8, w2.heap.size = y8 := ⟨_, rfl⟩
  obtain ⟨W3, hW3, hY8, xx⟩ : ∃ W, w2.alloc (.cells #[.slice (some ⟨d2, 0, none⟩) c.ts.length cap2, .int .i64 t, .slice (some ⟨lb, 0, none⟩) (nS c t) lc, .slice (some ⟨fb, 0, none⟩) (nG c t) fc, .slice (some ⟨mb, 0, none⟩) (nG c t) mc, .int .i64 (wordsOf c t), .slice ca c.cl.length cc] 41) = W ∧ BoxG W y8 [.slice (some ⟨d2, 0, none⟩) c.ts.length cap2, .int .i64 t, .slice (some ⟨lb, 0, none⟩) (nS c t) lc, .slice (some ⟨fb, 0, none⟩) (nG c t) fc, .slice (some ⟨mb, 0, none⟩) (nG c t) mc, .int .i64 (wordsOf c t), .slice ca c.cl.length cc] ∧ Ext w2 W := ⟨_, rfl, BoxG.new w2 _ _ hy8, (Ext.refl _).alloc _⟩
  rw [hW3, hy8]
  have Y8 := Lib.hid hY8
  have G8 := Lib.hid (show ¬ isB gw y8 by have := AL.out; have := R.out.lt; unfold isB; omega)
  have G2 := Lib.hid (show ¬ isB gw (z + 2) by have := AL.out; unfold isB; omega)
  replace H := Lib.hid (H.out.ext xx); replace X := Lib.hid (X.out.trans xx); replace B := Lib.hid (B.out.ext xx); replace A := Lib.hid (A.out.ext xx); replace R := Lib.hid (R.out.ext xx); replace PL := Lib.hid (fun k q => Nat.lt_of_lt_of_le (PL.out k q) xx.size)
  replace D2 := Lib.hid (D2.out.ext xx)
  clear hW3 hy8 hY8 xx
  have a0 := A.out.c 0 _ rfl; have a1 := A.out.c 1 _ rfl; have a2 := A.out.c 2 _ rfl; have a3 := A.out.c 3 _ rfl; have a4 := A.out.c 4 _ rfl; have a5 := A.out.c 5 _ rfl; have a6 := A.out.c 6 _ rfl; have a7 := A.out.c 7 _ rfl
  have az := A.out.lt
  have u0 := Y8.out.c 0 _ rfl; have u1 := Y8.out.c 1 _ rfl; have u2 := Y8.out.c 2 _ rfl; have u3 := Y8.out.c 3 _ rfl; have u4 := Y8.out.c 4 _ rfl; have u5 := Y8.out.c 5 _ rfl; have u6 := Y8.out.c 6 _ rfl
  have ul := Y8.out.lt
  have YY := Y8.out
  have RR := R.out
  have G8' := G8.out
  have G2' := G2.out
  go_region_with ((go_at_call 25; refine (body_SetRef (H.out.ext ?_) HR.out).mono ?_; (repeat (first | with_reducible exact Ext.refl _ | with_reducible refine Ext.drew ?_ | with_reducible refine Ext.drewN ?_ _ | with_reducible refine Ext.alloc ?_ _)); rintro e w4 ⟨rfl, hb4, hc4⟩; have c34 : Chg (isB gw) W3 w4 := (Chg.of_ext (by repeat (first | with_reducible exact Ext.refl _ | with_reducible refine Ext.drew ?_ | with_reducible refine Ext.drewN ?_ _ | with_reducible refine Ext.alloc ?_ _))).trans hc4; have R9 := RR.chg c34 G2'; have f0 := R9.f 0; have f1 := R9.f 1; have f2 := R9.f 2; have f3 := R9.f 3; have f4 := R9.f 4; have f5 := R9.f 5; have f6 := R9.f 6; have g0 := R9.c 0 _ rfl; have g1 := R9.c 1 _ rfl; have g2 := R9.c 2 _ rfl; have g3 := R9.c 3 _ rfl; have g4 := R9.c 4 _ rfl; have g5 := R9.c 5 _ rfl; have g6 := R9.c 6 _ rfl; have Y9 := YY.chg c34 G8'; have h0 := Y9.c 0 _ rfl; have h1 := Y9.c 1 _ rfl; have h2 := Y9.c 2 _ rfl; have h3 := Y9.c 3 _ rfl; have h4 := Y9.c 4 _ rfl; have h5 := Y9.c 5 _ rfl; have h6 := Y9.c 6 _ rfl))
  all_goals
    have HB4 := Lib.hid hb4; have C34 := Lib.hid c34; have R9h := Lib.hid R9
    clear hb4 hc4 c34 R9 Y9 h0 h1 h2 h3 h4 h5 h6 g0 g1 g2 g3 g4 g5 g6 f0 f1 f2 f3 f4 f5 f6 RR YY u0 u1 u2 u3 u4 u5 u6 a0 a1 a2 a3 a4 a5 a6 a7 az ul
    go_wp2_with fail
    have RB := R9h.out.set7 (.slice (some ⟨d2, 0, none⟩) c.ts.length cap2) (.int .i64 t) (.slice (some ⟨lb, 0, none⟩) (nS c t) lc) (.slice (some ⟨fb, 0, none⟩) (nG c t) fc) (.slice (some ⟨mb, 0, none⟩) (nG c t) mc) (.int .i64 (wordsOf c t)) (.slice ca c.cl.length cc)
    have q0 := RB.c 0 _ rfl; have q1 := RB.c 1 _ rfl; have q2 := RB.c 2 _ rfl; have q3 := RB.c 3 _ rfl; have q4 := RB.c 4 _ rfl; have q5 := RB.c 5 _ rfl; have q6 := RB.c 6 _ rfl
    have ch := chg7 w4 (z + 2) (.slice (some ⟨d2, 0, none⟩) c.ts.length cap2) (.int .i64 t) (.slice (some ⟨lb, 0, none⟩) (nS c t) lc) (.slice (some ⟨fb, 0, none⟩) (nG c t) fc) (.slice (some ⟨mb, 0, none⟩) (nG c t) mc) (.int .i64 (wordsOf c t)) (.slice ca c.cl.length cc)
    refine bodyPost_ret (v := .tuple #[.agg #[.slice (some ⟨d2, 0, none⟩) c.ts.length cap2, .int .i64 t, .slice (some ⟨lb, 0, none⟩) (nS c t) lc, .slice (some ⟨fb, 0, none⟩) (nG c t) fc, .slice (some ⟨mb, 0, none⟩) (nG c t) mc, .int .i64 (wordsOf c t), .slice ca c.cl.length cc], .bool true]) (by simp [results, Tryz.results10, go_sem, q0, q1, q2, q3, q4, q5, q6]) rfl ⟨d2, cap2, rfl, HB4.out.past ch ?_, ((D2.out.chg C34.out ?_).chg ch ?_).one3, ?_⟩
    · rintro k rfl; have := AL.out; omega
    · intro k hk; unfold isB at hk; subst hk; exact .inl PA.out
    · intro k hk; exact .inr (.inr (.inr hk))
    · exact chg7on ((Chg.of_ext X.out).trans C34.out) ZL.out _ _ _ _ _ _ _

end Go.Proofs.YtnbngcagnchkdaaGreatDoor
