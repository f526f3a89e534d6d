/-
  Merged texts: Law11i, Law11j, Law11k.
-/
import Derived.Test.YtnbngcagnchkdaaGreatDoorQ12
import Derived.Test.YtnbngcagnchkdaaGreatDoorQ13
import Derived.Test.YtnbngcagnchkdaaGreatDoorQ14
set_option linter.unusedVariables false
set_option linter.unusedSimpArgs false
/-! commonagelaw11: does (4, 5). (Printed by wip/gen11x.py.) -/
namespace Go.Proofs.YtnbngcagnchkdaaGreatDoor
open Go.RowKit
variable {P : Nat → Prop} {w w' W : World} {bb mm gw gb pb gp d cap lb lc fb fc mb mc cc : Nat} {ca : Option Addr} {c : Conf} {t : Nat} {ws ws' : List Int} {wh s i to x k : Int} {hd : Hd}

set_option maxRecDepth 100000 in
set_option maxHeartbeats 32000000 in
theorem law11_does_4 (hyy : wh % 7 = 4) (hwh : 0 ≤ wh ∧ wh ≤ 255) (hx64 : 0 ≤ x ∧ x < 18446744073709551616) (hb : BodyAt w bb mm gw gb pb gp c t ws) (hdb : DBd P w d lb fb mb ca c t ws) (hA : P gw) (hP : ∀ k, P k → k < w.heap.size) :
    Calls Tryz.prog 10 #[.pointer (some ⟨bb, 0, none⟩), .agg #[.slice (some ⟨d, 0, none⟩) c.ts.length cap, .int .i64 t, .slice (some ⟨lb, 0, none⟩) (nS c t) lc, .slice (some ⟨fb, 0, none⟩) (nG c t) fc, .slice (some ⟨mb, 0, none⟩) (nG c t) mc, .int .i64 (wordsOf c t), .slice ca c.cl.length cc], .agg #[.int .u8 wh, .int .i64 s, .int .i64 i, .int .i64 to, .int .u64 x, .int .i64 hd.c, .int .i64 hd.r, .int .i64 hd.w]] w (DidB P w bb mm gw gb pb gp lb lc fb fc mb mc cc ca c t (actB c t ws wh s i to x hd)) := by
  obtain ⟨z, hz⟩ : ∃ z, w.heap.size = z := ⟨_, rfl⟩
  obtain ⟨W1, hW1, hB, hY, hR, x1⟩ := bd8 w hz d lb fb mb lc fc mc cc cap ca c t wh s i to x hd
  have B := Lib.hid hB; have A := Lib.hid hY; have R := Lib.hid hR
  have H := Lib.hid (hb.ext x1)
  have D := Lib.hid ((hdb.three hz).ext x1)
  have X := Lib.hid x1
  have PL : Hid (∀ k, P3 P z k → k < W1.heap.size) := Lib.hid fun k q => by
    have := hR.lt; have := x1.size
    rcases q with q | q | q | q
    · exact Nat.lt_of_lt_of_le (hP k q) x1.size
    all_goals omega
  have ZL := Lib.hid (show w.heap.size ≤ z + 2 by omega)
  have PA := Lib.hid hA
  have AL := Lib.hid (show bb < z ∧ mm < z ∧ gw < z ∧ gb < z ∧ pb < z ∧ gp < z ∧ 0 < z by rw [← hz]; exact hb.all_lt)
  have HX := Lib.hid hx64
  have hw0 := Int.emod_nonneg wh (show (7 : Int) ≠ 0 by decide)
  have hw1 := Int.emod_lt_of_pos wh (show (0 : Int) < 7 by decide)
  obtain ⟨y, hy⟩ : ∃ y, wh % 7 = y := ⟨_, rfl⟩
  rw [hy] at hw0 hw1
  have HY := Lib.hid hy
  obtain ⟨wsn, hwsn⟩ : ∃ wsn, actB c t ws wh s i to x hd = wsn := ⟨_, rfl⟩
  rw [hwsn]
  unfold actB at hwsn
  rw [hy] at hwsn
  clear hB hY hR x1 hb hdb hA hP hx64
  have a0 := A.out.c 0 _ rfl; have a1 := A.out.c 1 _ rfl; have a2 := A.out.c 2 _ rfl; have a3 := A.out.c 3 _ rfl; have a4 := A.out.c 4 _ rfl; have a5 := A.out.c 5 _ rfl; have a6 := A.out.c 6 _ rfl; have a7 := A.out.c 7 _ rfl
  have az := A.out.lt
  obtain rfl : y = 4 := by rw [← hy]; exact hyy
  clear hyy
  obtain ⟨u, k2, hr⟩ : ∃ u k2, bRef c t ws s i = (u, k2) := ⟨_, _, rfl⟩
  have HR := Lib.hid hr
  obtain rfl : ws = wsn := by rw [← hwsn]; simp
  clear hwsn hr
  go_enter Tryz.func10, Tryz.ntmps10
  go_wp2_with fail
  clear hW1 hz
  clear a0 a1 a2 a3 a4 a5 a6 a7 az
  refine (body_Ref H.out HR.out).mono ?_
  rintro e w2 ⟨rfl, xx⟩
  replace H := Lib.hid (H.out.ext xx); replace X := Lib.hid (X.out.trans xx); replace B := Lib.hid (B.out.ext xx); replace A := Lib.hid (A.out.ext xx); replace R := Lib.hid (R.out.ext xx); replace PL := Lib.hid (fun k q => Nat.lt_of_lt_of_le (PL.out k q) xx.size)
  replace D := Lib.hid (D.out.ext xx)
  clear xx
  have a0 := A.out.c 0 _ rfl; have a1 := A.out.c 1 _ rfl; have a2 := A.out.c 2 _ rfl; have a3 := A.out.c 3 _ rfl; have a4 := A.out.c 4 _ rfl; have a5 := A.out.c 5 _ rfl; have a6 := A.out.c 6 _ rfl; have a7 := A.out.c 7 _ rfl
  have az := A.out.lt
  have b0 := B.out.c 0 _ rfl; have b1 := B.out.c 1 _ rfl; have b2 := B.out.c 2 _ rfl; have b3 := B.out.c 3 _ rfl; have b4 := B.out.c 4 _ rfl; have b5 := B.out.c 5 _ rfl; have b6 := B.out.c 6 _ rfl
  have bz := B.out.lt
  go_wp2_with fail
  clear a0 a1 a2 a3 a4 a5 a6 a7 az
  clear b0 b1 b2 b3 b4 b5 b6 bz
  refine (ref11_Ref D.out HR.out).mono ?_
  rintro e w3 ⟨rfl, xx⟩
  replace H := Lib.hid (H.out.ext xx); replace X := Lib.hid (X.out.trans xx); replace B := Lib.hid (B.out.ext xx); replace A := Lib.hid (A.out.ext xx); replace R := Lib.hid (R.out.ext xx); replace PL := Lib.hid (fun k q => Nat.lt_of_lt_of_le (PL.out k q) xx.size)
  replace D := Lib.hid (D.out.ext xx)
  clear xx
  have R9h := R
  have b0 := B.out.c 0 _ rfl; have b1 := B.out.c 1 _ rfl; have b2 := B.out.c 2 _ rfl; have b3 := B.out.c 3 _ rfl; have b4 := B.out.c 4 _ rfl; have b5 := B.out.c 5 _ rfl; have b6 := B.out.c 6 _ rfl
  have bz := B.out.lt
  have r0 := R.out.c 0 _ rfl; have r1 := R.out.c 1 _ rfl; have r2 := R.out.c 2 _ rfl; have r3 := R.out.c 3 _ rfl; have r4 := R.out.c 4 _ rfl; have r5 := R.out.c 5 _ rfl; have r6 := R.out.c 6 _ rfl
  have f0 := R.out.f 0; have f1 := R.out.f 1; have f2 := R.out.f 2; have f3 := R.out.f 3; have f4 := R.out.f 4; have f5 := R.out.f 5; have f6 := R.out.f 6
  have rl := R.out.lt
  go_wp2_with fail
  have RB := R9h.out.set7 (.slice (some ⟨d, 0, none⟩) c.ts.length cap) (.int .i64 t) (.slice (some ⟨lb, 0, none⟩) (nS c t) lc) (.slice (some ⟨fb, 0, none⟩) (nG c t) fc) (.slice (some ⟨mb, 0, none⟩) (nG c t) mc) (.int .i64 (wordsOf c t)) (.slice ca c.cl.length cc)
  have q0 := RB.c 0 _ rfl; have q1 := RB.c 1 _ rfl; have q2 := RB.c 2 _ rfl; have q3 := RB.c 3 _ rfl; have q4 := RB.c 4 _ rfl; have q5 := RB.c 5 _ rfl; have q6 := RB.c 6 _ rfl
  have ch := chg7 w3 (z + 2) (.slice (some ⟨d, 0, none⟩) c.ts.length cap) (.int .i64 t) (.slice (some ⟨lb, 0, none⟩) (nS c t) lc) (.slice (some ⟨fb, 0, none⟩) (nG c t) fc) (.slice (some ⟨mb, 0, none⟩) (nG c t) mc) (.int .i64 (wordsOf c t)) (.slice ca c.cl.length cc)
  refine bodyPost_ret (v := .tuple #[.agg #[.slice (some ⟨d, 0, none⟩) c.ts.length cap, .int .i64 t, .slice (some ⟨lb, 0, none⟩) (nS c t) lc, .slice (some ⟨fb, 0, none⟩) (nG c t) fc, .slice (some ⟨mb, 0, none⟩) (nG c t) mc, .int .i64 (wordsOf c t), .slice ca c.cl.length cc], .bool true]) (by simp [results, Tryz.results10, go_sem, q0, q1, q2, q3, q4, q5, q6]) rfl ⟨d, cap, rfl, H.out.past ch ?_, (D.out.chg ch ?_).one3, ?_⟩
  · rintro k rfl; have := AL.out; omega
  · intro k hk; exact .inr (.inr (.inr hk))
  · exact chg7on (Chg.of_ext X.out) ZL.out _ _ _ _ _ _ _

set_option maxRecDepth 100000 in
set_option maxHeartbeats 32000000 in
theorem law11_does_5 (hyy : wh % 7 = 5) (hwh : 0 ≤ wh ∧ wh ≤ 255) (hx64 : 0 ≤ x ∧ x < 18446744073709551616) (hb : BodyAt w bb mm gw gb pb gp c t ws) (hdb : DBd P w d lb fb mb ca c t ws) (hA : P gw) (hP : ∀ k, P k → k < w.heap.size) :
    Calls Tryz.prog 10 #[.pointer (some ⟨bb, 0, none⟩), .agg #[.slice (some ⟨d, 0, none⟩) c.ts.length cap, .int .i64 t, .slice (some ⟨lb, 0, none⟩) (nS c t) lc, .slice (some ⟨fb, 0, none⟩) (nG c t) fc, .slice (some ⟨mb, 0, none⟩) (nG c t) mc, .int .i64 (wordsOf c t), .slice ca c.cl.length cc], .agg #[.int .u8 wh, .int .i64 s, .int .i64 i, .int .i64 to, .int .u64 x, .int .i64 hd.c, .int .i64 hd.r, .int .i64 hd.w]] w (DidB P w bb mm gw gb pb gp lb lc fb fc mb mc cc ca c t (actB c t ws wh s i to x hd)) := by
  obtain ⟨z, hz⟩ : ∃ z, w.heap.size = z := ⟨_, rfl⟩
  obtain ⟨W1, hW1, hB, hY, hR, x1⟩ := bd8 w hz d lb fb mb lc fc mc cc cap ca c t wh s i to x hd
  have B := Lib.hid hB; have A := Lib.hid hY; have R := Lib.hid hR
  have H := Lib.hid (hb.ext x1)
  have D := Lib.hid ((hdb.three hz).ext x1)
  have X := Lib.hid x1
  have PL : Hid (∀ k, P3 P z k → k < W1.heap.size) := Lib.hid fun k q => by
    have := hR.lt; have := x1.size
    rcases q with q | q | q | q
    · exact Nat.lt_of_lt_of_le (hP k q) x1.size
    all_goals omega
  have ZL := Lib.hid (show w.heap.size ≤ z + 2 by omega)
  have PA := Lib.hid hA
  have AL := Lib.hid (show bb < z ∧ mm < z ∧ gw < z ∧ gb < z ∧ pb < z ∧ gp < z ∧ 0 < z by rw [← hz]; exact hb.all_lt)
  have HX := Lib.hid hx64
  have hw0 := Int.emod_nonneg wh (show (7 : Int) ≠ 0 by decide)
  have hw1 := Int.emod_lt_of_pos wh (show (0 : Int) < 7 by decide)
  obtain ⟨y, hy⟩ : ∃ y, wh % 7 = y := ⟨_, rfl⟩
  rw [hy] at hw0 hw1
  have HY := Lib.hid hy
  obtain ⟨wsn, hwsn⟩ : ∃ wsn, actB c t ws wh s i to x hd = wsn := ⟨_, rfl⟩
  rw [hwsn]
  unfold actB at hwsn
  rw [hy] at hwsn
  clear hB hY hR x1 hb hdb hA hP hx64
  have a0 := A.out.c 0 _ rfl; have a1 := A.out.c 1 _ rfl; have a2 := A.out.c 2 _ rfl; have a3 := A.out.c 3 _ rfl; have a4 := A.out.c 4 _ rfl; have a5 := A.out.c 5 _ rfl; have a6 := A.out.c 6 _ rfl; have a7 := A.out.c 7 _ rfl
  have az := A.out.lt
  obtain rfl : y = 5 := by rw [← hy]; exact hyy
  clear hyy
  obtain ⟨u, k2, hr⟩ : ∃ u k2, bWord c t ws s i = (u, k2) := ⟨_, _, rfl⟩
  have HR := Lib.hid hr
  obtain rfl : ws = wsn := by rw [← hwsn]; simp
  clear hwsn hr
  go_enter Tryz.func10, Tryz.ntmps10
  go_wp2_with fail
  clear hW1 hz
  clear a0 a1 a2 a3 a4 a5 a6 a7 az
  refine (body_Word H.out HR.out).mono ?_
  rintro e w2 ⟨rfl, xx⟩
  replace H := Lib.hid (H.out.ext xx); replace X := Lib.hid (X.out.trans xx); replace B := Lib.hid (B.out.ext xx); replace A := Lib.hid (A.out.ext xx); replace R := Lib.hid (R.out.ext xx); replace PL := Lib.hid (fun k q => Nat.lt_of_lt_of_le (PL.out k q) xx.size)
  replace D := Lib.hid (D.out.ext xx)
  clear xx
  have a0 := A.out.c 0 _ rfl; have a1 := A.out.c 1 _ rfl; have a2 := A.out.c 2 _ rfl; have a3 := A.out.c 3 _ rfl; have a4 := A.out.c 4 _ rfl; have a5 := A.out.c 5 _ rfl; have a6 := A.out.c 6 _ rfl; have a7 := A.out.c 7 _ rfl
  have az := A.out.lt
  have b0 := B.out.c 0 _ rfl; have b1 := B.out.c 1 _ rfl; have b2 := B.out.c 2 _ rfl; have b3 := B.out.c 3 _ rfl; have b4 := B.out.c 4 _ rfl; have b5 := B.out.c 5 _ rfl; have b6 := B.out.c 6 _ rfl
  have bz := B.out.lt
  go_wp2_with fail
  clear a0 a1 a2 a3 a4 a5 a6 a7 az
  clear b0 b1 b2 b3 b4 b5 b6 bz
  refine (ref11_Word D.out HR.out).mono ?_
  rintro e w3 ⟨rfl, xx⟩
  replace H := Lib.hid (H.out.ext xx); replace X := Lib.hid (X.out.trans xx); replace B := Lib.hid (B.out.ext xx); replace A := Lib.hid (A.out.ext xx); replace R := Lib.hid (R.out.ext xx); replace PL := Lib.hid (fun k q => Nat.lt_of_lt_of_le (PL.out k q) xx.size)
  replace D := Lib.hid (D.out.ext xx)
  clear xx
  have R9h := R
  have b0 := B.out.c 0 _ rfl; have b1 := B.out.c 1 _ rfl; have b2 := B.out.c 2 _ rfl; have b3 := B.out.c 3 _ rfl; have b4 := B.out.c 4 _ rfl; have b5 := B.out.c 5 _ rfl; have b6 := B.out.c 6 _ rfl
  have bz := B.out.lt
  have r0 := R.out.c 0 _ rfl; have r1 := R.out.c 1 _ rfl; have r2 := R.out.c 2 _ rfl; have r3 := R.out.c 3 _ rfl; have r4 := R.out.c 4 _ rfl; have r5 := R.out.c 5 _ rfl; have r6 := R.out.c 6 _ rfl
  have f0 := R.out.f 0; have f1 := R.out.f 1; have f2 := R.out.f 2; have f3 := R.out.f 3; have f4 := R.out.f 4; have f5 := R.out.f 5; have f6 := R.out.f 6
  have rl := R.out.lt
  go_wp2_with fail
  have RB := R9h.out.set7 (.slice (some ⟨d, 0, none⟩) c.ts.length cap) (.int .i64 t) (.slice (some ⟨lb, 0, none⟩) (nS c t) lc) (.slice (some ⟨fb, 0, none⟩) (nG c t) fc) (.slice (some ⟨mb, 0, none⟩) (nG c t) mc) (.int .i64 (wordsOf c t)) (.slice ca c.cl.length cc)
  have q0 := RB.c 0 _ rfl; have q1 := RB.c 1 _ rfl; have q2 := RB.c 2 _ rfl; have q3 := RB.c 3 _ rfl; have q4 := RB.c 4 _ rfl; have q5 := RB.c 5 _ rfl; have q6 := RB.c 6 _ rfl
  have ch := chg7 w3 (z + 2) (.slice (some ⟨d, 0, none⟩) c.ts.length cap) (.int .i64 t) (.slice (some ⟨lb, 0, none⟩) (nS c t) lc) (.slice (some ⟨fb, 0, none⟩) (nG c t) fc) (.slice (some ⟨mb, 0, none⟩) (nG c t) mc) (.int .i64 (wordsOf c t)) (.slice ca c.cl.length cc)
  refine bodyPost_ret (v := .tuple #[.agg #[.slice (some ⟨d, 0, none⟩) c.ts.length cap, .int .i64 t, .slice (some ⟨lb, 0, none⟩) (nS c t) lc, .slice (some ⟨fb, 0, none⟩) (nG c t) fc, .slice (some ⟨mb, 0, none⟩) (nG c t) mc, .int .i64 (wordsOf c t), .slice ca c.cl.length cc], .bool true]) (by simp [results, Tryz.results10, go_sem, q0, q1, q2, q3, q4, q5, q6]) rfl ⟨d, cap, rfl, H.out.past ch ?_, (D.out.chg ch ?_).one3, ?_⟩
  · rintro k rfl; have := AL.out; omega
  · intro k hk; exact .inr (.inr (.inr hk))
  · exact chg7on (Chg.of_ext X.out) ZL.out _ _ _ _ _ _ _

end Go.Proofs.YtnbngcagnchkdaaGreatDoor

/-! commonagelaw11: does. (Printed by wip/gen11x.py.) -/
namespace Go.Proofs.YtnbngcagnchkdaaGreatDoor
open Go.RowKit
variable {P : Nat → Prop} {w w' W : World} {bb mm gw gb pb gp d cap lb lc fb fc mb mc cc : Nat} {ca : Option Addr} {c : Conf} {t : Nat} {ws ws' : List Int} {wh s i to x k : Int} {hd : Hd}

theorem law11_does (hwh : 0 ≤ wh ∧ wh ≤ 255) (hx64 : 0 ≤ x ∧ x < 18446744073709551616) (hb : BodyAt w bb mm gw gb pb gp c t ws) (hdb : DBd P w d lb fb mb ca c t ws) (hA : P gw) (hP : ∀ k, P k → k < w.heap.size) :
    Calls Tryz.prog 10 #[.pointer (some ⟨bb, 0, none⟩), .agg #[.slice (some ⟨d, 0, none⟩) c.ts.length cap, .int .i64 t, .slice (some ⟨lb, 0, none⟩) (nS c t) lc, .slice (some ⟨fb, 0, none⟩) (nG c t) fc, .slice (some ⟨mb, 0, none⟩) (nG c t) mc, .int .i64 (wordsOf c t), .slice ca c.cl.length cc], .agg #[.int .u8 wh, .int .i64 s, .int .i64 i, .int .i64 to, .int .u64 x, .int .i64 hd.c, .int .i64 hd.r, .int .i64 hd.w]] w (DidB P w bb mm gw gb pb gp lb lc fb fc mb mc cc ca c t (actB c t ws wh s i to x hd)) := by
  rcases (show wh % 7 = 2 ∨ wh % 7 = 3 ∨ wh % 7 = 4 ∨ wh % 7 = 5 ∨ wh % 7 = 6 ∨ (wh % 7 = 0 ∨ wh % 7 = 1) by omega) with h | h | h | h | h | h
  · exact law11_does_2 h hwh hx64 hb hdb hA hP
  · exact law11_does_3 h hwh hx64 hb hdb hA hP
  · exact law11_does_4 h hwh hx64 hb hdb hA hP
  · exact law11_does_5 h hwh hx64 hb hdb hA hP
  · exact law11_does_6 h hwh hx64 hb hdb hA hP
  · exact law11_does_01 h hwh hx64 hb hdb hA hP

end Go.Proofs.YtnbngcagnchkdaaGreatDoor

/-! commonagelaw11: what a loop of acts keeps. (Printed by wip/gen11k.py.) -/
namespace Go.Proofs.YtnbngcagnchkdaaGreatDoor
open Go.RowKit
structure OAct where
  what : Int
  slot : Int
  i : Int
  to : Int
  w : Int
  hc : Int
  hr : Int
  hw : Int
instance : Inhabited OAct := ⟨⟨0, 0, 0, 0, 0, 0, 0, 0⟩⟩
def oActnth (l : List OAct) (i : Nat) : OAct := l.getD i default
def OAct.Ok (t : OAct) : Prop := (0 ≤ t.what ∧ t.what ≤ 255) ∧ (-9223372036854775808 ≤ t.slot ∧ t.slot ≤ 9223372036854775807) ∧ (-9223372036854775808 ≤ t.i ∧ t.i ≤ 9223372036854775807) ∧ (-9223372036854775808 ≤ t.to ∧ t.to ≤ 9223372036854775807) ∧ (0 ≤ t.w ∧ t.w < 18446744073709551616) ∧ (-9223372036854775808 ≤ t.hc ∧ t.hc ≤ 9223372036854775807) ∧ (-9223372036854775808 ≤ t.hr ∧ t.hr ≤ 9223372036854775807) ∧ (-9223372036854775808 ≤ t.hw ∧ t.hw ≤ 9223372036854775807)
def OActAt (w : World) (a : Option Addr) (l : List OAct) : Prop := ∀ i, i < l.length → (oActnth l i).Ok ∧ ∃ b o, a = some ⟨b, o, none⟩ ∧ w.cell? ⟨b, o + i * 8, none⟩ = some (.int .u8 (oActnth l i).what) ∧ w.cell? ⟨b, o + i * 8 + 1, none⟩ = some (.int .i64 (oActnth l i).slot) ∧ w.cell? ⟨b, o + i * 8 + 2, none⟩ = some (.int .i64 (oActnth l i).i) ∧ w.cell? ⟨b, o + i * 8 + 3, none⟩ = some (.int .i64 (oActnth l i).to) ∧ w.cell? ⟨b, o + i * 8 + 4, none⟩ = some (.int .u64 (oActnth l i).w) ∧ w.cell? ⟨b, o + i * 8 + 5, none⟩ = some (.int .i64 (oActnth l i).hc) ∧ w.cell? ⟨b, o + i * 8 + 6, none⟩ = some (.int .i64 (oActnth l i).hr) ∧ w.cell? ⟨b, o + i * 8 + 7, none⟩ = some (.int .i64 (oActnth l i).hw)
theorem OActAt.ext {w w' : World} {a : Option Addr} {l : List OAct} (h : OActAt w a l) (hx : Ext w w') : OActAt w' a l := fun i hi => by
  obtain ⟨k, b, o, e, c0, c1, c2, c3, c4, c5, c6, c7⟩ := h i hi
  exact ⟨k, b, o, e, hx.cell c0, hx.cell c1, hx.cell c2, hx.cell c3, hx.cell c4, hx.cell c5, hx.cell c6, hx.cell c7⟩
variable {P : Nat → Prop} {w0 w w' wr W : World} {bb mm gw gb pb gp zq d cap lb lc fb fc mb mc cc : Nat} {ca : Option Addr} {c : Conf} {t : Nat} {ws ws' : List Int}

/-- A body, and the document's, which lies in the box zq. -/
structure PlayB (w0 : World) (bb mm gw gb pb gp zq d cap lb lc fb fc mb mc cc : Nat) (ca : Option Addr) (c : Conf) (t : Nat) (ws : List Int) (wr : World) : Prop where
  body : BodyAt wr bb mm gw gb pb gp c t ws
  doc : DBd (fun k => k = gw ∨ k = zq) wr d lb fb mb ca c t ws
  box : BoxG wr zq [.slice (some ⟨d, 0, none⟩) c.ts.length cap, .int .i64 t, .slice (some ⟨lb, 0, none⟩) (nS c t) lc, .slice (some ⟨fb, 0, none⟩) (nG c t) fc, .slice (some ⟨mb, 0, none⟩) (nG c t) mc, .int .i64 (wordsOf c t), .slice ca c.cl.length cc]
  ext : Ext w0 wr
  lg : w0.heap.size ≤ gw
  lz : w0.heap.size ≤ zq
  nb : bb < zq ∧ mm < zq ∧ gw < zq ∧ gb < zq ∧ pb < zq ∧ gp < zq ∧ 0 < zq
theorem PlayB.go (h : PlayB w0 bb mm gw gb pb gp zq d cap lb lc fb fc mb mc cc ca c t ws wr) (hx : Ext wr w') : PlayB w0 bb mm gw gb pb gp zq d cap lb lc fb fc mb mc cc ca c t ws w' :=
  ⟨h.body.ext hx, h.doc.ext hx, h.box.ext hx, h.ext.trans hx, h.lg, h.lz, h.nb⟩
theorem PlayB.ng (h : PlayB w0 bb mm gw gb pb gp zq d cap lb lc fb fc mb mc cc ca c t ws wr) : ¬ isB gw zq := by have := h.nb; unfold isB; omega
/-- Ahead of the loop. -/
theorem PlayB.start (hb : BodyAt w bb mm gw gb pb gp c t ws) (hd : DBd (isB gw) w d lb fb mb ca c t ws) (hx : Ext w0 w) (hg : w0.heap.size ≤ gw) (hz : w.heap.size = zq) :
    PlayB w0 bb mm gw gb pb gp zq d cap lb lc fb fc mb mc cc ca c t ws (w.alloc (.cells #[.slice (some ⟨d, 0, none⟩) c.ts.length cap, .int .i64 t, .slice (some ⟨lb, 0, none⟩) (nS c t) lc, .slice (some ⟨fb, 0, none⟩) (nG c t) fc, .slice (some ⟨mb, 0, none⟩) (nG c t) mc, .int .i64 (wordsOf c t), .slice ca c.cl.length cc] 41)) := by
  have x := (Ext.refl w).alloc (.cells #[.slice (some ⟨d, 0, none⟩) c.ts.length cap, .int .i64 t, .slice (some ⟨lb, 0, none⟩) (nS c t) lc, .slice (some ⟨fb, 0, none⟩) (nG c t) fc, .slice (some ⟨mb, 0, none⟩) (nG c t) mc, .int .i64 (wordsOf c t), .slice ca c.cl.length cc] 41)
  refine ⟨hb.ext x, (hd.swap fun k hk q => ?_).ext x, BoxG.new w _ _ hz, hx.trans x, hg, by rw [← hz]; exact hx.size, by rw [← hz]; exact hb.all_lt⟩
  rcases q with q | q
  · exact q
  · omega
/-- An act, whatever has been laid since. -/
theorem law11_does_in {y : OAct} (h : PlayB w0 bb mm gw gb pb gp zq d cap lb lc fb fc mb mc cc ca c t ws wr) (hx : Ext wr W) (hy : y.Ok) :
    Calls Tryz.prog 10 #[.pointer (some ⟨bb, 0, none⟩), .agg #[.slice (some ⟨d, 0, none⟩) c.ts.length cap, .int .i64 t, .slice (some ⟨lb, 0, none⟩) (nS c t) lc, .slice (some ⟨fb, 0, none⟩) (nG c t) fc, .slice (some ⟨mb, 0, none⟩) (nG c t) mc, .int .i64 (wordsOf c t), .slice ca c.cl.length cc], .agg #[.int .u8 y.what, .int .i64 y.slot, .int .i64 y.i, .int .i64 y.to, .int .u64 y.w, .int .i64 y.hc, .int .i64 y.hr, .int .i64 y.hw]] W
      (DidB (fun k => (k = gw ∨ k = zq) ∨ (wr.heap.size ≤ k ∧ k < W.heap.size)) W bb mm gw gb pb gp lb lc fb fc mb mc cc ca c t (actB c t ws y.what y.slot y.i y.to y.w ⟨y.hc, y.hr, y.hw⟩)) := by
  refine law11_does (hd := ⟨y.hc, y.hr, y.hw⟩) hy.1 hy.2.2.2.2.1 (h.body.ext hx) ((h.doc.swap fun k hk q => ?_).ext hx) (.inl (.inl rfl)) fun k q => ?_
  · rcases q with q | q
    · exact q
    · omega
  · have l1 := h.box.lt; have l2 := h.nb; have l3 := hx.size
    rcases q with (q | q) | q <;> omega
/-- Behind an act: body and document have turned; the latter is stored in its box. -/
theorem PlayB.step {d' cap' : Nat} (h : PlayB w0 bb mm gw gb pb gp zq d cap lb lc fb fc mb mc cc ca c t ws wr) (hb : BodyAt w' bb mm gw gb pb gp c t ws') (hd : DBd (fun k => k = gw ∨ k = zq) w' d' lb fb mb ca c t ws') (hc : Chg (isB gw) wr w') (hx : Chg (fun k => k = zq) w' W) (hz : BoxG W zq [.slice (some ⟨d', 0, none⟩) c.ts.length cap', .int .i64 t, .slice (some ⟨lb, 0, none⟩) (nS c t) lc, .slice (some ⟨fb, 0, none⟩) (nG c t) fc, .slice (some ⟨mb, 0, none⟩) (nG c t) mc, .int .i64 (wordsOf c t), .slice ca c.cl.length cc]) :
    PlayB w0 bb mm gw gb pb gp zq d' cap' lb lc fb fc mb mc cc ca c t ws' W := by
  refine ⟨hb.past hx ?_, hd.chg hx fun k e => .inr e, hz, hx.over (hc.over h.ext fun k e => ?_) fun k e => ?_, h.lg, h.lz, h.nb⟩
  · rintro k rfl; have := h.nb; omega
  · unfold isB at e; subst e; exact h.lg
  · subst e; exact h.lz

end Go.Proofs.YtnbngcagnchkdaaGreatDoor
