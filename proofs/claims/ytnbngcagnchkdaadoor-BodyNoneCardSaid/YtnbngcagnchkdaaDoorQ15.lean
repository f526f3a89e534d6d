/-
  Merged texts: Law11a.
-/
import Derived.Test.YtnbngcagnchkdaaDoorQ11
import Derived.Test.YtnbngcagnchkdaaDoorQ06
set_option linter.unusedVariables false
set_option linter.unusedSimpArgs false
/-! commonagelaw11: awake. -/
namespace Go.Proofs.YtnbngcagnchkdaaDoor
open Go.RowKit

def aw0 : List Int := List.replicate (totalN exC) 0
def aw1 : List Int := (bMake exC 0 aw0 10 ⟨1, 1, 2⟩).1
def aw2 : List Int := (bSetRef exC 0 aw1 10 0 3).1
def aw3 : List Int := (bSetWord exC 0 aw2 10 1 7).1
theorem ea_1 : bMake exC 0 aw0 10 ⟨1, 1, 2⟩ = (aw1, 0) := by decide +kernel
theorem ea_2 : bMake exC 0 aw1 10 ⟨1, 0, 0⟩ = (aw1, 8) := by decide +kernel
theorem ea_3 : bMake exC 0 aw1 11 ⟨0, 0, 0⟩ = (aw1, 2) := by decide +kernel
theorem ea_4 : bMake exC 0 aw1 0 ⟨0, 1, 1⟩ = (aw1, 2) := by decide +kernel
theorem ea_5 : bSetRef exC 0 aw1 10 0 3 = (aw2, 0) := by decide +kernel
theorem ea_6 : bSetRef exC 0 aw2 10 0 15 = (aw2, 2) := by decide +kernel
theorem ea_7 : bSetRef exC 0 aw2 10 1 3 = (aw2, 110) := by decide +kernel
theorem ea_8 : bSetWord exC 0 aw2 10 1 7 = (aw3, 0) := by decide +kernel
theorem ea_9 : bSetWord exC 0 aw3 10 3 7 = (aw3, 110) := by decide +kernel
theorem ea_10 : bRef exC 0 aw3 10 0 = (3, 0) := by decide +kernel
theorem ea_11 : bWord exC 0 aw3 10 1 = (7, 0) := by decide +kernel
theorem ea_12 : bRefs exC 0 aw3 10 = ([3], 0) := by decide +kernel
theorem ea_13 : bWords exC 0 aw3 10 = ([7, 0], 0) := by decide +kernel
theorem ea_14 : bHead exC 0 aw3 0 = (hdnil, 5) := by
  have e : (bHead exC 0 aw3 0).2 = 5 := by decide +kernel
  rcases bHead_err (c := exC) (t := 0) (ws := aw3) (s := 0) with h | h | h
  · rw [e] at h; cases h
  · exact h
  · rw [h] at e; cases e

set_option maxRecDepth 100000 in
set_option maxHeartbeats 16000000 in
theorem law11_awake (w : World) (hW : Wid w) : Calls Tryd.prog 5 #[] w fun e w' => e = .returned (.bool true) ∧ Ext w w' := by
  have K0 := Lib.hid (show kcheck exC = 0 by decide)
  have HW := Lib.hid hW
  clear hW
  obtain ⟨z, hz⟩ : ∃ z, w.heap.size = z := ⟨_, rfl⟩
  have HZ := Lib.hid hz
  go_enter Tryd.func5, Tryd.ntmps5
  go_upto_region 2 with fail
  obtain ⟨W3, hW3⟩ : ∃ W, ((w.alloc (.cells #[.int .i64 2, .int .i64 4] 3)).alloc (.cells #[.int .i64 20, .int .i64 8, .int .i64 4, .int .i64 1, .int .i64 4, .int .i64 1, .int .i64 1, .int .i64 0] 76)).alloc (.cells #[.slice (some ⟨z, 0, none⟩) 2 2, .int .i64 8, .slice (some ⟨z + 1, 0, none⟩) 2 2, .int .i64 1, .int .i64 2, .int .i64 3] 25) = W := ⟨_, rfl⟩
  have B := Lib.hid (show BoxG W3 (z + 1 + 1) [.slice (some ⟨z, 0, none⟩) 2 2, .int .i64 8, .slice (some ⟨z + 1, 0, none⟩) 2 2, .int .i64 1, .int .i64 2, .int .i64 3] by rw [← hW3]; exact BoxG.new _ _ _ (by simp [hz]))
  have X := Lib.hid (show Ext w W3 by rw [← hW3]; exact (((Ext.refl w).alloc _).alloc _).alloc _)
  have HC : Hid (CfgAt W3 (some ⟨z, 0, none⟩) (some ⟨z + 1, 0, none⟩) 2 2 exC) := Lib.hid (by
    rw [← hW3]
    exact ⟨(At.newb .i64 w [2, 4] 3 z hz).ext (((Ext.refl _).alloc _).alloc _), ((TenAt.newb _ exC.ts _ _ _ (by simp [hz]) (by
      intro i hi
      have h2 : i < 2 := hi
      match i, h2 with
      | 0, _ => exact ⟨rfl, rfl, rfl, rfl⟩
      | 1, _ => exact ⟨rfl, rfl, rfl, rfl⟩))).ext ((Ext.refl _).alloc _), by decide, by decide, by decide, by decide, by decide, by decide⟩)
  rw [hW3]
  clear hW3 hz
  have b0 := B.out.c 0 _ rfl; have b1 := B.out.c 1 _ rfl; have b2 := B.out.c 2 _ rfl; have b3 := B.out.c 3 _ rfl; have b4 := B.out.c 4 _ rfl; have b5 := B.out.c 5 _ rfl
  have bz := B.out.lt
  go_wp2_with fail
  clear b0 b1 b2 b3 b4 b5 bz
  refine (mem_New exC K0.out HC.out).mono ?_
  rintro e w4 ⟨mm, gw, gb, rfl, hm, lm, lg, lgb, x⟩
  have HM := Lib.hid hm
  have LG := Lib.hid (Nat.le_trans X.out.size lg)
  replace HC := Lib.hid (HC.out.ext x); replace B := Lib.hid (B.out.ext x); replace X := Lib.hid (X.out.trans x)
  clear hm lm lg lgb x
  have b0 := B.out.c 0 _ rfl; have b1 := B.out.c 1 _ rfl; have b2 := B.out.c 2 _ rfl; have b3 := B.out.c 3 _ rfl; have b4 := B.out.c 4 _ rfl; have b5 := B.out.c 5 _ rfl
  have bz := B.out.lt
  go_wp2_with fail
  clear b0 b1 b2 b3 b4 b5 bz
  refine (slot_New exC 0 K0.out (by decide) HC.out).mono ?_
  rintro e w5 ⟨pb, gp, rfl, hp, x⟩
  have HP := Lib.hid hp
  replace HM := Lib.hid (HM.out.ext x); replace X := Lib.hid (X.out.trans x)
  clear hp x HC B
  go_wp2_with fail
  refine (body_New (t := 0) HM.out HP.out (HW.out.ext X.out) (WOk.rep _) ⟨?_, ?_, ?_⟩).mono ?_
  · obtain ⟨cp, h0⟩ := HP.out.parts
    exact HM.out.far_i h0 (by intro u e; cases e)
  · exact HM.out.far_i (HP.out.row 0 HP.out.ok.cl.pos 0 _ rfl) (by intro u e; cases e)
  · exact HM.out.far_i (HW.out.ext X.out).1 (by intro u e; cases e)
  rintro e w6 ⟨bb, rfl, hbb, x, lbb⟩
  have H : Hid (BodyAt w6 bb mm gw gb pb gp exC 0 aw0) := Lib.hid hbb
  replace X := Lib.hid (X.out.trans x)
  have C := Lib.hid (Chg.of_ext (P := isB gw) X.out)
  clear hbb x lbb HM HP X
  go_wp2_with fail
  refine (body_Make ⟨1, 1, 2⟩ H.out ea_1).mono ?_
  rintro e wz ⟨rfl, hb, hc⟩
  replace H := Lib.hid hb; replace C := Lib.hid (C.out.trans hc)
  clear hb hc
  go_wp2_with fail
  refine (body_Make ⟨1, 0, 0⟩ H.out ea_2).mono ?_
  rintro e wz ⟨rfl, hb, hc⟩
  replace H := Lib.hid hb; replace C := Lib.hid (C.out.trans hc)
  clear hb hc
  go_wp2_with fail
  refine (body_Make ⟨0, 0, 0⟩ H.out ea_3).mono ?_
  rintro e wz ⟨rfl, hb, hc⟩
  replace H := Lib.hid hb; replace C := Lib.hid (C.out.trans hc)
  clear hb hc
  go_wp2_with fail
  refine (body_Make ⟨0, 1, 1⟩ H.out ea_4).mono ?_
  rintro e wz ⟨rfl, hb, hc⟩
  replace H := Lib.hid hb; replace C := Lib.hid (C.out.trans hc)
  clear hb hc
  go_wp2_with fail
  refine (body_SetRef H.out ea_5).mono ?_
  rintro e wz ⟨rfl, hb, hc⟩
  replace H := Lib.hid hb; replace C := Lib.hid (C.out.trans hc)
  clear hb hc
  go_wp2_with fail
  refine (body_SetRef H.out ea_6).mono ?_
  rintro e wz ⟨rfl, hb, hc⟩
  replace H := Lib.hid hb; replace C := Lib.hid (C.out.trans hc)
  clear hb hc
  go_wp2_with fail
  refine (body_SetRef H.out ea_7).mono ?_
  rintro e wz ⟨rfl, hb, hc⟩
  replace H := Lib.hid hb; replace C := Lib.hid (C.out.trans hc)
  clear hb hc
  go_wp2_with fail
  refine (body_SetWord H.out (by decide) ea_8).mono ?_
  rintro e wz ⟨rfl, hb, hc⟩
  replace H := Lib.hid hb; replace C := Lib.hid (C.out.trans hc)
  clear hb hc
  go_wp2_with fail
  refine (body_SetWord H.out (by decide) ea_9).mono ?_
  rintro e wz ⟨rfl, hb, hc⟩
  replace H := Lib.hid hb; replace C := Lib.hid (C.out.trans hc)
  clear hb hc
  go_wp2_with fail
  refine (body_Ref H.out ea_10).mono ?_
  rintro e wz ⟨rfl, x⟩
  replace H := Lib.hid (H.out.ext x); replace C := Lib.hid (C.out.trans (Chg.of_ext x))
  clear x
  go_wp2_with fail
  refine (body_Word H.out ea_11).mono ?_
  rintro e wz ⟨rfl, x⟩
  replace H := Lib.hid (H.out.ext x); replace C := Lib.hid (C.out.trans (Chg.of_ext x))
  clear x
  go_wp2_with fail
  refine (body_Refs H.out ea_12).mono ?_
  rintro e wz ⟨a1, c1, rfl, h1, x⟩
  replace H := Lib.hid (H.out.ext x); replace C := Lib.hid (C.out.trans (Chg.of_ext x))
  have A1 := Lib.hid h1
  clear h1 x
  go_wp2_with fail
  refine (body_Words H.out ea_13).mono ?_
  rintro e wz ⟨a2, c2, rfl, h1, x⟩
  replace H := Lib.hid (H.out.ext x); replace C := Lib.hid (C.out.trans (Chg.of_ext x))
  have A2 := Lib.hid h1
  replace A1 := Lib.hid (A1.out.ext x)
  clear h1 x
  go_wp2_with fail
  refine (body_Head H.out ea_14).mono ?_
  rintro e wz ⟨rfl, x⟩
  replace H := Lib.hid (H.out.ext x); replace C := Lib.hid (C.out.trans (Chg.of_ext x))
  replace A1 := Lib.hid (A1.out.ext x); replace A2 := Lib.hid (A2.out.ext x)
  clear x
  go_wp2_with fail
  have xa := ((Ext.refl wz).alloc (.cells #[.int .i64 hdnil.c, .int .i64 hdnil.r, .int .i64 hdnil.w] 28)).alloc (.cells #[.int .i64 3] 3)
  have A3 := Lib.hid (At.newb .i64 (wz.alloc (.cells #[.int .i64 hdnil.c, .int .i64 hdnil.r, .int .i64 hdnil.w] 28)) [3] 3 (wz.heap.size + 1) (by simp))
  refine (ref11_SameInts (xs := [3]) (ca := c1) (cb := 1) (A1.out.ext xa) A3.out (by decide)).mono ?_
  rintro e w9 ⟨rfl, x9⟩
  replace A2 := Lib.hid (A2.out.ext (xa.trans x9)); replace C := Lib.hid (C.out.trans (Chg.of_ext (xa.trans x9)))
  clear x9 A3 xa
  go_wp2_with fail
  have xb := (Ext.refl w9).alloc (.cells #[.int .u64 7, .int .u64 0] 26)
  have A4 := Lib.hid (At.newb .u64 w9 [7, 0] 26 w9.heap.size rfl)
  refine (ref03_Same [7, 0] [7, 0] true (by simp) (A2.out.ext xb) A4.out (by decide) (by decide)).mono ?_
  rintro e w10 ⟨rfl, x10⟩
  replace C := Lib.hid (C.out.trans (Chg.of_ext (xb.trans x10)))
  clear x10 A4 xb
  go_wp2_with fail
  go_ret
  exact ⟨rfl, C.out.over (Ext.refl w) fun k e => by unfold isB at e; subst e; exact LG.out⟩


end Go.Proofs.YtnbngcagnchkdaaDoor
