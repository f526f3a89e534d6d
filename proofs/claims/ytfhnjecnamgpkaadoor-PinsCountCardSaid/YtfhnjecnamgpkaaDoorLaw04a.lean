/-
  commonagelaw04.awake.
-/
import Derived.Test.YtfhnjecnamgpkaaDoorLaw04
namespace Go.Proofs.YtfhnjecnamgpkaaDoor
open Go.RowKit

def aw0 : List Bool := List.replicate 70 false
def aw1 : List Bool := aw0.set 3 true
def aw2 : List Bool := aw1.set 69 true
def aw3 : List Bool := bless aw2 aw1
theorem aw_next1 : IsNext aw2 4 true 69 true :=
  .inl ⟨rfl, 69, rfl, by decide, by decide, by decide, fun j h1 h2 => by
    have : ∀ j : Fin 69, 4 ≤ j.val → bnth aw2 j.val = false := by decide +kernel
    exact this ⟨j, h2⟩ (show 4 ≤ j by omega)⟩
theorem aw_next2 : IsNext aw2 70 true 0 false :=
  .inr ⟨rfl, rfl, fun j h1 h2 => absurd h2 (by have : aw2.length = 70 := by decide
                                               omega)⟩
theorem aw_next3 : IsNext aw2 3 false 4 true :=
  .inl ⟨rfl, 4, rfl, by decide, by decide, by decide, fun j h1 h2 => by
    have : ∀ j : Fin 4, 3 ≤ j.val → bnth aw2 j.val = true := by decide +kernel
    exact this ⟨j, h2⟩ (show 3 ≤ j by omega)⟩

/-- A row is as it was behind what another row's turning may have turned. -/
theorem RowAt.beside {w w' : World} {g b' g' : Nat} {bs cs : List Bool} (h : RowAt w b' g' cs) (hx : Chg (tch g bs) w w') (h1 : 0 < bs.length → g ≠ b') (h2 : 0 < bs.length → 0 < cs.length → g ≠ g') : RowAt w' b' g' cs :=
  h.chg hx (fun ⟨hp, e⟩ => h1 hp e.symm) (fun hc ⟨hp, e⟩ => h2 hp hc e.symm)

set_option maxRecDepth 100000 in
set_option maxHeartbeats 8000000 in
theorem law04_awake (w : World) (hT : Tab w) : Calls Tryd.prog 19 #[] w fun e w' => e = .returned (.bool true) ∧ Ext w w' := by
  have HT := Lib.hid hT; clear hT
  have L2 : aw2.length = 70 := by decide
  have W2 := Lib.hid (show wds aw2 = [8, 32] by decide +kernel)
  have C3 := Lib.hid (show bcnt aw3 aw3.length = 1 by decide +kernel)
  have N1 := Lib.hid aw_next1; have N2 := Lib.hid aw_next2; have N3 := Lib.hid aw_next3
  go_enter Tryd.func19, Tryd.ntmps19
  go_wp2_with fail
  refine (bits_New 70 (by decide)).mono ?_
  rintro e w1 ⟨b, g, rfl, hr, b1, g1, x1⟩
  have hb := hr.lt; have hg := hr.glt (by decide)
  have HR := Lib.hid hr; have X := Lib.hid x1
  clear hr x1
  go_wp2_with fail
  refine (bits_New 70 (by decide)).mono ?_
  rintro e w2 ⟨b', g', rfl, hr, b2, g2, x2⟩
  have hb' := hr.lt; have hg' := hr.glt (by decide)
  have HO := Lib.hid hr
  replace HR := Lib.hid (HR.out.ext x2); replace X := Lib.hid (X.out.trans x2)
  clear hr x2
  go_wp2_with fail
  refine (bits_New 69 (by decide)).mono ?_
  rintro e w3 ⟨b'', g'', rfl, hr, b3, g3, x3⟩
  have HP := Lib.hid hr
  replace HR := Lib.hid (HR.out.ext x3); replace HO := Lib.hid (HO.out.ext x3); replace X := Lib.hid (X.out.trans x3)
  clear hr x3
  replace g1 := g1 (by decide); replace g2 := g2 (by decide); replace g3 := g3 (by decide)
  go_wp2_with fail
  refine (row_Set aw0 aw1 0 HR.out (by decide +kernel)).mono ?_
  rintro e w4 ⟨rfl, hr, hc⟩
  have HR := Lib.hid hr
  replace X := Lib.hid (hc.over X.out fun k ⟨_, e⟩ => by omega)
  replace HO := Lib.hid (HO.out.beside hc (fun _ => by omega) (fun _ _ => by omega))
  replace HP := Lib.hid (HP.out.beside hc (fun _ => by omega) (fun _ _ => by omega))
  clear hr hc
  go_wp2_with fail
  refine (row_Set aw1 aw2 0 HR.out (by decide +kernel)).mono ?_
  rintro e w5 ⟨rfl, hr, hc⟩
  have HR := Lib.hid hr
  replace X := Lib.hid (hc.over X.out fun k ⟨_, e⟩ => by omega)
  replace HO := Lib.hid (HO.out.beside hc (fun _ => by omega) (fun _ _ => by omega))
  replace HP := Lib.hid (HP.out.beside hc (fun _ => by omega) (fun _ _ => by omega))
  clear hr hc
  go_wp2_with fail
  refine (row_Set aw2 aw2 2 HR.out (by decide +kernel)).mono ?_
  rintro e w6 ⟨rfl, hr, hc⟩
  have HR := Lib.hid hr
  replace X := Lib.hid (hc.over X.out fun k ⟨_, e⟩ => by omega)
  replace HO := Lib.hid (HO.out.beside hc (fun _ => by omega) (fun _ _ => by omega))
  replace HP := Lib.hid (HP.out.beside hc (fun _ => by omega) (fun _ _ => by omega))
  clear hr hc
  go_wp2_with fail
  refine (row_Next aw2 69 true HR.out (HT.out.ext X.out) N1.out).mono ?_
  rintro e w7 ⟨rfl, x⟩
  replace HR := Lib.hid (HR.out.ext x); replace HO := Lib.hid (HO.out.ext x); replace HP := Lib.hid (HP.out.ext x); replace X := Lib.hid (X.out.trans x)
  clear x
  go_wp2_with fail
  refine (row_Next aw2 0 false HR.out (HT.out.ext X.out) N2.out).mono ?_
  rintro e w8 ⟨rfl, x⟩
  replace HR := Lib.hid (HR.out.ext x); replace HO := Lib.hid (HO.out.ext x); replace HP := Lib.hid (HP.out.ext x); replace X := Lib.hid (X.out.trans x)
  clear x
  go_wp2_with fail
  refine (row_Next aw2 4 true HR.out (HT.out.ext X.out) N3.out).mono ?_
  rintro e w9 ⟨rfl, x⟩
  replace HR := Lib.hid (HR.out.ext x); replace HO := Lib.hid (HO.out.ext x); replace HP := Lib.hid (HP.out.ext x); replace X := Lib.hid (X.out.trans x)
  clear x
  go_wp2_with fail
  refine (row_Words aw2 HR.out).mono ?_
  rw [W2.out]
  rintro e w10 ⟨al, cl, rfl, nl, x⟩
  have HL := Lib.hid nl.row
  have XL := Lib.hid x.size
  have OL : Hid (∀ xx o, al = some ⟨xx, o, none⟩ → w9.heap.size ≤ xx) := Lib.hid fun xx o e => by
    obtain ⟨gg, e2, h, _⟩ := nl.own (by decide)
    rw [e2] at e; cases e; exact h
  have S9 := Lib.hid (Nat.le_trans (HO.out.glt (by decide)) (Nat.le_refl _))
  replace HR := Lib.hid (HR.out.ext x); replace HO := Lib.hid (HO.out.ext x); replace HP := Lib.hid (HP.out.ext x); replace X := Lib.hid (X.out.trans x)
  have gz : g < w9.heap.size := by have := S9.out; omega
  have gz' : g' < w9.heap.size := S9.out
  clear nl x
  go_wp2_with fail
  refine (row_Set aw0 aw1 0 HO.out (by decide +kernel)).mono ?_
  rintro e w11 ⟨rfl, hr, hc⟩
  have HO := Lib.hid hr
  replace X := Lib.hid (hc.over X.out fun k ⟨_, e⟩ => by omega)
  replace HR := Lib.hid (HR.out.beside hc (fun _ => by omega) (fun _ _ => by omega))
  replace HP := Lib.hid (HP.out.beside hc (fun _ => by omega) (fun _ _ => by omega))
  replace HL := Lib.hid (HL.out.chg hc fun xx o e _ ⟨_, e2⟩ => by have := OL.out xx o e; omega)
  clear hr hc
  go_wp2_with fail
  refine (row_Less aw2 aw1 HR.out HO.out (by decide) (fun _ => ⟨by omega, by omega⟩)).mono ?_
  rintro e w12 ⟨rfl, hr, hc⟩
  have HR : Hid (RowAt w12 b g aw3) := Lib.hid hr
  replace X := Lib.hid (hc.over X.out fun k ⟨_, e⟩ => by omega)
  replace HP := Lib.hid (HP.out.beside hc (fun _ => by omega) (fun _ _ => by omega))
  replace HL := Lib.hid (HL.out.chg hc fun xx o e _ ⟨_, e2⟩ => by have := OL.out xx o e; omega)
  clear hr hc
  go_wp2_with fail
  refine (row_Less_len aw3 (List.replicate 69 false) HR.out HP.out (by decide +kernel)).mono ?_
  rintro e w13 ⟨rfl, x⟩
  replace HR := Lib.hid (HR.out.ext x); replace HL := Lib.hid (HL.out.ext x); replace X := Lib.hid (X.out.trans x)
  clear x
  go_wp2_with fail
  have HB := Lib.hid (At.newb .u64 w13 [8, 32] 55 _ rfl)
  refine (ref03_Same [8, 32] [8, 32] true (by simp) (HL.out.ext ((Ext.refl _).alloc _)) HB.out (by decide) (by decide)).mono ?_
  rintro e w14 ⟨rfl, x⟩
  replace HR := Lib.hid (HR.out.ext (((Ext.refl _).alloc _).trans x)); replace X := Lib.hid (X.out.trans (((Ext.refl _).alloc _).trans x))
  clear x
  go_wp2_with fail
  refine (row_Count aw3 1 HR.out C3.out).mono ?_
  rintro e w1000 ⟨rfl, rfl⟩
  go_wp2_with fail
  go_ret
  exact ⟨rfl, X.out⟩

end Go.Proofs.YtfhnjecnamgpkaaDoor
