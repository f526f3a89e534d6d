/-
  commonagelaw14: awake, PinsNone.
-/
import Derived.Test.YtfhnjecnamgpkaaDoorRef14
namespace Go.Proofs.YtfhnjecnamgpkaaDoor
open Go.RowKit

def pw0 : List Int := List.replicate 10 0
def pw1 : List Int := pw0.set 3 1
def pw2 : List Int := pw0.set 3 2
def pw3 : List Int := pw2.set 7 1
def pw4 : List Int := pw3.set 3 1
def pw5 : List Int := pw3.set 3 0
theorem pw_next1 : IsNext (pbs pw5) 0 true 7 true :=
  .inl ⟨rfl, 7, rfl, by decide, by decide, by decide, fun j h1 h2 => by
    have : ∀ j : Fin 7, 0 ≤ j.val → bnth (pbs pw5) j.val = false := by decide +kernel
    exact this ⟨j, h2⟩ (show 0 ≤ j by omega)⟩
theorem pw_next2 : IsNext (pbs pw5) 8 true 0 false :=
  .inr ⟨rfl, rfl, fun j h1 h2 => by
    have h3 : j < 10 := by have : (pbs pw5).length = 10 := by decide
                           omega
    have : ∀ j : Fin 10, 8 ≤ j.val → bnth (pbs pw5) j.val = false := by decide +kernel
    exact this ⟨j, h3⟩ (show 8 ≤ j by omega)⟩

set_option maxRecDepth 100000 in
set_option maxHeartbeats 8000000 in
theorem law14_awake (w : World) (hT : Tab w) : Calls Tryd.prog 39 #[] w fun e w' => e = .returned (.bool true) ∧ Ext w w' := by
  have HT := Lib.hid hT; clear hT
  have AL := Lib.hid (show pall pw3 pw3.length = [3, 7] by decide +kernel)
  have N1 := Lib.hid pw_next1; have N2 := Lib.hid pw_next2
  go_enter Tryd.func39, Tryd.ntmps39
  go_wp2_with fail
  refine (pins_New 10 (by decide)).mono ?_
  rintro e w1 ⟨b, rb, rg, g, rfl, hp, b1, b2, b3, x1⟩
  have HP : Hid (PinAt w1 b rb rg g pw0) := Lib.hid hp
  have X := Lib.hid x1
  replace b3 := b3 (by decide)
  have g1 := b3.1; have g2 := b3.2
  clear hp x1 b3
  go_wp2_with fail
  refine (pins_Pin pw0 pw1 0 HP.out (by decide +kernel)).mono ?_
  rintro e w2 ⟨rfl, hp, hc⟩
  replace HP := Lib.hid hp
  replace X := Lib.hid (hc.over X.out fun k ⟨_, e⟩ => by omega)
  clear hp hc
  go_wp2_with fail
  refine (pins_Pin pw1 pw2 0 HP.out (by decide +kernel)).mono ?_
  rintro e w3 ⟨rfl, hp, hc⟩
  replace HP := Lib.hid hp
  replace X := Lib.hid (hc.over X.out fun k ⟨_, e⟩ => by omega)
  clear hp hc
  go_wp2_with fail
  refine (pins_Pin pw2 pw3 0 HP.out (by decide +kernel)).mono ?_
  rintro e w4 ⟨rfl, hp, hc⟩
  replace HP := Lib.hid hp
  replace X := Lib.hid (hc.over X.out fun k ⟨_, e⟩ => by omega)
  clear hp hc
  go_wp2_with fail
  refine (pins_Count pw3 2 HP.out (by decide +kernel)).mono ?_
  rintro e w5 ⟨rfl, rfl⟩
  have S9 := Lib.hid (show rg < w4.heap.size by
    have := HP.out.row.glt (by decide); exact this)
  have S8 := Lib.hid (show g < w4.heap.size by
    obtain ⟨a, cap, _, hA, _, _, h5⟩ := HP.out.ex
    obtain ⟨x, o, e, hc⟩ := hA 0 (by decide)
    rw [(h5 (by decide)).1] at e; cases e; exact cell_lt hc)
  go_wp2_with fail
  refine (pins_All pw3 HP.out (HT.out.ext X.out)).mono ?_
  rw [AL.out]
  rintro e w6 ⟨al, cl, rfl, nl, x⟩
  have HL := Lib.hid nl.row
  have OL : Hid (∀ xx o, al = some ⟨xx, o, none⟩ → xx ≠ rg ∧ xx ≠ g) := Lib.hid fun xx o e => by
    obtain ⟨gg, e2, h, _⟩ := nl.own (by decide)
    rw [e2] at e; cases e; have := S9.out; have := S8.out; omega
  replace HP := Lib.hid (HP.out.ext x); replace X := Lib.hid (X.out.trans x)
  clear nl x S9 S8
  go_wp2_with fail
  refine (pins_Unpin pw3 pw4 0 HP.out (by decide +kernel)).mono ?_
  rintro e w7 ⟨rfl, hp, hc⟩
  replace HP := Lib.hid hp
  replace X := Lib.hid (hc.over X.out fun k ⟨_, e⟩ => by omega)
  replace HL := Lib.hid (HL.out.chg hc fun xx o e _ ⟨_, e2⟩ => by have := OL.out xx o e; omega)
  clear hp hc
  go_wp2_with fail
  refine (pins_Unpin pw4 pw5 0 HP.out (by decide +kernel)).mono ?_
  rintro e w8 ⟨rfl, hp, hc⟩
  replace HP := Lib.hid hp
  replace X := Lib.hid (hc.over X.out fun k ⟨_, e⟩ => by omega)
  replace HL := Lib.hid (HL.out.chg hc fun xx o e _ ⟨_, e2⟩ => by have := OL.out xx o e; omega)
  clear hp hc
  go_wp2_with fail
  refine (pins_Unpin pw5 pw5 140 HP.out (by decide +kernel)).mono ?_
  rintro e w9 ⟨rfl, hp, hc⟩
  replace HP := Lib.hid hp
  replace X := Lib.hid (hc.over X.out fun k ⟨_, e⟩ => by omega)
  replace HL := Lib.hid (HL.out.chg hc fun xx o e _ ⟨_, e2⟩ => by have := OL.out xx o e; omega)
  clear hp hc
  go_wp2_with fail
  refine (pins_Next pw5 7 true HP.out (HT.out.ext X.out) N1.out).mono ?_
  rintro e w10 ⟨rfl, x⟩
  replace HP := Lib.hid (HP.out.ext x); replace HL := Lib.hid (HL.out.ext x); replace X := Lib.hid (X.out.trans x)
  clear x
  go_wp2_with fail
  refine (pins_Next pw5 0 false HP.out (HT.out.ext X.out) N2.out).mono ?_
  rintro e w11 ⟨rfl, x⟩
  replace HP := Lib.hid (HP.out.ext x); replace HL := Lib.hid (HL.out.ext x); replace X := Lib.hid (X.out.trans x)
  clear x
  go_wp2_with fail
  have HB := Lib.hid (At.newb .i64 w11 [3, 7] 3 _ rfl)
  refine (ref14_Same [3, 7] [3, 7] true (by simp) (HL.out.ext ((Ext.refl _).alloc _)) HB.out (by decide) (by decide)).mono ?_
  rintro e w12 ⟨rfl, x⟩
  replace HP := Lib.hid (HP.out.ext (((Ext.refl _).alloc _).trans x)); replace X := Lib.hid (X.out.trans (((Ext.refl _).alloc _).trans x))
  clear x
  go_wp2_with fail
  refine (pins_Pin pw5 pw5 2 HP.out (by decide +kernel)).mono ?_
  rintro e w13 ⟨rfl, hp, hc⟩
  replace HP := Lib.hid hp
  replace X := Lib.hid (hc.over X.out fun k ⟨_, e⟩ => by omega)
  clear hp hc
  go_wp2_with fail
  refine (pins_Unpin pw5 pw5 2 HP.out (by decide +kernel)).mono ?_
  rintro e w14 ⟨rfl, hp, hc⟩
  replace HP := Lib.hid hp
  replace X := Lib.hid (hc.over X.out fun k ⟨_, e⟩ => by omega)
  clear hp hc
  go_wp2_with fail
  refine (pins_Any pw5 1 HP.out (by decide +kernel)).mono ?_
  rintro e w15 ⟨rfl, rfl⟩
  go_wp2_with fail
  go_ret
  exact ⟨rfl, X.out⟩

set_option maxRecDepth 100000 in
set_option maxHeartbeats 8000000 in
theorem law14_PinsNone (slot : Int) (w : World) (hT : Tab w) : Calls Tryd.prog 12 #[.int .i64 slot] w fun e w' => e = .returned (.bool true) ∧ Ext w w' := by
  have HT := Lib.hid hT; clear hT
  go_enter Tryd.func12, Tryd.ntmps12
  go_wp2_with fail
  go_loopw [5] (fun i wr => ∃ k : Nat, k ≤ 2 ∧ i = .int .i64 k ∧ wr = (w.alloc (.cells #[.pointer none, .slice none 0 0] 78)).alloc (.cells #[.pointer none, .pointer (some ⟨w.heap.size, 0, none⟩)] 60)) (fun i _ => 2 - (intOf i).toNat)
  case atStart => exact ⟨0, by omega, rfl, rfl⟩
  case round =>
    obtain ⟨k, hk, rfl, rfl⟩ := hrel
    have X := Lib.hid (((Ext.refl w).alloc (.cells #[.pointer none, .slice none 0 0] 78)).alloc (.cells #[.pointer none, .pointer (some ⟨w.heap.size, 0, none⟩)] 60))
    rcases (show k = 0 ∨ k = 1 ∨ k = 2 by omega) with rfl | rfl | rfl
    · have NZ := Lib.hid (show PNone ((w.alloc (.cells #[.pointer none, .slice none 0 0] 78)).alloc (.cells #[.pointer none, .pointer (some ⟨w.heap.size, 0, none⟩)] 60)) none true from .inl ⟨rfl, rfl⟩)
      go_wp2_with fail
      refine (pins_Next_no NZ.out).mono ?_
      rintro e w1000 ⟨rfl, rfl⟩
      go_wp2_with fail
      refine (pins_Pin_no NZ.out).mono ?_
      rintro e w1000 ⟨rfl, rfl⟩
      go_wp2_with fail
      refine (pins_Unpin_no NZ.out).mono ?_
      rintro e w1000 ⟨rfl, rfl⟩
      go_wp2_with fail
      refine (pins_Count_no NZ.out).mono ?_
      rintro e w1000 ⟨rfl, rfl⟩
      go_wp2_with fail
      refine (pins_Any_no NZ.out).mono ?_
      rintro e w1000 ⟨rfl, rfl⟩
      go_wp2_with fail
      refine (pins_All_no NZ.out).mono ?_
      rintro e w1000 ⟨rfl, rfl⟩
      go_wp2_with fail
      refine (pins_Len_no NZ.out).mono ?_
      rintro e w1000 ⟨rfl, rfl⟩
      go_wp2_with fail
      refine (pins_Copy_no NZ.out).mono ?_
      rintro e w1000 ⟨rfl, rfl⟩
      go_wp2_with fail
      go_roundw
      case rel => exact ⟨1, by omega, rfl, trivial⟩
      case measure => simp [intOf]
    · have NZ := Lib.hid (show PNone ((w.alloc (.cells #[.pointer none, .slice none 0 0] 78)).alloc (.cells #[.pointer none, .pointer (some ⟨w.heap.size, 0, none⟩)] 60)) (some ⟨w.heap.size, 0, none⟩) true from .inr ⟨_, none, rfl, cell_alloc (cell_newN w _ _ 0) _, rfl⟩)
      go_wp2_with fail
      refine (pins_Next_no NZ.out).mono ?_
      rintro e w1000 ⟨rfl, rfl⟩
      go_wp2_with fail
      refine (pins_Pin_no NZ.out).mono ?_
      rintro e w1000 ⟨rfl, rfl⟩
      go_wp2_with fail
      refine (pins_Unpin_no NZ.out).mono ?_
      rintro e w1000 ⟨rfl, rfl⟩
      go_wp2_with fail
      refine (pins_Count_no NZ.out).mono ?_
      rintro e w1000 ⟨rfl, rfl⟩
      go_wp2_with fail
      refine (pins_Any_no NZ.out).mono ?_
      rintro e w1000 ⟨rfl, rfl⟩
      go_wp2_with fail
      refine (pins_All_no NZ.out).mono ?_
      rintro e w1000 ⟨rfl, rfl⟩
      go_wp2_with fail
      refine (pins_Len_no NZ.out).mono ?_
      rintro e w1000 ⟨rfl, rfl⟩
      go_wp2_with fail
      refine (pins_Copy_no NZ.out).mono ?_
      rintro e w1000 ⟨rfl, rfl⟩
      go_wp2_with fail
      go_roundw
      case rel => exact ⟨2, by omega, rfl, trivial⟩
      case measure => simp [intOf]
    · go_wp2_with fail
      refine (law14_awake _ (HT.out.ext X.out)).mono ?_
      rintro e wz ⟨rfl, x⟩
      go_wp2_with fail
      go_ret
      exact ⟨rfl, X.out.trans x⟩

end Go.Proofs.YtfhnjecnamgpkaaDoor
