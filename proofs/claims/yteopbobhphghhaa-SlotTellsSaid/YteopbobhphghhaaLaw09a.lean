/-
  commonagelaw09: awake, great.
-/
import Derived.Test.YteopbobhphghhaaSlotF
import Derived.Test.YteopbobhphghhaaSlot
import Derived.Test.YteopbobhphghhaaExC
namespace Go.Proofs.Yteopbobhphghhaa
open Go.RowKit Go.Shelf

set_option maxHeartbeats 2000000 in
theorem slot_Addr_no {b gp : Nat} {c : Conf} {t : Nat} {s : Int} {w : World} (h : PlanAt w b gp c t) (hk : s < 0 ∨ sS c t c.cl.length ≤ s) :
    Calls Try.prog 57 #[.pointer (some ⟨b, 0, none⟩), .int .i64 s] w fun e w' => e = .returned (.tuple #[.int .i64 0, .int .i64 2]) ∧ Ext w w' := by
  have H := Lib.hid h; have HK := Lib.hid hk
  clear h hk
  go_enter Try.func57, Try.ntmps57
  go_wp2_with fail
  refine (slot_find_no H.out HK.out).mono ?_
  rintro e w1 ⟨rfl, x⟩
  go_wp2_with fail
  go_ret2
  exact ⟨rfl, x⟩

set_option maxRecDepth 100000 in
set_option maxHeartbeats 8000000 in
theorem law09_awake (w : World) : Calls Try.prog 23 #[] w fun e w' => e = .returned (.bool true) ∧ Ext w w' := by
  have K0 := Lib.hid (show kcheck exC = 0 by decide)
  have C9 := Lib.hid (show AtClass exC 0 9 0 from ⟨by decide, by decide, by decide⟩)
  have C14 := Lib.hid (show AtClass exC 0 14 1 from ⟨by decide, by decide, by decide⟩)
  have C10 := Lib.hid (show AtClass exC 0 10 1 from ⟨by decide, by decide, by decide⟩)
  have P5 := Lib.hid (show AtPage exC 0 5 1 from ⟨by decide, by decide, by decide⟩)
  have P2 := Lib.hid (show AtPage exC 0 2 0 from ⟨by decide, by decide, by decide⟩)
  have A18 := Lib.hid (show IsAt exC 0 2 0 2 18 9 0 from .inl ⟨1, by decide, by decide, by decide, rfl⟩)
  have A19 := Lib.hid (show IsAt exC 0 2 0 2 19 0 7 from .inr ⟨fun j hj => by
    have h2 : j = 0 ∨ j = 1 := by omega
    rcases h2 with rfl | rfl <;> decide, rfl, rfl⟩)
  obtain ⟨z, hz⟩ : ∃ z, w.heap.size = z := ⟨_, rfl⟩
  go_enter Try.func23, Try.ntmps23
  go_wp2_with fail
  have x0 : Ext w (((w.alloc (.cells #[.int .i64 2, .int .i64 4] 3)).alloc (.cells #[.int .i64 20, .int .i64 8, .int .i64 4, .int .i64 1, .int .i64 4, .int .i64 1, .int .i64 1, .int .i64 0] 85)).alloc (.cells #[.slice (some ⟨z, 0, none⟩) 2 2, .int .i64 8, .slice (some ⟨z + 1, 0, none⟩) 2 2, .int .i64 1, .int .i64 2, .int .i64 3] 25)) := (((Ext.refl _).alloc _).alloc _).alloc _
  have HC : Hid (CfgAt (((w.alloc (.cells #[.int .i64 2, .int .i64 4] 3)).alloc (.cells #[.int .i64 20, .int .i64 8, .int .i64 4, .int .i64 1, .int .i64 4, .int .i64 1, .int .i64 1, .int .i64 0] 85)).alloc (.cells #[.slice (some ⟨z, 0, none⟩) 2 2, .int .i64 8, .slice (some ⟨z + 1, 0, none⟩) 2 2, .int .i64 1, .int .i64 2, .int .i64 3] 25)) (some ⟨z, 0, none⟩) (some ⟨z + 1, 0, none⟩) 2 2 exC) := Lib.hid
    ⟨(At.newb .i64 w [2, 4] 3 z hz).ext (((Ext.refl _).alloc _).alloc _), (TenAt.newb _ exC.ts _ _ _ (by simp [hz]) (by
      intro i hi
      have h2 : i < 2 := hi
      match i, h2 with
      | 0, _ => exact ⟨rfl, rfl, rfl, rfl⟩
      | 1, _ => exact ⟨rfl, rfl, rfl, rfl⟩)).ext ((Ext.refl _).alloc _), by decide, by decide, by decide, by decide, by decide, by decide⟩
  refine (slot_New exC 0 K0.out (by decide) HC.out).mono ?_
  rintro e w1 ⟨b, gp, rfl, hp, x1⟩
  have HP := Lib.hid hp
  have X := Lib.hid (x0.trans x1)
  clear hp x1
  go_wp2_with fail
  refine (slot_Addr HP.out C9.out).mono ?_
  rintro e w2 ⟨rfl, x⟩
  replace HP := Lib.hid (HP.out.ext x); replace X := Lib.hid (X.out.trans x)
  clear x
  go_wp2_with fail
  refine (slot_Addr HP.out C14.out).mono ?_
  rintro e w3 ⟨rfl, x⟩
  replace HP := Lib.hid (HP.out.ext x); replace X := Lib.hid (X.out.trans x)
  clear x
  go_wp2_with fail
  refine (slot_Class HP.out C10.out).mono ?_
  rintro e w4 ⟨rfl, x⟩
  replace HP := Lib.hid (HP.out.ext x); replace X := Lib.hid (X.out.trans x)
  clear x
  go_wp2_with fail
  refine (slot_Page HP.out C10.out).mono ?_
  rintro e w5 ⟨rfl, x⟩
  replace HP := Lib.hid (HP.out.ext x); replace X := Lib.hid (X.out.trans x)
  clear x
  go_wp2_with fail
  refine (slot_In HP.out P5.out).mono ?_
  rintro e w6 ⟨rfl, x⟩
  replace HP := Lib.hid (HP.out.ext x); replace X := Lib.hid (X.out.trans x)
  clear x
  go_wp2_with fail
  refine (slot_At (p := 2) (k := 0) (N := 2) (addr := 18) (r := 9) (q := 0) HP.out (by decide) (by decide) (by decide) P2.out (by decide) A18.out).mono ?_
  rintro e w7 ⟨rfl, x⟩
  replace HP := Lib.hid (HP.out.ext x); replace X := Lib.hid (X.out.trans x)
  clear x
  go_wp2_with fail
  refine (slot_At (p := 2) (k := 0) (N := 2) (addr := 19) (r := 0) (q := 7) HP.out (by decide) (by decide) (by decide) P2.out (by decide) A19.out).mono ?_
  rintro e w8 ⟨rfl, x⟩
  replace HP := Lib.hid (HP.out.ext x); replace X := Lib.hid (X.out.trans x)
  clear x
  go_wp2_with fail
  refine (slot_Addr_no HP.out (.inr (by decide))).mono ?_
  rintro e w9 ⟨rfl, x⟩
  replace HP := Lib.hid (HP.out.ext x); replace X := Lib.hid (X.out.trans x)
  clear x
  go_wp2_with fail
  refine (slot_Slots HP.out).mono ?_
  rintro e w10 ⟨rfl, rfl⟩
  go_wp2_with fail
  refine (slot_Pages HP.out).mono ?_
  rintro e w11 ⟨rfl, rfl⟩
  go_wp2_with fail
  refine (slot_Words HP.out).mono ?_
  rintro e w12 ⟨rfl, x⟩
  replace HP := Lib.hid (HP.out.ext x); replace X := Lib.hid (X.out.trans x)
  clear x
  go_wp2_with fail
  go_ret
  exact ⟨rfl, X.out⟩

end Go.Proofs.Yteopbobhphghhaa
