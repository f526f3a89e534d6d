/-
  The walks of commonagelaw08's statements: each returns true, and leaves all that there was as it was.
-/
import Derived.Test.YtjdagameeopadaaDoorRef08
namespace Go.Proofs.YtjdagameeopadaaDoor
open Go.RowKit

set_option maxRecDepth 100000 in
set_option maxHeartbeats 4000000 in
theorem law08_awake (w : World) (hW : Wid w) : Calls Tryd.prog 14 #[] w fun e w' => e = .returned (.bool true) ∧ Ext w w' := by
  have HW := Lib.hid hW; clear hW
  have h1 := (Ext.refl w).alloc (.cells #[.int .i64 1, .int .i64 2, .int .i64 3] 23)
  have h3 := Ext.refl (w.alloc (.cells #[.int .i64 1, .int .i64 2, .int .i64 3] 23))
  go_enter Tryd.func14, Tryd.ntmps14
  go_wp2_with fail
  refine (head_Put ⟨1, 2, 3⟩ 14339742697114501120 0 (by rfl) (HW.out.ext h1)).mono ?_
  rintro e w1 ⟨rfl, h2⟩
  replace h1 := (h1.trans (by repeat (first | exact Ext.refl _ | refine Ext.alloc ?_ _ | refine Ext.drewN ?_ _))).trans h2
  try replace h3 := (h3.trans (by repeat (first | exact Ext.refl _ | refine Ext.alloc ?_ _ | refine Ext.drewN ?_ _))).trans h2
  try replace h5 := (h5.trans (by repeat (first | exact Ext.refl _ | refine Ext.alloc ?_ _ | refine Ext.drewN ?_ _))).trans h2
  clear h2
  obtain ⟨bx30, bx31, bx32⟩ := hbox h3
  have bz3 := cell_lt bx30
  go_wp2_with fail
  all_goals clear bx30 bx31 bx32 bz3
  refine (head_Get 14339742697114501120 ⟨1, 2, 3⟩ 0 (by rfl) (by decide) (by decide) (HW.out.ext h1)).mono ?_
  rintro e v1 ⟨rfl, h2⟩
  replace h1 := h1.trans h2
  replace h3 := h3.trans h2
  clear h2
  go_wp2_with fail
  have h5 := Ext.refl (v1.alloc (.cells #[.int .i64 1, .int .i64 2, .int .i64 3] 23))
  replace h1 := h1.alloc (.cells #[.int .i64 1, .int .i64 2, .int .i64 3] 23)
  replace h3 := h3.alloc (.cells #[.int .i64 1, .int .i64 2, .int .i64 3] 23)
  refine (head_Get 0 hdnil 5 (by rfl) (by decide) (by decide) (HW.out.ext h1)).mono ?_
  rintro e w2 ⟨rfl, h2⟩
  replace h1 := (h1.trans (by repeat (first | exact Ext.refl _ | refine Ext.alloc ?_ _ | refine Ext.drewN ?_ _))).trans h2
  try replace h3 := (h3.trans (by repeat (first | exact Ext.refl _ | refine Ext.alloc ?_ _ | refine Ext.drewN ?_ _))).trans h2
  try replace h5 := (h5.trans (by repeat (first | exact Ext.refl _ | refine Ext.alloc ?_ _ | refine Ext.drewN ?_ _))).trans h2
  clear h2
  go_wp2_with fail
  refine (head_Put ⟨0, 40, 24⟩ 0 2 (by rfl) (HW.out.ext (h1.alloc _))).mono ?_
  rintro e w3 ⟨rfl, h2⟩
  replace h1 := (h1.trans (by repeat (first | exact Ext.refl _ | refine Ext.alloc ?_ _ | refine Ext.drewN ?_ _))).trans h2
  try replace h3 := (h3.trans (by repeat (first | exact Ext.refl _ | refine Ext.alloc ?_ _ | refine Ext.drewN ?_ _))).trans h2
  try replace h5 := (h5.trans (by repeat (first | exact Ext.refl _ | refine Ext.alloc ?_ _ | refine Ext.drewN ?_ _))).trans h2
  clear h2
  obtain ⟨bx30, bx31, bx32⟩ := hbox h3
  have bz3 := cell_lt bx30
  go_wp2_with fail
  all_goals clear bx30 bx31 bx32 bz3
  refine (head_Need ⟨1, 2, 3⟩ 6 0 (by rfl)).mono ?_
  rintro e w4 ⟨rfl, h2⟩
  replace h1 := (h1.trans (by repeat (first | exact Ext.refl _ | refine Ext.alloc ?_ _ | refine Ext.drewN ?_ _))).trans h2
  try replace h3 := (h3.trans (by repeat (first | exact Ext.refl _ | refine Ext.alloc ?_ _ | refine Ext.drewN ?_ _))).trans h2
  try replace h5 := (h5.trans (by repeat (first | exact Ext.refl _ | refine Ext.alloc ?_ _ | refine Ext.drewN ?_ _))).trans h2
  clear h2
  obtain ⟨bx30, bx31, bx32⟩ := hbox h3
  have bz3 := cell_lt bx30
  go_wp2_with fail
  all_goals clear bx30 bx31 bx32 bz3
  refine (head_Field ⟨1, 2, 3⟩ 1 true 0 (by rfl)).mono ?_
  rintro e w5 ⟨rfl, h2⟩
  replace h1 := (h1.trans (by repeat (first | exact Ext.refl _ | refine Ext.alloc ?_ _ | refine Ext.drewN ?_ _))).trans h2
  try replace h3 := (h3.trans (by repeat (first | exact Ext.refl _ | refine Ext.alloc ?_ _ | refine Ext.drewN ?_ _))).trans h2
  try replace h5 := (h5.trans (by repeat (first | exact Ext.refl _ | refine Ext.alloc ?_ _ | refine Ext.drewN ?_ _))).trans h2
  clear h2
  obtain ⟨bx30, bx31, bx32⟩ := hbox h3
  have bz3 := cell_lt bx30
  go_wp2_with fail
  all_goals clear bx30 bx31 bx32 bz3
  refine (head_Field ⟨1, 2, 3⟩ 2 false 0 (by rfl)).mono ?_
  rintro e w6 ⟨rfl, h2⟩
  replace h1 := (h1.trans (by repeat (first | exact Ext.refl _ | refine Ext.alloc ?_ _ | refine Ext.drewN ?_ _))).trans h2
  try replace h3 := (h3.trans (by repeat (first | exact Ext.refl _ | refine Ext.alloc ?_ _ | refine Ext.drewN ?_ _))).trans h2
  try replace h5 := (h5.trans (by repeat (first | exact Ext.refl _ | refine Ext.alloc ?_ _ | refine Ext.drewN ?_ _))).trans h2
  clear h2
  obtain ⟨bx30, bx31, bx32⟩ := hbox h3
  have bz3 := cell_lt bx30
  go_wp2_with fail
  all_goals clear bx30 bx31 bx32 bz3
  refine (head_Field ⟨1, 2, 3⟩ 5 false 110 (by rfl)).mono ?_
  rintro e w7 ⟨rfl, h2⟩
  replace h1 := (h1.trans (by repeat (first | exact Ext.refl _ | refine Ext.alloc ?_ _ | refine Ext.drewN ?_ _))).trans h2
  try replace h3 := (h3.trans (by repeat (first | exact Ext.refl _ | refine Ext.alloc ?_ _ | refine Ext.drewN ?_ _))).trans h2
  try replace h5 := (h5.trans (by repeat (first | exact Ext.refl _ | refine Ext.alloc ?_ _ | refine Ext.drewN ?_ _))).trans h2
  clear h2
  obtain ⟨bx30, bx31, bx32⟩ := hbox h3
  have bz3 := cell_lt bx30
  obtain ⟨bx50, bx51, bx52⟩ := hbox h5
  have bz5 := cell_lt bx50
  go_wp2_with fail
  all_goals clear bx30 bx31 bx32 bz3
  all_goals clear bx50 bx51 bx52 bz5
  go_ret
  exact ⟨rfl, h1⟩

set_option maxRecDepth 100000 in
set_option maxHeartbeats 4000000 in
theorem law08_HeadTells (h : Hd) (u i : Int) (w : World) (hW : Wid w) (hu : 0 ≤ u ∧ u < 18446744073709551616) :
    Calls Tryd.prog 3 #[.agg #[.int .i64 h.c, .int .i64 h.r, .int .i64 h.w], .int .u64 u, .int .i64 i] w fun e w' => e = .returned (.bool true) ∧ Ext w w' := by
  have HW := Lib.hid hW; clear hW
  have hx := (Ext.refl w).alloc (.cells #[.int .i64 h.c, .int .i64 h.r, .int .i64 h.w] 23)
  have h3 := Ext.refl (w.alloc (.cells #[.int .i64 h.c, .int .i64 h.r, .int .i64 h.w] 23))
  have h1 := hx
  have U := Lib.hid hu.2
  have u0 := hu.1
  obtain ⟨p, q, e1⟩ : ∃ p q, hdput h = (p, q) := ⟨_, _, rfl⟩
  obtain ⟨g, r, e2⟩ : ∃ p q, hdget u = (p, q) := ⟨_, _, rfl⟩
  obtain ⟨n, s, e3⟩ : ∃ p q, hdneed h = (p, q) := ⟨_, _, rfl⟩
  obtain ⟨f, t, e4⟩ : ∃ p q, hdfield h i = (p, q) := ⟨_, _, rfl⟩
  have E1 := Lib.hid e1; have E2 := Lib.hid e2; have E3 := Lib.hid e3; have E4 := Lib.hid e4
  clear e1 e2 e3 e4 hu
  obtain ⟨b0, b1, b2⟩ := hbox h3
  go_enter Tryd.func3, Tryd.ntmps3
  go_wp2_with fail
  clear b0 b1 b2
  refine (head_Put h p q E1.out (HW.out.ext h1)).mono ?_
  rintro e w1 ⟨rfl, h2⟩
  replace h1 := (h1.trans (by repeat (first | exact Ext.refl _ | refine Ext.alloc ?_ _ | refine Ext.drewN ?_ _))).trans h2
  try replace h3 := (h3.trans (by repeat (first | exact Ext.refl _ | refine Ext.alloc ?_ _ | refine Ext.drewN ?_ _))).trans h2
  try replace h5 := (h5.trans (by repeat (first | exact Ext.refl _ | refine Ext.alloc ?_ _ | refine Ext.drewN ?_ _))).trans h2
  clear h2
  obtain ⟨bx30, bx31, bx32⟩ := hbox h3
  have bz3 := cell_lt bx30
  go_wp2_with fail
  all_goals clear bx30 bx31 bx32 bz3
  refine (ref08_Put h p q E1.out).mono ?_
  rintro e w2 ⟨rfl, h2⟩
  replace h1 := (h1.trans (by repeat (first | exact Ext.refl _ | refine Ext.alloc ?_ _ | refine Ext.drewN ?_ _))).trans h2
  try replace h3 := (h3.trans (by repeat (first | exact Ext.refl _ | refine Ext.alloc ?_ _ | refine Ext.drewN ?_ _))).trans h2
  try replace h5 := (h5.trans (by repeat (first | exact Ext.refl _ | refine Ext.alloc ?_ _ | refine Ext.drewN ?_ _))).trans h2
  clear h2
  obtain ⟨bx30, bx31, bx32⟩ := hbox h3
  have bz3 := cell_lt bx30
  go_wp2_with fail
  all_goals clear bx30 bx31 bx32 bz3
  refine (head_Get u g r E2.out u0 U.out (HW.out.ext h1)).mono ?_
  rintro e v1 ⟨rfl, h2⟩
  replace h1 := h1.trans h2
  replace h3 := h3.trans h2
  clear h2
  go_wp2_with fail
  have h5 := Ext.refl (v1.alloc (.cells #[.int .i64 g.c, .int .i64 g.r, .int .i64 g.w] 23))
  replace h1 := h1.alloc (.cells #[.int .i64 g.c, .int .i64 g.r, .int .i64 g.w] 23)
  replace h3 := h3.alloc (.cells #[.int .i64 g.c, .int .i64 g.r, .int .i64 g.w] 23)
  refine (ref08_Get u g r E2.out u0 U.out).mono ?_
  rintro e v2 ⟨rfl, h2⟩
  replace h1 := h1.trans h2
  replace h3 := h3.trans h2
  replace h5 := h5.trans h2
  clear h2
  have hx7 := Ext.refl (v2.alloc (.cells #[.int .i64 g.c, .int .i64 g.r, .int .i64 g.w] 23))
  obtain ⟨b0, b1, b2⟩ := hbox h3
  have bz := cell_lt b0
  go_wp2_with fail
  clear b0 b1 b2 bz
  replace h1 := h1.alloc (.cells #[.int .i64 g.c, .int .i64 g.r, .int .i64 g.w] 23)
  replace h3 := h3.alloc (.cells #[.int .i64 g.c, .int .i64 g.r, .int .i64 g.w] 23)
  replace h5 := h5.alloc (.cells #[.int .i64 g.c, .int .i64 g.r, .int .i64 g.w] 23)
  have h7 : Ext v2 (v2.alloc (.cells #[.int .i64 g.c, .int .i64 g.r, .int .i64 g.w] 23)) := (Ext.refl _).alloc _
  clear h7
  refine (head_Need h n s E3.out).mono ?_
  rintro e v3 ⟨rfl, h2⟩
  replace h1 := h1.trans h2; replace h3 := h3.trans h2; replace h5 := h5.trans h2; replace hx7 := hx7.trans h2; clear h2
  obtain ⟨b0, b1, b2⟩ := hbox h3
  go_wp2_with fail
  clear b0 b1 b2
  refine (ref08_Need h n s E3.out).mono ?_
  rintro e v4 ⟨rfl, h2⟩
  replace h1 := h1.trans h2; replace h3 := h3.trans h2; replace h5 := h5.trans h2; replace hx7 := hx7.trans h2; clear h2
  obtain ⟨b0, b1, b2⟩ := hbox h3
  go_wp2_with fail
  clear b0 b1 b2
  refine (head_Field h i f t E4.out).mono ?_
  rintro e v5 ⟨rfl, h2⟩
  replace h1 := h1.trans h2; replace h3 := h3.trans h2; replace h5 := h5.trans h2; replace hx7 := hx7.trans h2; clear h2
  obtain ⟨b0, b1, b2⟩ := hbox h3
  go_wp2_with fail
  clear b0 b1 b2
  refine (ref08_Field h i f t E4.out).mono ?_
  rintro e v6 ⟨rfl, h2⟩
  replace h1 := h1.trans h2; replace h3 := h3.trans h2; replace h5 := h5.trans h2; replace hx7 := hx7.trans h2; clear h2
  obtain ⟨b0, b1, b2⟩ := hbox h5
  obtain ⟨d0, d1, d2⟩ := hbox hx7
  go_wp2_with fail
  clear b0 b1 b2 d0 d1 d2
  refine (law08_awake _ (HW.out.ext h1)).mono ?_
  rintro e w3 ⟨rfl, h2⟩
  replace h1 := (h1.trans (by repeat (first | exact Ext.refl _ | refine Ext.alloc ?_ _ | refine Ext.drewN ?_ _))).trans h2
  try replace h3 := (h3.trans (by repeat (first | exact Ext.refl _ | refine Ext.alloc ?_ _ | refine Ext.drewN ?_ _))).trans h2
  try replace h5 := (h5.trans (by repeat (first | exact Ext.refl _ | refine Ext.alloc ?_ _ | refine Ext.drewN ?_ _))).trans h2
  clear h2
  go_wp2_with fail
  go_ret
  exact ⟨rfl, h1⟩

end Go.Proofs.YtjdagameeopadaaDoor
