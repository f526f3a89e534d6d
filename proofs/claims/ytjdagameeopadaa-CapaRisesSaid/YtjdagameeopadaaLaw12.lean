/-
  The walks of commonagelaw12's statements: each returns true, and leaves all that there was as it was.
-/
import Derived.Test.YtjdagameeopadaaRef12
namespace Go.Proofs.Ytjdagameeopadaa
open Go.RowKit

set_option maxRecDepth 100000 in
set_option maxHeartbeats 4000000 in
theorem law12_awake (w : World) : Calls Try.prog 24 #[] w fun e w' => e = .returned (.bool true) ∧ Ext w w' := by
  have h1 := Ext.refl w
  go_enter Try.func24, Try.ntmps24
  go_wp2_with fail
  refine (capa_Put ⟨2, 5, 3⟩ 144115209550692355 0 (by decide) (by decide)).mono ?_
  rintro e w1 ⟨rfl, h2⟩
  replace h1 := (h1.trans (by repeat (first | exact Ext.refl _ | refine Ext.alloc ?_ _ | refine Ext.drewN ?_ _))).trans h2
  try replace h3 := (h3.trans (by repeat (first | exact Ext.refl _ | refine Ext.alloc ?_ _ | refine Ext.drewN ?_ _))).trans h2
  try replace h5 := (h5.trans (by repeat (first | exact Ext.refl _ | refine Ext.alloc ?_ _ | refine Ext.drewN ?_ _))).trans h2
  clear h2
  go_wp2_with fail
  refine (capa_Get 144115209550692355 ⟨2, 5, 3⟩ 0 (by rfl) (by decide) (by decide)).mono ?_
  rintro e v2 ⟨rfl, h2⟩
  replace h1 := h1.trans h2
  clear h2
  go_wp2_with fail
  have h3 := Ext.refl (v2.alloc (.cells #[.int .i64 2, .int .i64 5, .int .u32 3] 48))
  refine (capa_Get 0 hnil 130 (by rfl) (by decide) (by decide)).mono ?_
  rintro e w2 ⟨rfl, h2⟩
  replace h1 := (h1.trans (by repeat (first | exact Ext.refl _ | refine Ext.alloc ?_ _ | refine Ext.drewN ?_ _))).trans h2
  try replace h3 := (h3.trans (by repeat (first | exact Ext.refl _ | refine Ext.alloc ?_ _ | refine Ext.drewN ?_ _))).trans h2
  try replace h5 := (h5.trans (by repeat (first | exact Ext.refl _ | refine Ext.alloc ?_ _ | refine Ext.drewN ?_ _))).trans h2
  clear h2
  go_wp2_with fail
  refine (capa_Next 144115209550692355 4 144115209550692356 0 (by rfl) (by decide) (by decide)).mono ?_
  rintro e w3 ⟨rfl, h2⟩
  replace h1 := (h1.trans (by repeat (first | exact Ext.refl _ | refine Ext.alloc ?_ _ | refine Ext.drewN ?_ _))).trans h2
  try replace h3 := (h3.trans (by repeat (first | exact Ext.refl _ | refine Ext.alloc ?_ _ | refine Ext.drewN ?_ _))).trans h2
  try replace h5 := (h5.trans (by repeat (first | exact Ext.refl _ | refine Ext.alloc ?_ _ | refine Ext.drewN ?_ _))).trans h2
  clear h2
  go_wp2_with fail
  refine (capa_Next 144115209550692355 3 0 131 (by rfl) (by decide) (by decide)).mono ?_
  rintro e w4 ⟨rfl, h2⟩
  replace h1 := (h1.trans (by repeat (first | exact Ext.refl _ | refine Ext.alloc ?_ _ | refine Ext.drewN ?_ _))).trans h2
  try replace h3 := (h3.trans (by repeat (first | exact Ext.refl _ | refine Ext.alloc ?_ _ | refine Ext.drewN ?_ _))).trans h2
  try replace h5 := (h5.trans (by repeat (first | exact Ext.refl _ | refine Ext.alloc ?_ _ | refine Ext.drewN ?_ _))).trans h2
  clear h2
  go_wp2_with fail
  refine (capa_Put ⟨256, 0, 1⟩ 0 2 (by rfl) (by decide)).mono ?_
  rintro e w5 ⟨rfl, h2⟩
  replace h1 := (h1.trans (by repeat (first | exact Ext.refl _ | refine Ext.alloc ?_ _ | refine Ext.drewN ?_ _))).trans h2
  try replace h3 := (h3.trans (by repeat (first | exact Ext.refl _ | refine Ext.alloc ?_ _ | refine Ext.drewN ?_ _))).trans h2
  try replace h5 := (h5.trans (by repeat (first | exact Ext.refl _ | refine Ext.alloc ?_ _ | refine Ext.drewN ?_ _))).trans h2
  clear h2
  have d0 := h3.cell (cell_newN v2 #[.int .i64 2, .int .i64 5, .int .u32 3] 48 0)
  have d1 := h3.cell (cell_newN v2 #[.int .i64 2, .int .i64 5, .int .u32 3] 48 1)
  have d2 := h3.cell (cell_newN v2 #[.int .i64 2, .int .i64 5, .int .u32 3] 48 2)
  have d3 : v2.heap.size < w5.heap.size := cell_lt d0
  clear h3
  go_wp2_with fail
  refine (capa_Elder 144115209550692355 144115209550692356 true (by rfl) (by decide) (by decide) (by decide) (by decide)).mono ?_
  rintro e w6 ⟨rfl, h2⟩
  replace h1 := (h1.trans (by repeat (first | exact Ext.refl _ | refine Ext.alloc ?_ _ | refine Ext.drewN ?_ _))).trans h2
  try replace h3 := (h3.trans (by repeat (first | exact Ext.refl _ | refine Ext.alloc ?_ _ | refine Ext.drewN ?_ _))).trans h2
  try replace h5 := (h5.trans (by repeat (first | exact Ext.refl _ | refine Ext.alloc ?_ _ | refine Ext.drewN ?_ _))).trans h2
  clear h2
  go_wp2_with fail
  refine (capa_Elder 144115209550692356 144115209550692355 false (by rfl) (by decide) (by decide) (by decide) (by decide)).mono ?_
  rintro e w7 ⟨rfl, h2⟩
  replace h1 := (h1.trans (by repeat (first | exact Ext.refl _ | refine Ext.alloc ?_ _ | refine Ext.drewN ?_ _))).trans h2
  try replace h3 := (h3.trans (by repeat (first | exact Ext.refl _ | refine Ext.alloc ?_ _ | refine Ext.drewN ?_ _))).trans h2
  try replace h5 := (h5.trans (by repeat (first | exact Ext.refl _ | refine Ext.alloc ?_ _ | refine Ext.drewN ?_ _))).trans h2
  clear h2
  go_wp2_with fail
  go_ret
  exact ⟨rfl, h1⟩

set_option maxRecDepth 100000 in
set_option maxHeartbeats 4000000 in
theorem law12_CapaPuts (c : Hnd) (w : World) (hg : 0 ≤ c.g ∧ c.g < 4294967296) :
    Calls Try.prog 9 #[.agg #[.int .i64 c.t, .int .i64 c.i, .int .u32 c.g]] w fun e w' => e = .returned (.bool true) ∧ Ext w w' := by
  have h1 := (Ext.refl w).alloc (.cells #[.int .i64 c.t, .int .i64 c.i, .int .u32 c.g] 48)
  have h3 := Ext.refl (w.alloc (.cells #[.int .i64 c.t, .int .i64 c.i, .int .u32 c.g] 48))
  have g0 := hg.1; have g1 := hg.2
  by_cases hk : hok c
  · have P := Lib.hid (hput_yes hk)
    have K := Lib.hid hk
    have b := hword_64 hk hg
    have B := Lib.hid b.2
    have bp := b.1
    have b0 : 0 ≤ hword c := by omega
    have G := Lib.hid (hget_word hk hg)
    have nz : (hword c != 0) = true := by simp; omega
    clear hk b
    generalize hword c = x at *
    go_enter Try.func9, Try.ntmps9
    go_wp2_with fail
    refine (capa_Put c _ _ P.out hg).mono ?_
    rintro e w1 ⟨rfl, h2⟩
    replace h1 := (h1.trans (by repeat (first | exact Ext.refl _ | refine Ext.alloc ?_ _ | refine Ext.drewN ?_ _))).trans h2
    try replace h3 := (h3.trans (by repeat (first | exact Ext.refl _ | refine Ext.alloc ?_ _ | refine Ext.drewN ?_ _))).trans h2
    try replace h5 := (h5.trans (by repeat (first | exact Ext.refl _ | refine Ext.alloc ?_ _ | refine Ext.drewN ?_ _))).trans h2
    clear h2
    obtain ⟨b0, b1, b2⟩ := box3 h3
    go_wp2_with fail
    clear b0 b1 b2
    refine (ref12_Put c _ _ P.out hg).mono ?_
    rintro e w2 ⟨rfl, h2⟩
    replace h1 := (h1.trans (by repeat (first | exact Ext.refl _ | refine Ext.alloc ?_ _ | refine Ext.drewN ?_ _))).trans h2
    try replace h3 := (h3.trans (by repeat (first | exact Ext.refl _ | refine Ext.alloc ?_ _ | refine Ext.drewN ?_ _))).trans h2
    try replace h5 := (h5.trans (by repeat (first | exact Ext.refl _ | refine Ext.alloc ?_ _ | refine Ext.drewN ?_ _))).trans h2
    clear h2
    go_wp2_with fail
    refine (capa_Get x c 0 G.out b0 B.out).mono ?_
    rintro e v1 ⟨rfl, h2⟩
    replace h1 := h1.trans h2
    replace h3 := h3.trans h2
    obtain ⟨b0, b1, b2⟩ := box3 h3
    have hlt := cell_lt b0
    go_wp2_with fail
    refine (law12_awake _).mono ?_
    rintro e w3 ⟨rfl, h2⟩
    replace h1 := (h1.trans (by repeat (first | exact Ext.refl _ | refine Ext.alloc ?_ _ | refine Ext.drewN ?_ _))).trans h2
    try replace h3 := (h3.trans (by repeat (first | exact Ext.refl _ | refine Ext.alloc ?_ _ | refine Ext.drewN ?_ _))).trans h2
    try replace h5 := (h5.trans (by repeat (first | exact Ext.refl _ | refine Ext.alloc ?_ _ | refine Ext.drewN ?_ _))).trans h2
    clear h2
    go_wp2_with fail
    go_ret
    exact ⟨rfl, h1⟩
  · have P := Lib.hid (hput_no hk)
    clear hk
    go_enter Try.func9, Try.ntmps9
    go_wp2_with fail
    refine (capa_Put c _ _ P.out hg).mono ?_
    rintro e w4 ⟨rfl, h2⟩
    replace h1 := (h1.trans (by repeat (first | exact Ext.refl _ | refine Ext.alloc ?_ _ | refine Ext.drewN ?_ _))).trans h2
    try replace h3 := (h3.trans (by repeat (first | exact Ext.refl _ | refine Ext.alloc ?_ _ | refine Ext.drewN ?_ _))).trans h2
    try replace h5 := (h5.trans (by repeat (first | exact Ext.refl _ | refine Ext.alloc ?_ _ | refine Ext.drewN ?_ _))).trans h2
    clear h2
    obtain ⟨b0, b1, b2⟩ := box3 h3
    go_wp2_with fail
    clear b0 b1 b2
    refine (ref12_Put c _ _ P.out hg).mono ?_
    rintro e w5 ⟨rfl, h2⟩
    replace h1 := (h1.trans (by repeat (first | exact Ext.refl _ | refine Ext.alloc ?_ _ | refine Ext.drewN ?_ _))).trans h2
    try replace h3 := (h3.trans (by repeat (first | exact Ext.refl _ | refine Ext.alloc ?_ _ | refine Ext.drewN ?_ _))).trans h2
    try replace h5 := (h5.trans (by repeat (first | exact Ext.refl _ | refine Ext.alloc ?_ _ | refine Ext.drewN ?_ _))).trans h2
    clear h2
    go_wp2_with fail
    refine (law12_awake _).mono ?_
    rintro e w6 ⟨rfl, h2⟩
    replace h1 := (h1.trans (by repeat (first | exact Ext.refl _ | refine Ext.alloc ?_ _ | refine Ext.drewN ?_ _))).trans h2
    try replace h3 := (h3.trans (by repeat (first | exact Ext.refl _ | refine Ext.alloc ?_ _ | refine Ext.drewN ?_ _))).trans h2
    try replace h5 := (h5.trans (by repeat (first | exact Ext.refl _ | refine Ext.alloc ?_ _ | refine Ext.drewN ?_ _))).trans h2
    clear h2
    go_wp2_with fail
    go_ret
    exact ⟨rfl, h1⟩

set_option maxRecDepth 100000 in
set_option maxHeartbeats 4000000 in
theorem law12_CapaGets (u v gens : Int) (w : World) (hu : 0 ≤ u ∧ u < 18446744073709551616) (hv : 0 ≤ v ∧ v < 18446744073709551616) :
    Calls Try.prog 10 #[.int .u64 u, .int .u64 v, .int .i64 gens] w fun e w' => e = .returned (.bool true) ∧ Ext w w' := by
  have U := Lib.hid hu.2; have V := Lib.hid hv.2
  have u0 := hu.1; have v0 := hv.1
  obtain ⟨c, q, hc⟩ : ∃ c q, hget u = (c, q) := ⟨_, _, rfl⟩
  obtain ⟨n, r, hn⟩ : ∃ n r, hnext u gens = (n, r) := ⟨_, _, rfl⟩
  obtain ⟨b, hb⟩ : ∃ b, helder u v = b := ⟨_, rfl⟩
  have C := Lib.hid hc; have N := Lib.hid hn; have B := Lib.hid hb
  clear hn hb
  rcases hget_two hc with ⟨rfl, rfl⟩ | ⟨rfl, rfl⟩
  · clear hc hu hv
    go_enter Try.func10, Try.ntmps10
    go_wp2_with fail
    refine (capa_Get u _ _ C.out u0 U.out).mono ?_
    rintro e v1 ⟨rfl, h1⟩
    unfold hnil
    dsimp only
    go_wp2_with fail
    refine (ref12_Get u _ _ C.out u0 U.out).mono ?_
    rintro e v2 ⟨rfl, h3⟩
    replace h1 := (h1.alloc _).trans h3
    unfold hnil
    dsimp only
    go_wp2_with fail
    replace h3 := h3.alloc (.cells #[.int .i64 0, .int .i64 0, .int .u32 0] 48)
    have h5 := Ext.refl (v2.alloc (.cells #[.int .i64 0, .int .i64 0, .int .u32 0] 48))
    replace h1 := h1.alloc (.cells #[.int .i64 0, .int .i64 0, .int .u32 0] 48)
    refine (capa_Next u gens n r N.out u0 U.out).mono ?_
    rintro e w1 ⟨rfl, h2⟩
    replace h1 := (h1.trans (by repeat (first | exact Ext.refl _ | refine Ext.alloc ?_ _ | refine Ext.drewN ?_ _))).trans h2
    try replace h3 := (h3.trans (by repeat (first | exact Ext.refl _ | refine Ext.alloc ?_ _ | refine Ext.drewN ?_ _))).trans h2
    try replace h5 := (h5.trans (by repeat (first | exact Ext.refl _ | refine Ext.alloc ?_ _ | refine Ext.drewN ?_ _))).trans h2
    clear h2
    go_wp2_with fail
    refine (ref12_Next u gens n r N.out u0 U.out).mono ?_
    rintro e w2 ⟨rfl, h2⟩
    replace h1 := (h1.trans (by repeat (first | exact Ext.refl _ | refine Ext.alloc ?_ _ | refine Ext.drewN ?_ _))).trans h2
    try replace h3 := (h3.trans (by repeat (first | exact Ext.refl _ | refine Ext.alloc ?_ _ | refine Ext.drewN ?_ _))).trans h2
    try replace h5 := (h5.trans (by repeat (first | exact Ext.refl _ | refine Ext.alloc ?_ _ | refine Ext.drewN ?_ _))).trans h2
    clear h2
    obtain ⟨b0, b1, b2⟩ := box3 h3
    obtain ⟨d0, d1, d2⟩ := box3 h5
    have hlt := cell_lt b0; have hlt2 := cell_lt d0
    go_wp2_with fail
    clear b0 b1 b2 d0 d1 d2
    refine (capa_Elder u v b B.out u0 U.out v0 V.out).mono ?_
    rintro e w3 ⟨rfl, h2⟩
    replace h1 := (h1.trans (by repeat (first | exact Ext.refl _ | refine Ext.alloc ?_ _ | refine Ext.drewN ?_ _))).trans h2
    try replace h3 := (h3.trans (by repeat (first | exact Ext.refl _ | refine Ext.alloc ?_ _ | refine Ext.drewN ?_ _))).trans h2
    try replace h5 := (h5.trans (by repeat (first | exact Ext.refl _ | refine Ext.alloc ?_ _ | refine Ext.drewN ?_ _))).trans h2
    clear h2
    go_wp2_with fail
    refine (ref12_Elder u v b B.out u0 U.out v0 V.out).mono ?_
    rintro e w4 ⟨rfl, h2⟩
    replace h1 := (h1.trans (by repeat (first | exact Ext.refl _ | refine Ext.alloc ?_ _ | refine Ext.drewN ?_ _))).trans h2
    try replace h3 := (h3.trans (by repeat (first | exact Ext.refl _ | refine Ext.alloc ?_ _ | refine Ext.drewN ?_ _))).trans h2
    try replace h5 := (h5.trans (by repeat (first | exact Ext.refl _ | refine Ext.alloc ?_ _ | refine Ext.drewN ?_ _))).trans h2
    clear h2
    obtain ⟨b0, b1, b2⟩ := box3 h3
    replace hlt := cell_lt b0
    go_wp2_with fail
    refine (law12_awake _).mono ?_
    rintro e w5 ⟨rfl, h2⟩
    replace h1 := (h1.trans (by repeat (first | exact Ext.refl _ | refine Ext.alloc ?_ _ | refine Ext.drewN ?_ _))).trans h2
    try replace h3 := (h3.trans (by repeat (first | exact Ext.refl _ | refine Ext.alloc ?_ _ | refine Ext.drewN ?_ _))).trans h2
    try replace h5 := (h5.trans (by repeat (first | exact Ext.refl _ | refine Ext.alloc ?_ _ | refine Ext.drewN ?_ _))).trans h2
    clear h2
    go_wp2_with fail
    go_ret
    exact ⟨rfl, h1⟩
  · have hz : u % 4294967296 ≠ 0 := by
      intro hz; rw [hget_no hz] at hc; have := congrArg Prod.snd hc; simp at this
    have r1 := hraw_ok u0 U.out hz
    have P := Lib.hid (show hput (hraw u) = (u, 0) by rw [hput_yes r1.1, r1.2.1])
    have hg : 0 ≤ (hraw u).g ∧ (hraw u).g < 4294967296 := r1.2.2
    clear r1 hz hc hu hv
    generalize hraw u = c at *
    go_enter Try.func10, Try.ntmps10
    go_wp2_with fail
    refine (capa_Get u _ _ C.out u0 U.out).mono ?_
    rintro e v1 ⟨rfl, h1⟩
    go_wp2_with fail
    refine (ref12_Get u _ _ C.out u0 U.out).mono ?_
    rintro e v2 ⟨rfl, h3⟩
    replace h1 := (h1.alloc _).trans h3
    go_wp2_with fail
    replace h3 := h3.alloc (.cells #[.int .i64 c.t, .int .i64 c.i, .int .u32 c.g] 48)
    have h5 := Ext.refl (v2.alloc (.cells #[.int .i64 c.t, .int .i64 c.i, .int .u32 c.g] 48))
    replace h1 := h1.alloc (.cells #[.int .i64 c.t, .int .i64 c.i, .int .u32 c.g] 48)
    refine (capa_Next u gens n r N.out u0 U.out).mono ?_
    rintro e w6 ⟨rfl, h2⟩
    replace h1 := (h1.trans (by repeat (first | exact Ext.refl _ | refine Ext.alloc ?_ _ | refine Ext.drewN ?_ _))).trans h2
    try replace h3 := (h3.trans (by repeat (first | exact Ext.refl _ | refine Ext.alloc ?_ _ | refine Ext.drewN ?_ _))).trans h2
    try replace h5 := (h5.trans (by repeat (first | exact Ext.refl _ | refine Ext.alloc ?_ _ | refine Ext.drewN ?_ _))).trans h2
    clear h2
    go_wp2_with fail
    refine (ref12_Next u gens n r N.out u0 U.out).mono ?_
    rintro e w7 ⟨rfl, h2⟩
    replace h1 := (h1.trans (by repeat (first | exact Ext.refl _ | refine Ext.alloc ?_ _ | refine Ext.drewN ?_ _))).trans h2
    try replace h3 := (h3.trans (by repeat (first | exact Ext.refl _ | refine Ext.alloc ?_ _ | refine Ext.drewN ?_ _))).trans h2
    try replace h5 := (h5.trans (by repeat (first | exact Ext.refl _ | refine Ext.alloc ?_ _ | refine Ext.drewN ?_ _))).trans h2
    clear h2
    obtain ⟨b0, b1, b2⟩ := box3 h3
    obtain ⟨d0, d1, d2⟩ := box3 h5
    have hlt := cell_lt b0; have hlt2 := cell_lt d0
    go_wp2_with fail
    clear b0 b1 b2 d0 d1 d2
    refine (capa_Elder u v b B.out u0 U.out v0 V.out).mono ?_
    rintro e w8 ⟨rfl, h2⟩
    replace h1 := (h1.trans (by repeat (first | exact Ext.refl _ | refine Ext.alloc ?_ _ | refine Ext.drewN ?_ _))).trans h2
    try replace h3 := (h3.trans (by repeat (first | exact Ext.refl _ | refine Ext.alloc ?_ _ | refine Ext.drewN ?_ _))).trans h2
    try replace h5 := (h5.trans (by repeat (first | exact Ext.refl _ | refine Ext.alloc ?_ _ | refine Ext.drewN ?_ _))).trans h2
    clear h2
    go_wp2_with fail
    refine (ref12_Elder u v b B.out u0 U.out v0 V.out).mono ?_
    rintro e w9 ⟨rfl, h2⟩
    replace h1 := (h1.trans (by repeat (first | exact Ext.refl _ | refine Ext.alloc ?_ _ | refine Ext.drewN ?_ _))).trans h2
    try replace h3 := (h3.trans (by repeat (first | exact Ext.refl _ | refine Ext.alloc ?_ _ | refine Ext.drewN ?_ _))).trans h2
    try replace h5 := (h5.trans (by repeat (first | exact Ext.refl _ | refine Ext.alloc ?_ _ | refine Ext.drewN ?_ _))).trans h2
    clear h2
    obtain ⟨b0, b1, b2⟩ := box3 h3
    replace hlt := cell_lt b0
    go_wp2_with fail
    refine (capa_Put c u 0 P.out hg).mono ?_
    rintro e w10 ⟨rfl, h2⟩
    replace h1 := (h1.trans (by repeat (first | exact Ext.refl _ | refine Ext.alloc ?_ _ | refine Ext.drewN ?_ _))).trans h2
    try replace h3 := (h3.trans (by repeat (first | exact Ext.refl _ | refine Ext.alloc ?_ _ | refine Ext.drewN ?_ _))).trans h2
    try replace h5 := (h5.trans (by repeat (first | exact Ext.refl _ | refine Ext.alloc ?_ _ | refine Ext.drewN ?_ _))).trans h2
    clear h2
    go_wp2_with fail
    refine (law12_awake _).mono ?_
    rintro e w11 ⟨rfl, h2⟩
    replace h1 := (h1.trans (by repeat (first | exact Ext.refl _ | refine Ext.alloc ?_ _ | refine Ext.drewN ?_ _))).trans h2
    try replace h3 := (h3.trans (by repeat (first | exact Ext.refl _ | refine Ext.alloc ?_ _ | refine Ext.drewN ?_ _))).trans h2
    try replace h5 := (h5.trans (by repeat (first | exact Ext.refl _ | refine Ext.alloc ?_ _ | refine Ext.drewN ?_ _))).trans h2
    clear h2
    go_wp2_with fail
    go_ret
    exact ⟨rfl, h1⟩

end Go.Proofs.Ytjdagameeopadaa
