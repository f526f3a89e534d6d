/-
  The walk of commonagelaw06.ConfTells.
-/
import Derived.Test.YtcnaabkimgkpbaaLaw06a
import Derived.Test.YtcnaabkimgkpbaaSame
import Derived.Deep.RegionHeld3
namespace Go.Proofs.Ytcnaabkimgkpbaa
open Go.RowKit

set_option maxRecDepth 100000 in
set_option maxHeartbeats 4000000 in
theorem law06_ConfTells {ca ta : Option Addr} {cc tc : Nat} (c : Conf) (t k : Int) (w : World) (h : CfgAt w ca ta cc tc c) :
    Calls Try.prog 9 #[.agg #[.slice ca c.cl.length cc, .int .i64 c.page, .slice ta c.ts.length tc, .int .i64 c.wk, .int .i64 c.gr, .int .i64 c.gens], .int .i64 t, .int .i64 k] w fun e w' => e = .returned (.bool true) ∧ Ext w w' := by
  have h1 := Ext.refl (w.alloc (.cells #[.slice ca c.cl.length cc, .int .i64 c.page, .slice ta c.ts.length tc, .int .i64 c.wk, .int .i64 c.gr, .int .i64 c.gens] 36))
  have hx := (Ext.refl w).alloc (.cells #[.slice ca c.cl.length cc, .int .i64 c.page, .slice ta c.ts.length tc, .int .i64 c.wk, .int .i64 c.gr, .int .i64 c.gens] 36)
  have H := Lib.hid h; clear h
  by_cases hs : c.cl.length ≤ 50 ∧ c.ts.length ≤ 50
  · have HS := Lib.hid (show decide (c.cl.length ≤ 50 ∧ c.ts.length ≤ 50) = true by simpa using hs)
    obtain ⟨s1, s2⟩ := hs
    have B1 := Lib.hid s1; have B2 := Lib.hid s2; clear s1 s2
    obtain ⟨p1, q1, e1⟩ : ∃ p q, kslots c t k = (p, q) := ⟨_, _, rfl⟩
    obtain ⟨p2, q2, e2⟩ : ∃ p q, kpages c t k = (p, q) := ⟨_, _, rfl⟩
    obtain ⟨p3, q3, e3⟩ : ∃ p q, kregion c t = (p, q) := ⟨_, _, rfl⟩
    obtain ⟨p4, q4, e4⟩ : ∃ p q, kbase c t = (p, q) := ⟨_, _, rfl⟩
    obtain ⟨p5, q5, e5⟩ : ∃ p q, ktotal c = (p, q) := ⟨_, _, rfl⟩
    obtain ⟨p6, e6⟩ : ∃ p, kcheck c = p := ⟨_, rfl⟩
    have E1 := Lib.hid e1; have E2 := Lib.hid e2; have E3 := Lib.hid e3; have E4 := Lib.hid e4; have E5 := Lib.hid e5; have E6 := Lib.hid e6
    clear e1 e2 e3 e4 e5 e6
    go_enter Try.func9, Try.ntmps9
    go_wp2_with fail
    try clear b0 b1 b2 b3 b4 b5
    refine (ref06_Small c true HS.out (H.out.ext (hx.trans h1))).mono ?_
    rintro e w1 ⟨rfl, h2⟩
    replace h1 := h1.trans h2
    clear h2
    obtain ⟨b0, b1, b2, b3, b4, b5⟩ := box6 h1
    go_wp2_with fail
    try clear b0 b1 b2 b3 b4 b5
    refine (conf_Slots c _ _ _ _ E1.out (H.out.ext (hx.trans h1))).mono ?_
    rintro e w2 ⟨rfl, h2⟩
    replace h1 := h1.trans h2
    clear h2
    obtain ⟨b0, b1, b2, b3, b4, b5⟩ := box6 h1
    go_wp2_with fail
    try clear b0 b1 b2 b3 b4 b5
    refine (ref06_Slots c _ _ _ _ E1.out (H.out.ext (hx.trans h1))).mono ?_
    rintro e w3 ⟨rfl, h2⟩
    replace h1 := h1.trans h2
    clear h2
    obtain ⟨b0, b1, b2, b3, b4, b5⟩ := box6 h1
    go_wp2_with fail
    try clear b0 b1 b2 b3 b4 b5
    refine (conf_Pages c _ _ _ _ E2.out (H.out.ext (hx.trans h1))).mono ?_
    rintro e w4 ⟨rfl, h2⟩
    replace h1 := h1.trans h2
    clear h2
    obtain ⟨b0, b1, b2, b3, b4, b5⟩ := box6 h1
    go_wp2_with fail
    try clear b0 b1 b2 b3 b4 b5
    refine (ref06_Pages c _ _ _ _ E2.out (H.out.ext (hx.trans h1))).mono ?_
    rintro e w5 ⟨rfl, h2⟩
    replace h1 := h1.trans h2
    clear h2
    obtain ⟨b0, b1, b2, b3, b4, b5⟩ := box6 h1
    go_wp2_with fail
    have h1d := h1.drew
    go_region_held3 (fun w' => w'.cell? ⟨w.heap.size, 0, none⟩ = some (.slice ca c.cl.length cc) ∧ w'.cell? ⟨w.heap.size, 1, none⟩ = some (.int .i64 c.page) ∧ w'.cell? ⟨w.heap.size, 2, none⟩ = some (.slice ta c.ts.length tc) ∧ w'.cell? ⟨w.heap.size, 3, none⟩ = some (.int .i64 c.wk) ∧ w'.cell? ⟨w.heap.size, 4, none⟩ = some (.int .i64 c.gr) ∧ w'.cell? ⟨w.heap.size, 5, none⟩ = some (.int .i64 c.gens)) ((first | go_keep | (go_split_ands; exact ⟨hE.cell (by assumption), hE.cell (by assumption), hE.cell (by assumption), hE.cell (by assumption), hE.cell (by assumption), hE.cell (by assumption)⟩)))
      (first | (go_at_call 21; refine (conf_Check' c p6 E6.out (H.out.ext (hx.trans ?_))).mono ?_; assumption; rintro e w91 ⟨rfl, hE⟩; have hX : Ext (w.alloc (.cells #[.slice ca c.cl.length cc, .int .i64 c.page, .slice ta c.ts.length tc, .int .i64 c.wk, .int .i64 c.gr, .int .i64 c.gens] 36)) w91 := Ext.trans (by assumption) hE) | (go_at_call 30; refine (ref06_Check c p6 E6.out (H.out.ext (hx.trans ?_))).mono ?_; assumption; rintro e w92 ⟨rfl, hE⟩; have hX : Ext (w.alloc (.cells #[.slice ca c.cl.length cc, .int .i64 c.page, .slice ta c.ts.length tc, .int .i64 c.wk, .int .i64 c.gr, .int .i64 c.gens] 36)) w92 := Ext.trans (by assumption) hE) | (go_at_call 32; refine (conf_Own c (H.out.ext (hx.trans ?_)) B1.out B2.out).mono ?_; assumption; rintro e w93 ⟨ca', ta', cc', tc', rfl, n1, n2, hE⟩; have hX : Ext (w.alloc (.cells #[.slice ca c.cl.length cc, .int .i64 c.page, .slice ta c.ts.length tc, .int .i64 c.wk, .int .i64 c.gr, .int .i64 c.gens] 36)) w93 := Ext.trans (by assumption) hE; have O : Hid (CfgAt w93 ca' ta' cc' tc' c) := Lib.hid (CfgAt.mk n1.row n2.row (Nat.le_trans n1.cap1 n1.cap2) (Nat.le_trans n2.cap1 n2.cap2) n1.cap1 n2.cap1 n1.cap2 n2.cap2)) | (go_at_call 31; refine (ref06_Same c O.out (H.out.ext (hx.trans ?_)) B1.out B2.out).mono ?_; assumption; rintro e w94 ⟨rfl, hE⟩; have hX : Ext (w.alloc (.cells #[.slice ca c.cl.length cc, .int .i64 c.page, .slice ta c.ts.length tc, .int .i64 c.wk, .int .i64 c.gr, .int .i64 c.gens] 36)) w94 := Ext.trans (by assumption) hE))
    clear h1 h1d
    have h1 := hX
    clear hX
    try clear b0 b1 b2 b3 b4 b5
    obtain ⟨b0, b1, b2, b3, b4, b5⟩ := box6 h1
    go_wp2_with fail
    try clear b0 b1 b2 b3 b4 b5
    refine (conf_Region c _ _ _ E3.out (H.out.ext (hx.trans h1))).mono ?_
    rintro e w6 ⟨rfl, h2⟩
    replace h1 := h1.trans h2
    clear h2
    obtain ⟨b0, b1, b2, b3, b4, b5⟩ := box6 h1
    go_wp2_with fail
    try clear b0 b1 b2 b3 b4 b5
    refine (ref06_Region c _ _ _ E3.out (H.out.ext (hx.trans h1))).mono ?_
    rintro e w7 ⟨rfl, h2⟩
    replace h1 := h1.trans h2
    clear h2
    obtain ⟨b0, b1, b2, b3, b4, b5⟩ := box6 h1
    go_wp2_with fail
    try clear b0 b1 b2 b3 b4 b5
    refine (conf_Base c _ _ _ E4.out (H.out.ext (hx.trans h1))).mono ?_
    rintro e w8 ⟨rfl, h2⟩
    replace h1 := h1.trans h2
    clear h2
    obtain ⟨b0, b1, b2, b3, b4, b5⟩ := box6 h1
    go_wp2_with fail
    try clear b0 b1 b2 b3 b4 b5
    refine (ref06_Base c _ _ _ E4.out (H.out.ext (hx.trans h1))).mono ?_
    rintro e w9 ⟨rfl, h2⟩
    replace h1 := h1.trans h2
    clear h2
    obtain ⟨b0, b1, b2, b3, b4, b5⟩ := box6 h1
    go_wp2_with fail
    try clear b0 b1 b2 b3 b4 b5
    refine (conf_Total c _ _ E5.out (H.out.ext (hx.trans h1))).mono ?_
    rintro e w10 ⟨rfl, h2⟩
    replace h1 := h1.trans h2
    clear h2
    obtain ⟨b0, b1, b2, b3, b4, b5⟩ := box6 h1
    go_wp2_with fail
    try clear b0 b1 b2 b3 b4 b5
    refine (ref06_Total c _ _ E5.out (H.out.ext (hx.trans h1))).mono ?_
    rintro e w11 ⟨rfl, h2⟩
    replace h1 := h1.trans h2
    clear h2
    obtain ⟨b0, b1, b2, b3, b4, b5⟩ := box6 h1
    go_wp2_with fail
    try clear b0 b1 b2 b3 b4 b5
    refine (law06_awake _).mono ?_
    rintro e w12 ⟨rfl, h2⟩
    replace h1 := h1.trans h2
    clear h2
    go_wp2_with fail
    go_ret
    exact ⟨rfl, hx.trans h1⟩
  · have HS := Lib.hid (show decide (c.cl.length ≤ 50 ∧ c.ts.length ≤ 50) = false by simpa using hs)
    clear hs
    go_enter Try.func9, Try.ntmps9
    go_wp2_with fail
    refine (ref06_Small c false HS.out (H.out.ext (hx.trans h1))).mono ?_
    rintro e w13 ⟨rfl, h2⟩
    replace h1 := h1.trans h2
    clear h2
    obtain ⟨b0, b1, b2, b3, b4, b5⟩ := box6 h1
    go_wp2_with fail
    all_goals (try clear b0 b1 b2 b3 b4 b5)
    refine (law06_awake _).mono ?_
    rintro e w14 ⟨rfl, h2⟩
    replace h1 := h1.trans h2
    clear h2
    go_wp2_with fail
    go_ret
    exact ⟨rfl, hx.trans h1⟩

end Go.Proofs.Ytcnaabkimgkpbaa
