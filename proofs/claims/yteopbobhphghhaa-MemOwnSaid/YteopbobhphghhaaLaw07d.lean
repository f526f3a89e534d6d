/-
  The walk of commonagelaw07.MemPlays.
-/
import Derived.Test.YteopbobhphghhaaLaw07c
namespace Go.Proofs.Yteopbobhphghhaa
open Go.RowKit

def isB2 (g z k : Nat) : Prop := k = g ∨ k = z
theorem MemAt.lt1 {w : World} {b gw gb : Nat} {c : Conf} {ws : List Int} (h : MemAt w b gw gb c ws) : b < w.heap.size := h.lt.1
/-- What the loop of acts keeps: a memory and the document's, which lies in the box zq. -/
structure PlayR (w0 : World) (b gw gb zq : Nat) (c : Conf) (ws : List Int) (d cap : Nat) (wr : World) : Prop where
  mem : MemAt wr b gw gb c ws
  doc : DocAt (isB2 gw zq) wr d c ws
  c0 : wr.cell? ⟨zq, 0, none⟩ = some (.slice (some ⟨d, 0, none⟩) c.ts.length cap)
  f0 : wr.frozen? ⟨zq, 0, none⟩ = false
  ext : Ext w0 wr
  lg : w0.heap.size ≤ gw
  lz : w0.heap.size ≤ zq
  nb : zq ≠ b ∧ zq ≠ gw ∧ zq ≠ gb
theorem PlayR.step {w0 wr w' W : World} {b gw gb zq : Nat} {c : Conf} {ws ws' : List Int} {d cap d2 cap2 : Nat} (h : PlayR w0 b gw gb zq c ws d cap wr) (hm : MemAt w' b gw gb c ws') (hd : DocAt (isB2 gw zq) w' d2 c ws') (hc : Chg (isB gw) wr w') (hx : Ext w' W) :
    PlayR w0 b gw gb zq c ws' d2 cap2 (W.setCell ⟨zq, 0, none⟩ (.slice (some ⟨d2, 0, none⟩) c.ts.length cap2)) := by
  have n : ¬ isB gw zq := by unfold isB; exact h.nb.2.1
  obtain ⟨q0, q1⟩ := box_up (hc.boxAt n ⟨h.c0, h.f0⟩) hx
  refine ⟨(hm.ext hx).far (Ne.symm h.nb.1) (Ne.symm h.nb.2.1) (Ne.symm h.nb.2.2) _, ?_, World.cell?_setCell_same _ _ _ q0, by simpa using q1, ?_, h.lg, h.lz, h.nb⟩
  · exact (hd.ext hx).chg (Q := isB zq) (Chg.setCell (P := isB zq) (p := ⟨zq, 0, none⟩) (Chg.refl _ W) (.inl rfl) _) fun k hk => .inr hk
  · exact ((hc.over h.ext fun k hk => by unfold isB at hk; rw [hk]; exact h.lg).trans hx).setCell (p := ⟨zq, 0, none⟩) h.lz _
theorem PlayR.go {w0 wr w' : World} {b gw gb zq : Nat} {c : Conf} {ws : List Int} {d cap : Nat} (h : PlayR w0 b gw gb zq c ws d cap wr) (hx : Ext wr w') : PlayR w0 b gw gb zq c ws d cap w' :=
  ⟨h.mem.ext hx, h.doc.ext hx, hx.cell h.c0, hx.frozenAt h.c0 h.f0, h.ext.trans hx, h.lg, h.lz, h.nb⟩
theorem PlayR.lt {w0 wr : World} {b gw gb zq : Nat} {c : Conf} {ws : List Int} {d cap : Nat} (h : PlayR w0 b gw gb zq c ws d cap wr) : ∀ k, isB2 gw zq k → k < wr.heap.size := by
  rintro k (rfl | rfl)
  · exact h.mem.lt.2.1
  · exact cell_lt h.c0

set_option maxRecDepth 100000 in
set_option maxHeartbeats 16000000 in
theorem law07_MemPlays {ca ta la : Option Addr} {cc tc lc : Nat} (c : Conf) (l : List MAct) (w : World) (h : CfgAt w ca ta cc tc c) (hl : MActAt w la l) (hlm : l.length ≤ maxLen) :
    Calls Try.prog 4 #[.agg #[.slice ca c.cl.length cc, .int .i64 c.page, .slice ta c.ts.length tc, .int .i64 c.wk, .int .i64 c.gr, .int .i64 c.gens], .slice la l.length lc] w fun e w' => e = .returned (.bool true) ∧ Ext w w' := by
  have h1 := Ext.refl (w.alloc (.cells #[.slice ca c.cl.length cc, .int .i64 c.page, .slice ta c.ts.length tc, .int .i64 c.wk, .int .i64 c.gr, .int .i64 c.gens] 25))
  have hx := (Ext.refl w).alloc (.cells #[.slice ca c.cl.length cc, .int .i64 c.page, .slice ta c.ts.length tc, .int .i64 c.wk, .int .i64 c.gr, .int .i64 c.gens] 25)
  have H := Lib.hid h; have HL := Lib.hid hl
  unfold maxLen at hlm
  clear h hl
  cases hg : bigM c
  · have HG := Lib.hid hg
    clear hg
    by_cases h0 : kcheck c = 0
    · have ho := kcheck_ok h0
      have H0 := Lib.hid h0
      have HO := Lib.hid ho
      have t8 := ho.head.2.2.2.1
      clear h0 ho
      go_enter Try.func4, Try.ntmps4
      go_wp2_with fail
      try clear b0 b1 b2 b3 b4 b5
      refine (law07_great c false HG.out (H.out.ext (hx.trans h1))).mono ?_
      rintro e w1 ⟨rfl, h2⟩
      replace h1 := h1.trans h2
      clear h2
      obtain ⟨b0, b1, b2, b3, b4, b5⟩ := box6 h1
      go_wp2_with fail
      try clear b0 b1 b2 b3 b4 b5
      refine (mem_New c H0.out (H.out.ext (hx.trans h1))).mono ?_
      rintro e w3 ⟨b, gw, gb, rfl, hm, lb, lg, lgb, x⟩
      have HM := Lib.hid hm
      have LG := Lib.hid (Nat.le_trans (hx.trans h1).size lg)
      replace h1 := h1.trans x
      clear hm x lb lg lgb
      obtain ⟨b0, b1, b2, b3, b4, b5⟩ := box6 h1
      go_wp2_with fail
      clear b0 b1 b2 b3 b4 b5
      refine (ref06_Check c 0 H0.out (H.out.ext (hx.trans h1))).mono ?_
      rintro e w4 ⟨rfl, x⟩
      replace h1 := h1.trans x
      replace HM := Lib.hid (HM.out.ext x)
      clear x
      obtain ⟨b0, b1, b2, b3, b4, b5⟩ := box6 h1
      go_wp2_with fail
      clear b0 b1 b2 b3 b4 b5
      refine (ref07_New (P := isB gw) c H0.out (fun k hk => by unfold isB at hk; rw [hk]; exact HM.out.lt.2.1) (H.out.ext (hx.trans h1))).mono ?_
      rintro e w5 ⟨d, cap, rfl, hd, ld, x⟩
      replace h1 := h1.trans x
      replace HM := Lib.hid (HM.out.ext x)
      have HD := Lib.hid hd
      clear x hd ld
      go_wp2_with fail
      have P0 : Hid (PlayR w b gw gb w5.heap.size c (List.replicate (totalN c) 0) d cap (w5.alloc (.cells #[.slice (some ⟨d, 0, none⟩) c.ts.length cap] 48))) := Lib.hid (by
        have xb := (Ext.refl w5).alloc (.cells #[.slice (some ⟨d, 0, none⟩) c.ts.length cap] 48)
        obtain ⟨q0, q1⟩ := box_new w5 (.slice (some ⟨d, 0, none⟩) c.ts.length cap) 48 rfl
        have l := HM.out.lt
        exact ⟨HM.out.ext xb, (HD.out.swap (Q := isB2 gw w5.heap.size) fun k hk q => by
          rcases q with rfl | rfl
          · rfl
          · exact absurd hk (Nat.lt_irrefl _)).ext xb, q0, q1, (hx.trans h1).trans xb, LG.out, (hx.trans h1).size, by omega, by omega, by omega⟩)
      clear h1 HM HD
      generalize w5.heap.size = zq at *
      go_loopw [8] (fun kv wr => ∃ (k : Nat) (ws : List Int) (d cap : Nat), k ≤ l.length ∧ k ≤ 40 ∧ kv = .int .i64 k ∧ Hid (PlayR w b gw gb zq c ws d cap wr)) (fun kv _ => 40 - (intOf kv).toNat)
      case atStart => exact ⟨0, _, d, cap, Nat.zero_le _, Nat.zero_le _, rfl, P0⟩
      case round =>
        clear P0
        obtain ⟨k, ws, d, cap, hk, hk40, rfl, PR⟩ := hrel
        rcases (show (k < l.length ∧ k < 40) ∨ (k < l.length ∧ k = 40) ∨ k = l.length by omega) with ⟨hlt, h40⟩ | ⟨hlt, rfl⟩ | rfl
        · obtain ⟨ok, ab, ao, rfl, c0, c1, c2, c3, c4⟩ := HL.out k hlt
          have AC := Lib.hid (show mActnth l k = mActnth l k from rfl)
          have OK := Lib.hid ok
          have la0 : ab < w.heap.size := cell_lt c0
          replace c0 := PR.out.ext.cell c0; replace c1 := PR.out.ext.cell c1; replace c2 := PR.out.ext.cell c2; replace c3 := PR.out.ext.cell c3; replace c4 := PR.out.ext.cell c4
          clear ok AC
          generalize mActnth l k = y at *
          have q0 := PR.out.c0
          have lz : zq < wr.heap.size := cell_lt q0
          have la : ab < wr.heap.size := cell_lt c0
          have na : ¬ isB gw ab := by have := PR.out.lg; unfold isB; omega
          go_wp2_with fail
          have nq : ¬ isB gw zq := by unfold isB; exact PR.out.nb.2.1
          have n9 : ¬ isB gw wr.heap.size := by have := PR.out.mem.lt.2.1; unfold isB; omega
          have z9 : wr.heap.size ≠ zq := by omega
          have a9 : wr.heap.size ≠ ab := by omega
          have lm := PR.out.mem.lt
          have f0 := PR.out.f0
          have hk0 : (0 : Int) ≤ (k : Int) := Int.natCast_nonneg _
          have hk1 : (k : Int) < (l.length : Int) := by omega
          go_region_held3 (fun w' => w'.cell? ⟨zq, 0, none⟩ = some (.slice (some ⟨d, 0, none⟩) c.ts.length cap) ∧ w'.cell? ⟨ab, ao + k * 5, none⟩ = some (.int .u8 y.what) ∧ w'.cell? ⟨ab, ao + k * 5 + 1, none⟩ = some (.int .i64 y.tenant) ∧ w'.cell? ⟨ab, ao + k * 5 + 2, none⟩ = some (.int .i64 y.addr) ∧ w'.cell? ⟨ab, ao + k * 5 + 3, none⟩ = some (.int .i64 y.many) ∧ w'.cell? ⟨ab, ao + k * 5 + 4, none⟩ = some (.int .u64 y.w))
            ((first | with_reducible exact ⟨k0, k1, k2, k3, k4, k5⟩ | with_reducible exact ⟨cell_alloc k0 _, cell_alloc k1 _, cell_alloc k2 _, cell_alloc k3 _, cell_alloc k4 _, cell_alloc k5 _⟩ | with_reducible exact ⟨(cell_far _ _ _ _ z9).trans k0, (cell_far _ _ _ _ a9).trans k1, (cell_far _ _ _ _ a9).trans k2, (cell_far _ _ _ _ a9).trans k3, (cell_far _ _ _ _ a9).trans k4, (cell_far _ _ _ _ a9).trans k5⟩ | go_keep))
            ((go_at_call 18; refine (law07_does (P := isB2 gw zq) y (.inl rfl) ?_ OK.out (PR.out.mem.ext ?_) (PR.out.doc.ext ?_)).mono ?_; (exact fun k hk => Nat.lt_of_lt_of_le (PR.out.lt k hk) (Ext.size (by repeat (first | with_reducible exact Ext.refl _ | with_reducible refine Ext.drew ?_ | with_reducible refine Ext.drewN ?_ _ | with_reducible refine Ext.alloc ?_ _)))); (repeat (first | with_reducible exact Ext.refl _ | with_reducible refine Ext.drew ?_ | with_reducible refine Ext.drewN ?_ _ | with_reducible refine Ext.alloc ?_ _)); (repeat (first | with_reducible exact Ext.refl _ | with_reducible refine Ext.drew ?_ | with_reducible refine Ext.drewN ?_ _ | with_reducible refine Ext.alloc ?_ _)); rintro e w6 ⟨d2, cap2, rfl, hm6, hd6, hc6⟩; (first | (have bb := hc6.boxAt (p := ⟨wr.heap.size, 0, none⟩) n9 (box_new wr (.slice none 0 0) 48 rfl); obtain ⟨bb1, bb2⟩ := bb) | skip); have kg : w6.cell? ⟨zq, 0, none⟩ = some (.slice (some ⟨d, 0, none⟩) c.ts.length cap) ∧ w6.frozen? ⟨zq, 0, none⟩ = false := hc6.boxAt (p := ⟨zq, 0, none⟩) nq (box_up ⟨q0, f0⟩ (by repeat (first | with_reducible exact Ext.refl _ | with_reducible refine Ext.drew ?_ | with_reducible refine Ext.drewN ?_ _ | with_reducible refine Ext.alloc ?_ _))); obtain ⟨k0, g0⟩ := kg; have k1 : w6.cell? ⟨ab, ao + k * 5, none⟩ = _ := (by first | exact hc6.cell (p := ⟨ab, ao + k * 5, none⟩) na c0 | exact hc6.cell (p := ⟨ab, ao + k * 5, none⟩) na (cell_alloc c0 _) | fail); have k2 : w6.cell? ⟨ab, ao + k * 5 + 1, none⟩ = _ := (by first | exact hc6.cell (p := ⟨ab, ao + k * 5 + 1, none⟩) na c1 | exact hc6.cell (p := ⟨ab, ao + k * 5 + 1, none⟩) na (cell_alloc c1 _) | fail); have k3 : w6.cell? ⟨ab, ao + k * 5 + 2, none⟩ = _ := (by first | exact hc6.cell (p := ⟨ab, ao + k * 5 + 2, none⟩) na c2 | exact hc6.cell (p := ⟨ab, ao + k * 5 + 2, none⟩) na (cell_alloc c2 _) | fail); have k4 : w6.cell? ⟨ab, ao + k * 5 + 3, none⟩ = _ := (by first | exact hc6.cell (p := ⟨ab, ao + k * 5 + 3, none⟩) na c3 | exact hc6.cell (p := ⟨ab, ao + k * 5 + 3, none⟩) na (cell_alloc c3 _) | fail); have k5 : w6.cell? ⟨ab, ao + k * 5 + 4, none⟩ = _ := (by first | exact hc6.cell (p := ⟨ab, ao + k * 5 + 4, none⟩) na c4 | exact hc6.cell (p := ⟨ab, ao + k * 5 + 4, none⟩) na (cell_alloc c4 _) | fail)))
          · have z6 : zq < w6.heap.size := cell_lt k0
            have c9 := (box_new w6 (.slice (some ⟨d2, 0, none⟩) c.ts.length cap2) 48 rfl).1
            have HS := Lib.hid ((PR.out.step (cap2 := cap2) hm6 hd6 ((Chg.of_ext (by repeat (first | with_reducible exact Ext.refl _ | with_reducible refine Ext.drew ?_ | with_reducible refine Ext.drewN ?_ _ | with_reducible refine Ext.alloc ?_ _))).trans hc6) (Ext.refl _)).go ((Ext.refl _).alloc (.cells #[.slice (some ⟨d2, 0, none⟩) c.ts.length cap2] 48)))
            have n6 : ¬ zq = w6.heap.size := by omega
            go_wp2_with fail
            go_roundw
            case rel => exact ⟨k + 1, _, d2, cap2, by omega, by omega, by go_num, HS⟩
            case measure => simp [intOf] <;> omega
          · have c9 := World.cell?_setCell_same w6 ⟨wr.heap.size, 0, none⟩ (.slice (some ⟨d2, 0, none⟩) c.ts.length cap2) bb1
            have c0' := (cell_far w6 ⟨wr.heap.size, 0, none⟩ ⟨zq, 0, none⟩ (.slice (some ⟨d2, 0, none⟩) c.ts.length cap2) z9).trans k0
            have HS := Lib.hid (PR.out.step (cap2 := cap2) (hm6.far (by omega) (by omega) (by omega) _) (hd6.off0 bb1 (.slice (some ⟨d2, 0, none⟩) c.ts.length cap2)) (((Chg.of_ext (by repeat (first | with_reducible exact Ext.refl _ | with_reducible refine Ext.drew ?_ | with_reducible refine Ext.drewN ?_ _ | with_reducible refine Ext.alloc ?_ _))).trans hc6).setCell (p := ⟨wr.heap.size, 0, none⟩) (.inr (Nat.le_refl _)) _) (Ext.refl _))
            go_wp2_with fail
            go_roundw
            case rel => exact ⟨k + 1, _, d2, cap2, by omega, by omega, by go_num, HS⟩
            case measure => simp [intOf] <;> omega
        all_goals
          have q0 := PR.out.c0
          go_wp2_with fail
          refine (law07_same PR.out.mem PR.out.doc).mono ?_
          rintro e w7 ⟨rfl, x7⟩
          go_wp2_with fail
          refine (law07_awake _).mono ?_
          rintro e w8 ⟨rfl, x8⟩
          go_wp2_with fail
          go_ret
          exact ⟨rfl, PR.out.ext.trans (x7.trans x8)⟩
    · have H0 := Lib.hid h0
      have H2 := Lib.hid (show kcheck c = 2 by rcases kcheck_01 c with e | e; exact absurd e h0; exact e)
      clear h0
      go_enter Try.func4, Try.ntmps4
      go_wp2_with fail
      try clear b0 b1 b2 b3 b4 b5
      refine (law07_great c false HG.out (H.out.ext (hx.trans h1))).mono ?_
      rintro e w2 ⟨rfl, h2⟩
      replace h1 := h1.trans h2
      clear h2
      obtain ⟨b0, b1, b2, b3, b4, b5⟩ := box6 h1
      go_wp2_with fail
      try clear b0 b1 b2 b3 b4 b5
      refine (mem_New_no c H0.out (H.out.ext (hx.trans h1))).mono ?_
      rintro e w3 ⟨rfl, h2⟩
      replace h1 := h1.trans h2
      clear h2
      obtain ⟨b0, b1, b2, b3, b4, b5⟩ := box6 h1
      go_wp2_with fail
      try clear b0 b1 b2 b3 b4 b5
      refine (ref06_Check c 2 H2.out (H.out.ext (hx.trans h1))).mono ?_
      rintro e w4 ⟨rfl, h2⟩
      replace h1 := h1.trans h2
      clear h2
      obtain ⟨b0, b1, b2, b3, b4, b5⟩ := box6 h1
      go_wp2_with fail
      try clear b0 b1 b2 b3 b4 b5
      refine (law07_awake _).mono ?_
      rintro e w8 ⟨rfl, x8⟩
      go_wp2_with fail
      go_ret
      exact ⟨rfl, hx.trans (h1.trans x8)⟩
  · have HG := Lib.hid hg
    clear hg
    go_enter Try.func4, Try.ntmps4
    go_wp2_with fail
    try clear b0 b1 b2 b3 b4 b5
    refine (law07_great c true HG.out (H.out.ext (hx.trans h1))).mono ?_
    rintro e w5 ⟨rfl, h2⟩
    replace h1 := h1.trans h2
    clear h2
    obtain ⟨b0, b1, b2, b3, b4, b5⟩ := box6 h1
    go_wp2_with fail
    try clear b0 b1 b2 b3 b4 b5
    refine (law07_awake _).mono ?_
    rintro e w8 ⟨rfl, x8⟩
    go_wp2_with fail
    go_ret
    exact ⟨rfl, hx.trans (h1.trans x8)⟩

end Go.Proofs.Yteopbobhphghhaa
