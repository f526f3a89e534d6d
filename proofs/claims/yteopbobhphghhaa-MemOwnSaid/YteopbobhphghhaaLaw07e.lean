/-
  The walk of commonagelaw07.MemOwn.
-/
import Derived.Test.YteopbobhphghhaaLaw07d
namespace Go.Proofs.Yteopbobhphghhaa
open Go.RowKit

/-- Words that are turned (block g), beside others (block g8) that are not. -/
structure FlipR (wq : World) (g g8 n : Nat) (ws xs : List Int) (wz : World) : Prop where
  row : At .u64 wz (some ⟨g, 0, none⟩) xs
  len : xs.length = n
  fz : ∀ o, wz.frozen? ⟨g, o, none⟩ = false
  all : At .u64 wz (some ⟨g8, 0, none⟩) ws
  ext : Ext wq wz
  lo : wq.heap.size ≤ g
  ne : g ≠ g8
theorem FlipR.set {wq wz : World} {g g8 n i : Nat} {ws xs : List Int} (h : FlipR wq g g8 n ws xs wz) (hi : i < n) (v : Int) : FlipR wq g g8 n ws (xs.set i v) (wz.setCell ⟨g, i, none⟩ (.int .u64 v)) := by
  refine ⟨h.row.set (by rw [h.len]; exact hi) v, by rw [List.length_set]; exact h.len, fun o => by simpa using h.fz o, ?_, h.ext.setCell (p := ⟨g, i, none⟩) h.lo _, h.lo, h.ne⟩
  exact h.all.chg (P := isB g) (Chg.setCell (P := isB g) (p := ⟨g, i, none⟩) (Chg.refl _ wz) (.inl rfl) _) fun b o e _ hb => by cases e; unfold isB at hb; exact h.ne hb.symm
theorem FlipR.at {wq wz : World} {g g8 n i : Nat} {ws xs : List Int} (h : FlipR wq g g8 n ws xs wz) (hi : i < n) : wz.cell? ⟨g, i, none⟩ = some (.int .u64 (nth xs i)) := by
  obtain ⟨b, o, e, hc⟩ := h.row i (by rw [h.len]; exact hi)
  cases e
  rwa [Nat.zero_add] at hc

set_option maxRecDepth 100000 in
set_option maxHeartbeats 32000000 in
theorem law07_MemOwn {ca ta la ma : Option Addr} {cc tc lc mc : Nat} (c : Conf) (l m : List MAct) (w : World) (h : CfgAt w ca ta cc tc c) (hl : MActAt w la l) (hlm : l.length ≤ maxLen) (hm : MActAt w ma m) (hmm : m.length ≤ maxLen) :
    Calls Try.prog 6 #[.agg #[.slice ca c.cl.length cc, .int .i64 c.page, .slice ta c.ts.length tc, .int .i64 c.wk, .int .i64 c.gr, .int .i64 c.gens], .slice la l.length lc, .slice ma m.length mc] w fun e w' => e = .returned (.bool true) ∧ Ext w w' := by
  have h1 := Ext.refl (w.alloc (.cells #[.slice ca c.cl.length cc, .int .i64 c.page, .slice ta c.ts.length tc, .int .i64 c.wk, .int .i64 c.gr, .int .i64 c.gens] 25))
  have hx := (Ext.refl w).alloc (.cells #[.slice ca c.cl.length cc, .int .i64 c.page, .slice ta c.ts.length tc, .int .i64 c.wk, .int .i64 c.gr, .int .i64 c.gens] 25)
  have H := Lib.hid h; have HL := Lib.hid hl; have HMA := Lib.hid hm
  unfold maxLen at hlm hmm
  clear h hl hm
  cases hg : bigM c
  · have HG := Lib.hid hg
    clear hg
    by_cases h0 : kcheck c = 0
    · have ho := kcheck_ok h0
      have H0 := Lib.hid h0
      have HO := Lib.hid ho
      have t8 := ho.head.2.2.2.1
      have tl := ho.total_le
      clear h0 ho
      go_enter Try.func6, Try.ntmps6
      go_wp2_with fail
      try clear b0 b1 b2 b3 b4 b5
      refine (law07_great c false HG.out (H.out.ext (hx.trans h1))).mono ?_
      rintro e w1 ⟨rfl, h2⟩
      replace h1 := h1.trans h2
      clear h2
      obtain ⟨b0, b1, b2, b3, b4, b5⟩ := box6 h1
      go_wp2_with fail
      try clear b0 b1 b2 b3 b4 b5
      refine (ref06_Check c 0 H0.out (H.out.ext (hx.trans h1))).mono ?_
      rintro e w2 ⟨rfl, h2⟩
      replace h1 := h1.trans h2
      clear h2
      obtain ⟨b0, b1, b2, b3, b4, b5⟩ := box6 h1
      go_wp2_with fail
      try clear b0 b1 b2 b3 b4 b5
      refine (mem_New c H0.out (H.out.ext (hx.trans h1))).mono ?_
      rintro e w3 ⟨b, gw, gb, rfl, hm, lb, lg, lgb, x⟩
      have HM := Lib.hid hm
      have LG := Lib.hid (Nat.le_trans (hx.trans h1).size lg)
      replace h1 := h1.trans x
      clear hm x lb lg lgb
      obtain ⟨b0, b1, b2, b3, b4, b5⟩ := box6 h1
      go_wp2_with fail
      clear b0 b1 b2 b3 b4 b5
      refine (ref07_New (P := isB gw) c H0.out (fun k hk => by unfold isB at hk; rw [hk]; exact HM.out.lt.2.1) (H.out.ext (hx.trans h1))).mono ?_
      rintro e w5 ⟨d, cap, rfl, hd, ld, x⟩
      replace h1 := h1.trans x
      replace HM := Lib.hid (HM.out.ext x)
      have HD := Lib.hid hd
      clear x hd ld
      go_wp2_with fail
      have P0 : Hid (PlayR w b gw gb w5.heap.size c (List.replicate (totalN c) 0) d cap (w5.alloc (.cells #[.slice (some ⟨d, 0, none⟩) c.ts.length cap] 48))) := Lib.hid (by
        have xb := (Ext.refl w5).alloc (.cells #[.slice (some ⟨d, 0, none⟩) c.ts.length cap] 48)
        obtain ⟨q0, q1⟩ := box_new w5 (.slice (some ⟨d, 0, none⟩) c.ts.length cap) 48 rfl
        have l := HM.out.lt
        exact ⟨HM.out.ext xb, (HD.out.swap (Q := isB2 gw w5.heap.size) fun k hk q => by
          rcases q with rfl | rfl
          · rfl
          · exact absurd hk (Nat.lt_irrefl _)).ext xb, q0, q1, (hx.trans h1).trans xb, LG.out, (hx.trans h1).size, by omega, by omega, by omega⟩)
      clear h1 HM HD
      generalize w5.heap.size = zq at *
      go_loopw [10] (fun kv wr => ∃ (k : Nat) (ws : List Int) (d cap : Nat), k ≤ l.length ∧ k ≤ 20 ∧ kv = .int .i64 k ∧ Hid (PlayR w b gw gb zq c ws d cap wr)) (fun kv _ => 20 - (intOf kv).toNat)
      case atStart => exact ⟨0, _, d, cap, Nat.zero_le _, Nat.zero_le _, rfl, P0⟩
      case round =>
        clear P0
        obtain ⟨k, ws, d, cap, hk, hk20, rfl, PR⟩ := hrel
        rcases (show (k < l.length ∧ k < 20) ∨ (k < l.length ∧ k = 20) ∨ k = l.length by omega) with ⟨hlt, h20⟩ | ⟨hlt, rfl⟩ | rfl
        · obtain ⟨ok, ab, ao, rfl, c0, c1, c2, c3, c4⟩ := HL.out k hlt
          have OK := Lib.hid ok
          have la0 : ab < w.heap.size := cell_lt c0
          replace c0 := PR.out.ext.cell c0; replace c1 := PR.out.ext.cell c1; replace c2 := PR.out.ext.cell c2; replace c3 := PR.out.ext.cell c3; replace c4 := PR.out.ext.cell c4
          clear ok
          generalize mActnth l k = y at *
          have q0 := PR.out.c0
          have f0 := PR.out.f0
          have lz : zq < wr.heap.size := cell_lt q0
          have la : ab < wr.heap.size := cell_lt c0
          have hk0 : (0 : Int) ≤ (k : Int) := Int.natCast_nonneg _
          have hk1 : (k : Int) < (l.length : Int) := by omega
          have nq : ¬ isB gw zq := by unfold isB; exact PR.out.nb.2.1
          go_wp2_with fail
          go_region_with ((go_at_call 18; refine (law07_does (P := isB2 gw zq) y (.inl rfl) ?_ OK.out (PR.out.mem.ext ?_) (PR.out.doc.ext ?_)).mono ?_; (exact fun k hk => Nat.lt_of_lt_of_le (PR.out.lt k hk) (Ext.size (by repeat (first | with_reducible exact Ext.refl _ | with_reducible refine Ext.drew ?_ | with_reducible refine Ext.drewN ?_ _ | with_reducible refine Ext.alloc ?_ _)))); (repeat (first | with_reducible exact Ext.refl _ | with_reducible refine Ext.drew ?_ | with_reducible refine Ext.drewN ?_ _ | with_reducible refine Ext.alloc ?_ _)); (repeat (first | with_reducible exact Ext.refl _ | with_reducible refine Ext.drew ?_ | with_reducible refine Ext.drewN ?_ _ | with_reducible refine Ext.alloc ?_ _)); rintro e w6 ⟨d2, cap2, rfl, hm6, hd6, hc6⟩; have kg : w6.cell? ⟨zq, 0, none⟩ = some (.slice (some ⟨d, 0, none⟩) c.ts.length cap) ∧ w6.frozen? ⟨zq, 0, none⟩ = false := hc6.boxAt (p := ⟨zq, 0, none⟩) nq (box_up ⟨q0, f0⟩ (by repeat (first | with_reducible exact Ext.refl _ | with_reducible refine Ext.drew ?_ | with_reducible refine Ext.drewN ?_ _ | with_reducible refine Ext.alloc ?_ _))); obtain ⟨k0, g0⟩ := kg))
          all_goals
            have HS := Lib.hid (PR.out.step (cap2 := cap2) hm6 hd6 ((Chg.of_ext (by repeat (first | with_reducible exact Ext.refl _ | with_reducible refine Ext.drew ?_ | with_reducible refine Ext.drewN ?_ _ | with_reducible refine Ext.alloc ?_ _))).trans hc6) (Ext.refl _))
            go_wp2_with fail
            go_roundw
            case rel => exact ⟨k + 1, _, d2, cap2, by omega, by omega, by go_num, HS⟩
            case measure => simp [intOf] <;> omega
        all_goals
          clear hk hk20
          obtain ⟨wm, rfl⟩ : ∃ wm : World, wm = wr := ⟨_, rfl⟩
          have q0 := PR.out.c0
          go_wp2_with fail
          refine (mem_Copy PR.out.mem).mono ?_
          rintro e w6 ⟨b2, gw2, gb2, rfl, hm2, l1, l2, l3, x6⟩
          replace q0 := x6.cell q0
          have PQ : Hid (PlayR wm b2 gw2 gb2 w6.heap.size c ws d cap (w6.alloc (.cells #[.slice (some ⟨d, 0, none⟩) c.ts.length cap] 48))) := Lib.hid (by
            have xb := (Ext.refl w6).alloc (.cells #[.slice (some ⟨d, 0, none⟩) c.ts.length cap] 48)
            obtain ⟨q0, q1⟩ := box_new w6 (.slice (some ⟨d, 0, none⟩) c.ts.length cap) 48 rfl
            have l := hm2.lt
            exact ⟨hm2.ext xb, (PR.out.doc.swap (Q := isB2 gw2 w6.heap.size) fun k hk q => by
              rcases q with rfl | rfl
              · exact absurd hk (by omega)
              · exact absurd hk (by have := x6.size; omega)).ext (x6.trans xb), q0, q1, x6.trans xb, l2, x6.size, by omega, by omega, by omega⟩)
          have z6 : zq < w6.heap.size := cell_lt q0
          clear hm2
          go_wp2_with fail
          clear q0 l1 l2 l3 x6 z6
          generalize w6.heap.size = zp at *
          go_loopw [13] (fun kv wr => ∃ (k : Nat) (ws2 : List Int) (d1 cap1 : Nat), k ≤ m.length ∧ k ≤ 20 ∧ kv = .int .i64 k ∧ Hid (PlayR wm b2 gw2 gb2 zp c ws2 d1 cap1 wr)) (fun kv _ => 20 - (intOf kv).toNat)
          case atStart => exact ⟨0, _, d, cap, Nat.zero_le _, Nat.zero_le _, rfl, PQ⟩
          case round =>
            clear PQ
            obtain ⟨k, ws2, d1, cap1, hk, hk20, rfl, PR2⟩ := hrel
            rcases (show (k < m.length ∧ k < 20) ∨ (k < m.length ∧ k = 20) ∨ k = m.length by omega) with ⟨hlt, h20⟩ | ⟨hlt, rfl⟩ | rfl
            · obtain ⟨ok, ab, ao, rfl, c0, c1, c2, c3, c4⟩ := HMA.out k hlt
              have OK := Lib.hid ok
              have la0 : ab < w.heap.size := cell_lt c0
              have wsz := PR.out.ext.size
              replace c0 := (PR.out.ext.trans PR2.out.ext).cell c0; replace c1 := (PR.out.ext.trans PR2.out.ext).cell c1; replace c2 := (PR.out.ext.trans PR2.out.ext).cell c2; replace c3 := (PR.out.ext.trans PR2.out.ext).cell c3; replace c4 := (PR.out.ext.trans PR2.out.ext).cell c4
              clear ok
              generalize mActnth m k = y at *
              have q0 := PR2.out.c0
              have lz : zp < wr.heap.size := cell_lt q0
              have la : ab < wr.heap.size := cell_lt c0
              have na : ¬ isB gw2 ab := by have := PR2.out.lg; unfold isB; omega
              go_wp2_with fail
              have nq : ¬ isB gw2 zp := by unfold isB; exact PR2.out.nb.2.1
              have n9 : ¬ isB gw2 wr.heap.size := by have := PR2.out.mem.lt.2.1; unfold isB; omega
              have z9 : wr.heap.size ≠ zp := by omega
              have a9 : wr.heap.size ≠ ab := by omega
              have lm := PR2.out.mem.lt
              have f0 := PR2.out.f0
              have hk0 : (0 : Int) ≤ (k : Int) := Int.natCast_nonneg _
              have hk1 : (k : Int) < (m.length : Int) := by omega
              go_region_held3 (fun w' => w'.cell? ⟨zp, 0, none⟩ = some (.slice (some ⟨d1, 0, none⟩) c.ts.length cap1) ∧ w'.cell? ⟨ab, ao + k * 5, none⟩ = some (.int .u8 y.what) ∧ w'.cell? ⟨ab, ao + k * 5 + 1, none⟩ = some (.int .i64 y.tenant) ∧ w'.cell? ⟨ab, ao + k * 5 + 2, none⟩ = some (.int .i64 y.addr) ∧ w'.cell? ⟨ab, ao + k * 5 + 3, none⟩ = some (.int .i64 y.many) ∧ w'.cell? ⟨ab, ao + k * 5 + 4, none⟩ = some (.int .u64 y.w))
                ((first | with_reducible exact ⟨k0, k1, k2, k3, k4, k5⟩ | with_reducible exact ⟨cell_alloc k0 _, cell_alloc k1 _, cell_alloc k2 _, cell_alloc k3 _, cell_alloc k4 _, cell_alloc k5 _⟩ | with_reducible exact ⟨(cell_far _ _ _ _ z9).trans k0, (cell_far _ _ _ _ a9).trans k1, (cell_far _ _ _ _ a9).trans k2, (cell_far _ _ _ _ a9).trans k3, (cell_far _ _ _ _ a9).trans k4, (cell_far _ _ _ _ a9).trans k5⟩ | go_keep))
                ((go_at_call 18; refine (law07_does (P := isB2 gw2 zp) y (.inl rfl) ?_ OK.out (PR2.out.mem.ext ?_) (PR2.out.doc.ext ?_)).mono ?_; (exact fun k hk => Nat.lt_of_lt_of_le (PR2.out.lt k hk) (Ext.size (by repeat (first | with_reducible exact Ext.refl _ | with_reducible refine Ext.drew ?_ | with_reducible refine Ext.drewN ?_ _ | with_reducible refine Ext.alloc ?_ _)))); (repeat (first | with_reducible exact Ext.refl _ | with_reducible refine Ext.drew ?_ | with_reducible refine Ext.drewN ?_ _ | with_reducible refine Ext.alloc ?_ _)); (repeat (first | with_reducible exact Ext.refl _ | with_reducible refine Ext.drew ?_ | with_reducible refine Ext.drewN ?_ _ | with_reducible refine Ext.alloc ?_ _)); rintro e w6 ⟨d2, cap2, rfl, hm6, hd6, hc6⟩; (first | (have bb := hc6.boxAt (p := ⟨wr.heap.size, 0, none⟩) n9 (box_new wr (.slice none 0 0) 48 rfl); obtain ⟨bb1, bb2⟩ := bb) | skip); have kg : w6.cell? ⟨zp, 0, none⟩ = some (.slice (some ⟨d1, 0, none⟩) c.ts.length cap1) ∧ w6.frozen? ⟨zp, 0, none⟩ = false := hc6.boxAt (p := ⟨zp, 0, none⟩) nq (box_up ⟨q0, f0⟩ (by repeat (first | with_reducible exact Ext.refl _ | with_reducible refine Ext.drew ?_ | with_reducible refine Ext.drewN ?_ _ | with_reducible refine Ext.alloc ?_ _))); obtain ⟨k0, g0⟩ := kg; have k1 : w6.cell? ⟨ab, ao + k * 5, none⟩ = _ := (by first | exact hc6.cell (p := ⟨ab, ao + k * 5, none⟩) na c0 | exact hc6.cell (p := ⟨ab, ao + k * 5, none⟩) na (cell_alloc c0 _) | fail); have k2 : w6.cell? ⟨ab, ao + k * 5 + 1, none⟩ = _ := (by first | exact hc6.cell (p := ⟨ab, ao + k * 5 + 1, none⟩) na c1 | exact hc6.cell (p := ⟨ab, ao + k * 5 + 1, none⟩) na (cell_alloc c1 _) | fail); have k3 : w6.cell? ⟨ab, ao + k * 5 + 2, none⟩ = _ := (by first | exact hc6.cell (p := ⟨ab, ao + k * 5 + 2, none⟩) na c2 | exact hc6.cell (p := ⟨ab, ao + k * 5 + 2, none⟩) na (cell_alloc c2 _) | fail); have k4 : w6.cell? ⟨ab, ao + k * 5 + 3, none⟩ = _ := (by first | exact hc6.cell (p := ⟨ab, ao + k * 5 + 3, none⟩) na c3 | exact hc6.cell (p := ⟨ab, ao + k * 5 + 3, none⟩) na (cell_alloc c3 _) | fail); have k5 : w6.cell? ⟨ab, ao + k * 5 + 4, none⟩ = _ := (by first | exact hc6.cell (p := ⟨ab, ao + k * 5 + 4, none⟩) na c4 | exact hc6.cell (p := ⟨ab, ao + k * 5 + 4, none⟩) na (cell_alloc c4 _) | fail)))
              · have z6 : zp < w6.heap.size := cell_lt k0
                have c9 := (box_new w6 (.slice (some ⟨d2, 0, none⟩) c.ts.length cap2) 48 rfl).1
                have HS := Lib.hid ((PR2.out.step (cap2 := cap2) hm6 hd6 ((Chg.of_ext (by repeat (first | with_reducible exact Ext.refl _ | with_reducible refine Ext.drew ?_ | with_reducible refine Ext.drewN ?_ _ | with_reducible refine Ext.alloc ?_ _))).trans hc6) (Ext.refl _)).go ((Ext.refl _).alloc (.cells #[.slice (some ⟨d2, 0, none⟩) c.ts.length cap2] 48)))
                have n6 : ¬ zp = w6.heap.size := by omega
                go_wp2_with fail
                go_roundw
                case rel => exact ⟨k + 1, _, d2, cap2, by omega, by omega, by go_num, HS⟩
                case measure => simp [intOf] <;> omega
              · have c9 := World.cell?_setCell_same w6 ⟨wr.heap.size, 0, none⟩ (.slice (some ⟨d2, 0, none⟩) c.ts.length cap2) bb1
                have c0' := (cell_far w6 ⟨wr.heap.size, 0, none⟩ ⟨zp, 0, none⟩ (.slice (some ⟨d2, 0, none⟩) c.ts.length cap2) z9).trans k0
                have HS := Lib.hid (PR2.out.step (cap2 := cap2) (hm6.far (by omega) (by omega) (by omega) _) (hd6.off0 bb1 (.slice (some ⟨d2, 0, none⟩) c.ts.length cap2)) (((Chg.of_ext (by repeat (first | with_reducible exact Ext.refl _ | with_reducible refine Ext.drew ?_ | with_reducible refine Ext.drewN ?_ _ | with_reducible refine Ext.alloc ?_ _))).trans hc6).setCell (p := ⟨wr.heap.size, 0, none⟩) (.inr (Nat.le_refl _)) _) (Ext.refl _))
                go_wp2_with fail
                go_roundw
                case rel => exact ⟨k + 1, _, d2, cap2, by omega, by omega, by go_num, HS⟩
                case measure => simp [intOf] <;> omega
            all_goals
              clear hk hk20
              obtain ⟨wn, rfl⟩ : ∃ wn : World, wn = wr := ⟨_, rfl⟩
              go_wp2_with fail
              have hm := PR.out.mem.ext PR2.out.ext
              have HM := Lib.hid hm
              have WP : 0 < ws.length := by rw [hm.len]; exact hm.ok.total_pos
              have WL : ws.length ≤ 8388608 := by rw [hm.len]; exact tl
              clear hm
              refine (mem_All HM.out).mono ?_
              rintro e w7 ⟨a7, c7, rfl, hn7, x7⟩
              go_wp2_with fail
              refine (mem_All (HM.out.ext x7)).mono ?_
              rintro e w8 ⟨a8, c8, rfl, hn8, x8⟩
              obtain ⟨g7, rfl, lo7, hi7, f7⟩ := hn7.own WP
              obtain ⟨g8, rfl, lo8, hi8, f8⟩ := hn8.own WP
              have FR : Hid (FlipR wn g7 g8 ws.length ws ws w8) := Lib.hid ⟨hn7.row.ext x8, rfl, fun o => by rw [x8.frozen (p := ⟨g7, o, none⟩) hi7]; exact f7 o, hn8.row, x7.trans x8, lo7, by omega⟩
              clear hn7 hn8 x7 x8 lo7 lo8 hi7 hi8 f7 f8
              go_wp2_with fail
              go_loopw [18] (fun kv wz => ∃ (k : Nat) (xs : List Int), k ≤ ws.length ∧ kv = .int .i64 k ∧ Hid (FlipR wn g7 g8 ws.length ws xs wz)) (fun kv _ => ws.length - (intOf kv).toNat)
              case atStart => exact ⟨0, ws, Nat.zero_le _, rfl, FR⟩
              case round =>
                clear FR
                obtain ⟨k, xs, hk, rfl, FR⟩ := hrel
                by_cases hlt : k < ws.length
                · have FS := Lib.hid (fun v => FR.out.set hlt v)
                  have z0 := FR.out.at hlt
                  have z1 := FR.out.fz k
                  go_wp2_with fail
                  go_roundw
                  case rel => exact ⟨k + 1, _, by omega, by go_num, FS.out _⟩
                  case measure => simp [intOf]; omega
                · obtain rfl : k = ws.length := by omega
                  have q0 := (PR2.out.ext.trans FR.out.ext).cell PR.out.c0
                  have p0 := FR.out.ext.cell PR2.out.c0
                  go_wp2_with fail
                  refine (law07_same (PR.out.mem.ext (PR2.out.ext.trans FR.out.ext)) (PR.out.doc.ext (PR2.out.ext.trans FR.out.ext))).mono ?_
                  rintro e w9 ⟨rfl, x9⟩
                  replace p0 := x9.cell p0
                  go_wp2_with fail
                  refine (law07_same (PR2.out.mem.ext (FR.out.ext.trans x9)) (PR2.out.doc.ext (FR.out.ext.trans x9))).mono ?_
                  rintro e w10 ⟨rfl, x10⟩
                  go_wp2_with fail
                  refine (mem_All (PR.out.mem.ext (PR2.out.ext.trans (FR.out.ext.trans (x9.trans x10))))).mono ?_
                  rintro e w11 ⟨a11, c11, rfl, hn11, x11⟩
                  go_wp2_with fail
                  refine (ref03_Same ws ws true (by simp) hn11.row (FR.out.all.ext (x9.trans (x10.trans x11))) (by unfold maxLen; omega) (by unfold maxLen; omega)).mono ?_
                  rintro e w12 ⟨rfl, x12⟩
                  have X := Lib.hid (PR.out.ext.trans (PR2.out.ext.trans (FR.out.ext.trans (x9.trans (x10.trans (x11.trans x12))))))
                  clear x9 x10 x11 x12 hn11 q0 p0
                  go_wp2_with fail
                  have NZ : Hid (NoMem (w12.alloc (.cells #[.slice none 0 0, .slice none 0 0] 58)) (some ⟨w12.heap.size, 0, none⟩)) := Lib.hid (.inr ⟨w12.heap.size, rfl, cell_newN w12 _ _ 0, cell_newN w12 _ _ 1⟩)
                  replace X := Lib.hid (X.out.alloc (.cells #[.slice none 0 0, .slice none 0 0] 58))
                  generalize w12.alloc (.cells #[.slice none 0 0, .slice none 0 0] 58) = w13 at *
                  generalize w12.heap.size = zz at *
                  refine (mem_Load_nil (p := none) (.inl rfl)).mono ?_
                  rintro e w14 ⟨rfl, x⟩
                  replace NZ := Lib.hid (NZ.out.ext x); replace X := Lib.hid (X.out.trans x)
                  clear x
                  go_wp2_with fail
                  refine (mem_Words_nil NZ.out).mono ?_
                  rintro e w15 ⟨rfl, x⟩
                  replace NZ := Lib.hid (NZ.out.ext x); replace X := Lib.hid (X.out.trans x)
                  clear x
                  go_wp2_with fail
                  refine (mem_Store_nil (p := none) (.inl rfl)).mono ?_
                  rintro e w16 ⟨rfl, x⟩
                  replace NZ := Lib.hid (NZ.out.ext x); replace X := Lib.hid (X.out.trans x)
                  clear x
                  go_wp2_with fail
                  refine (mem_Zero_nil NZ.out).mono ?_
                  rintro e w17 ⟨rfl, x⟩
                  replace NZ := Lib.hid (NZ.out.ext x); replace X := Lib.hid (X.out.trans x)
                  clear x
                  go_wp2_with fail
                  refine (mem_All_nil (p := none) (.inl rfl)).mono ?_
                  rintro e w1018 ⟨rfl, rfl⟩
                  go_wp2_with fail
                  refine (mem_All_nil NZ.out).mono ?_
                  rintro e w1019 ⟨rfl, rfl⟩
                  go_wp2_with fail
                  refine (mem_Copy_nil (p := none) (.inl rfl)).mono ?_
                  rintro e w1020 ⟨rfl, rfl⟩
                  go_wp2_with fail
                  refine (mem_Copy_nil NZ.out).mono ?_
                  rintro e w1021 ⟨rfl, rfl⟩
                  go_wp2_with fail
                  refine (law07_awake _).mono ?_
                  rintro e w30 ⟨rfl, x⟩
                  go_wp2_with fail
                  go_ret
                  exact ⟨rfl, X.out.trans x⟩
    · have H0 := Lib.hid h0
      have H2 := Lib.hid (show kcheck c = 2 by rcases kcheck_01 c with e | e; exact absurd e h0; exact e)
      clear h0
      go_enter Try.func6, Try.ntmps6
      go_wp2_with fail
      try clear b0 b1 b2 b3 b4 b5
      refine (law07_great c false HG.out (H.out.ext (hx.trans h1))).mono ?_
      rintro e w3 ⟨rfl, h2⟩
      replace h1 := h1.trans h2
      clear h2
      obtain ⟨b0, b1, b2, b3, b4, b5⟩ := box6 h1
      go_wp2_with fail
      try clear b0 b1 b2 b3 b4 b5
      refine (ref06_Check c 2 H2.out (H.out.ext (hx.trans h1))).mono ?_
      rintro e w4 ⟨rfl, h2⟩
      replace h1 := h1.trans h2
      clear h2
      obtain ⟨b0, b1, b2, b3, b4, b5⟩ := box6 h1
      go_wp2_with fail
      try clear b0 b1 b2 b3 b4 b5
      refine (law07_awake _).mono ?_
      rintro e w8 ⟨rfl, x8⟩
      go_wp2_with fail
      go_ret
      exact ⟨rfl, hx.trans (h1.trans x8)⟩
  · have HG := Lib.hid hg
    clear hg
    go_enter Try.func6, Try.ntmps6
    go_wp2_with fail
    try clear b0 b1 b2 b3 b4 b5
    refine (law07_great c true HG.out (H.out.ext (hx.trans h1))).mono ?_
    rintro e w5 ⟨rfl, h2⟩
    replace h1 := h1.trans h2
    clear h2
    obtain ⟨b0, b1, b2, b3, b4, b5⟩ := box6 h1
    go_wp2_with fail
    try clear b0 b1 b2 b3 b4 b5
    refine (law07_awake _).mono ?_
    rintro e w8 ⟨rfl, x8⟩
    go_wp2_with fail
    go_ret
    exact ⟨rfl, hx.trans (h1.trans x8)⟩

end Go.Proofs.Yteopbobhphghhaa
