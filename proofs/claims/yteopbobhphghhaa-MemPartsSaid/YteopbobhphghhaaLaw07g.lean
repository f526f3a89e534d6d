/-
  The walk of commonagelaw07.MemParts.
-/
import Derived.Test.YteopbobhphghhaaLaw07c
import Derived.Test.YteopbobhphghhaaMemL
namespace Go.Proofs.Yteopbobhphghhaa
open Go.RowKit

/-- Two memories of the same words. -/
structure TwoM (w0 : World) (b gw gb b2 gw2 gb2 : Nat) (c : Conf) (ws ws2 : List Int) (wr : World) : Prop where
  one : MemAt wr b gw gb c ws
  two : MemAt wr b2 gw2 gb2 c ws2
  ext : Ext w0 wr
  l1 : w0.heap.size ≤ gw
  l2 : w0.heap.size ≤ gw2
  n1 : b2 ≠ gw ∧ gw2 ≠ gw ∧ gb2 ≠ gw
  n2 : b ≠ gw2 ∧ gw ≠ gw2 ∧ gb ≠ gw2
theorem TwoM.go {w0 wr w' : World} {b gw gb b2 gw2 gb2 : Nat} {c : Conf} {ws ws2 : List Int} (h : TwoM w0 b gw gb b2 gw2 gb2 c ws ws2 wr) (hx : Ext wr w') : TwoM w0 b gw gb b2 gw2 gb2 c ws ws2 w' :=
  ⟨h.one.ext hx, h.two.ext hx, h.ext.trans hx, h.l1, h.l2, h.n1, h.n2⟩
theorem TwoM.first {w0 wr w' : World} {b gw gb b2 gw2 gb2 : Nat} {c : Conf} {ws ws2 ws' : List Int} (h : TwoM w0 b gw gb b2 gw2 gb2 c ws ws2 wr) (hc : Chg (isB gw) wr w') (hm : MemAt w' b gw gb c ws') : TwoM w0 b gw gb b2 gw2 gb2 c ws' ws2 w' :=
  ⟨hm, h.two.chg hc (by unfold isB; exact h.n1.1) (by unfold isB; exact h.n1.2.1) (by unfold isB; exact h.n1.2.2), hc.over h.ext fun k hk => by unfold isB at hk; rw [hk]; exact h.l1, h.l1, h.l2, h.n1, h.n2⟩
theorem TwoM.second {w0 wr w' : World} {b gw gb b2 gw2 gb2 : Nat} {c : Conf} {ws ws2 ws' : List Int} (h : TwoM w0 b gw gb b2 gw2 gb2 c ws ws2 wr) (hc : Chg (isB gw2) wr w') (hm : MemAt w' b2 gw2 gb2 c ws') : TwoM w0 b gw gb b2 gw2 gb2 c ws ws' w' :=
  ⟨h.one.chg hc (by unfold isB; exact h.n2.1) (by unfold isB; exact h.n2.2.1) (by unfold isB; exact h.n2.2.2), hm, hc.over h.ext fun k hk => by unfold isB at hk; rw [hk]; exact h.l2, h.l1, h.l2, h.n1, h.n2⟩
theorem At.at0 {k : IntKind} {w : World} {g i : Nat} {xs : List Int} (h : At k w (some ⟨g, 0, none⟩) xs) (hi : i < xs.length) : w.cell? ⟨g, i, none⟩ = some (.int k (nth xs i)) := by
  obtain ⟨b, o, e, hc⟩ := h i hi
  cases e
  rwa [Nat.zero_add] at hc
theorem cut_bd {v n : Int} (h0 : 0 ≤ v) (hn : 0 ≤ n) : 0 ≤ v % (n + 1) ∧ v % (n + 1) ≤ n := by
  have h1 := Int.emod_nonneg v (by omega : n + 1 ≠ 0)
  have h2 := Int.emod_lt_of_pos v (by omega : 0 < n + 1)
  omega

set_option maxRecDepth 100000 in
set_option maxHeartbeats 32000000 in
theorem law07_MemParts {ca ta la : Option Addr} {cc tc lc : Nat} (c : Conf) (l : List MAct) (wh t a n v : Int) (w : World) (h : CfgAt w ca ta cc tc c) (hl : MActAt w la l) (hlm : l.length ≤ maxLen) (ha : is64 a) (hn : is64 n) (hv : 0 ≤ v ∧ v < 18446744073709551616) :
    Calls Try.prog 5 #[.agg #[.slice ca c.cl.length cc, .int .i64 c.page, .slice ta c.ts.length tc, .int .i64 c.wk, .int .i64 c.gr, .int .i64 c.gens], .slice la l.length lc, .agg #[.int .u8 wh, .int .i64 t, .int .i64 a, .int .i64 n, .int .u64 v]] w fun e w' => e = .returned (.bool true) ∧ Ext w w' := by
  have h1 := (Ext.refl (w.alloc (.cells #[.slice ca c.cl.length cc, .int .i64 c.page, .slice ta c.ts.length tc, .int .i64 c.wk, .int .i64 c.gr, .int .i64 c.gens] 25))).alloc (.cells #[.int .u8 wh, .int .i64 t, .int .i64 a, .int .i64 n, .int .u64 v] 36)
  have hx := (Ext.refl w).alloc (.cells #[.slice ca c.cl.length cc, .int .i64 c.page, .slice ta c.ts.length tc, .int .i64 c.wk, .int .i64 c.gr, .int .i64 c.gens] 25)
  have BX : Hid (∀ i u, #[Value.int .u8 wh, .int .i64 t, .int .i64 a, .int .i64 n, .int .u64 v][i]? = some u → ((w.alloc (.cells #[.slice ca c.cl.length cc, .int .i64 c.page, .slice ta c.ts.length tc, .int .i64 c.wk, .int .i64 c.gr, .int .i64 c.gens] 25)).alloc (.cells #[.int .u8 wh, .int .i64 t, .int .i64 a, .int .i64 n, .int .u64 v] 36)).cell? ⟨w.heap.size + 1, i, none⟩ = some u) := Lib.hid fun i u hu => by
    have := cell_newN (w.alloc (.cells #[.slice ca c.cl.length cc, .int .i64 c.page, .slice ta c.ts.length tc, .int .i64 c.wk, .int .i64 c.gr, .int .i64 c.gens] 25)) #[.int .u8 wh, .int .i64 t, .int .i64 a, .int .i64 n, .int .u64 v] 36 i
    rw [hu] at this
    rw [show w.heap.size + 1 = (w.alloc (.cells #[.slice ca c.cl.length cc, .int .i64 c.page, .slice ta c.ts.length tc, .int .i64 c.wk, .int .i64 c.gr, .int .i64 c.gens] 25)).heap.size by simp]
    exact this
  have X2 := Lib.hid (Ext.refl ((w.alloc (.cells #[.slice ca c.cl.length cc, .int .i64 c.page, .slice ta c.ts.length tc, .int .i64 c.wk, .int .i64 c.gr, .int .i64 c.gens] 25)).alloc (.cells #[.int .u8 wh, .int .i64 t, .int .i64 a, .int .i64 n, .int .u64 v] 36)))
  have A64 := Lib.hid ha; have N64 := Lib.hid hn
  obtain ⟨v0, v1⟩ := hv
  have H := Lib.hid h; have HL := Lib.hid hl
  unfold maxLen at hlm
  clear h hl ha hn
  cases hg : bigM c
  · have HG := Lib.hid hg
    clear hg
    by_cases h0 : kcheck c = 0
    · have ho := kcheck_ok h0
      have H0 := Lib.hid h0
      have HO := Lib.hid ho
      have t1 := ho.head.2.2.1
      have t8 := ho.head.2.2.2.1
      have tl := ho.total_le
      clear h0 ho
      obtain ⟨b0, b1, b2, b3, b4, b5⟩ := box6 h1
      go_enter Try.func5, Try.ntmps5
      go_wp2_with fail
      try clear b0 b1 b2 b3 b4 b5
      refine (law07_great c false HG.out (H.out.ext (hx.trans h1))).mono ?_
      rintro e wX ⟨rfl, h2⟩
      replace h1 := h1.trans h2
      replace X2 := Lib.hid (X2.out.trans h2)
      clear h2
      obtain ⟨b0, b1, b2, b3, b4, b5⟩ := box6 h1
      go_wp2_with fail
      try clear b0 b1 b2 b3 b4 b5
      refine (ref06_Check c 0 H0.out (H.out.ext (hx.trans h1))).mono ?_
      rintro e wX ⟨rfl, h2⟩
      replace h1 := h1.trans h2
      replace X2 := Lib.hid (X2.out.trans h2)
      clear h2
      obtain ⟨b0, b1, b2, b3, b4, b5⟩ := box6 h1
      go_wp2_with fail
      try clear b0 b1 b2 b3 b4 b5
      refine (mem_New c H0.out (H.out.ext (hx.trans h1))).mono ?_
      rintro e w3 ⟨b, gw, gb, rfl, hm, lb, lg, lgb, x⟩
      have HM := Lib.hid hm
      have LG := Lib.hid (Nat.le_trans X2.out.size lg)
      have LT := Lib.hid hm.lt
      replace h1 := h1.trans x
      replace X2 := Lib.hid (X2.out.trans x)
      clear hm x lb lg lgb
      obtain ⟨b0, b1, b2, b3, b4, b5⟩ := box6 h1
      go_wp2_with fail
      clear b0 b1 b2 b3 b4 b5
      refine (mem_New c H0.out (H.out.ext (hx.trans h1))).mono ?_
      rintro e w4 ⟨b', gw', gb', rfl, hm, lb, lg, lgb, x⟩
      have P0 : Hid (TwoM ((w.alloc (.cells #[.slice ca c.cl.length cc, .int .i64 c.page, .slice ta c.ts.length tc, .int .i64 c.wk, .int .i64 c.gr, .int .i64 c.gens] 25)).alloc (.cells #[.int .u8 wh, .int .i64 t, .int .i64 a, .int .i64 n, .int .u64 v] 36)) b gw gb b' gw' gb' c (List.replicate (totalN c) 0) (List.replicate (totalN c) 0) w4) := Lib.hid (by
        have := LT.out
        exact ⟨HM.out.ext x, hm, X2.out.trans x, LG.out, Nat.le_trans X2.out.size lg, ⟨by omega, by omega, by omega⟩, by omega, by omega, by omega⟩)
      clear hm x lb lg lgb h1 HM LG LT X2
      go_wp2_with fail
      go_loopw [11] (fun kv wr => ∃ (k : Nat) (ws : List Int), k ≤ l.length ∧ k ≤ 40 ∧ kv = .int .i64 k ∧ Hid (TwoM ((w.alloc (.cells #[.slice ca c.cl.length cc, .int .i64 c.page, .slice ta c.ts.length tc, .int .i64 c.wk, .int .i64 c.gr, .int .i64 c.gens] 25)).alloc (.cells #[.int .u8 wh, .int .i64 t, .int .i64 a, .int .i64 n, .int .u64 v] 36)) b gw gb b' gw' gb' c ws ws wr)) (fun kv _ => 40 - (intOf kv).toNat)
      case atStart => exact ⟨0, _, Nat.zero_le _, Nat.zero_le _, rfl, P0⟩
      case round =>
        clear P0
        obtain ⟨k, ws, hk, hk40, rfl, PR⟩ := hrel
        have xw := hx.trans ((Ext.alloc (Ext.refl _) _).trans PR.out.ext)
        rcases (show (k < l.length ∧ k < 40) ∨ (k < l.length ∧ k = 40) ∨ k = l.length by omega) with ⟨hlt, h40⟩ | ⟨hlt, rfl⟩ | rfl
        · obtain ⟨ok, ab, ao, rfl, c0, c1, c2, c3, c4⟩ := HL.out k hlt
          have la0 : ab < w.heap.size := cell_lt c0
          have sz : w.heap.size ≤ ((w.alloc (.cells #[.slice ca c.cl.length cc, .int .i64 c.page, .slice ta c.ts.length tc, .int .i64 c.wk, .int .i64 c.gr, .int .i64 c.gens] 25)).alloc (.cells #[.int .u8 wh, .int .i64 t, .int .i64 a, .int .i64 n, .int .u64 v] 36)).heap.size := ((Ext.refl w).alloc _ |>.alloc _).size
          replace c1 := xw.cell c1; replace c2 := xw.cell c2; replace c4 := xw.cell c4
          generalize mActnth l k = y at *
          obtain ⟨wh', t', a', n', v'⟩ := y
          obtain ⟨ok1, ok2, ok3, ok4, ok5⟩ := ok
          dsimp only at ok1 ok2 ok3 ok4 ok5 c1 c2 c4
          have A64' := Lib.hid (show is64 a' from ok3)
          have n1 : ¬ isB gw ab := by have := PR.out.l1; unfold isB; omega
          have n2 : ¬ isB gw' ab := by have := PR.out.l2; unfold isB; omega
          obtain ⟨ws', kf, hr⟩ : ∃ ws' kf, storeR c ws t' a' v' = (ws', kf) := ⟨_, _, rfl⟩
          have HR := Lib.hid hr
          have hk0 : (0 : Int) ≤ (k : Int) := Int.natCast_nonneg _
          have hk1 : (k : Int) < (l.length : Int) := by omega
          clear hr ok1 ok2 ok3 ok4 ok5 c0 c3 la0 sz xw
          go_wp2_with fail
          go_region_held3 (fun w' => w'.cell? ⟨ab, ao + k * 5 + 1, none⟩ = some (.int .i64 t') ∧ w'.cell? ⟨ab, ao + k * 5 + 2, none⟩ = some (.int .i64 a') ∧ w'.cell? ⟨ab, ao + k * 5 + 4, none⟩ = some (.int .u64 v'))
            ((first | with_reducible exact ⟨d1, d2, d4⟩ | go_keep))
            ((go_at_call 14; refine (mem_Store (PR.out.one.ext (by repeat (first | with_reducible exact Ext.refl _ | with_reducible refine Ext.drew ?_ | with_reducible refine Ext.drewN ?_ _ | with_reducible refine Ext.alloc ?_ _))) A64'.out HR.out).mono ?_; rintro e w6 ⟨rfl, hc6, hm6⟩; have d1 := hc6.cell (p := ⟨ab, ao + k * 5 + 1, none⟩) n1 c1; have d2 := hc6.cell (p := ⟨ab, ao + k * 5 + 2, none⟩) n1 c2; have d4 := hc6.cell (p := ⟨ab, ao + k * 5 + 4, none⟩) n1 c4; have P6 := Lib.hid ((PR.out.go (by repeat (first | with_reducible exact Ext.refl _ | with_reducible refine Ext.drew ?_ | with_reducible refine Ext.drewN ?_ _ | with_reducible refine Ext.alloc ?_ _))).first hc6 hm6)))
          all_goals
            clear hc6 hm6 c1 c2 c4
            go_wp2_with fail
            go_region_held3 (fun w' => w'.cell? ⟨ab, ao + k * 5 + 1, none⟩ = some (.int .i64 t') ∧ w'.cell? ⟨ab, ao + k * 5 + 2, none⟩ = some (.int .i64 a') ∧ w'.cell? ⟨ab, ao + k * 5 + 4, none⟩ = some (.int .u64 v'))
              ((first | with_reducible exact ⟨e1, e2, e4⟩ | go_keep))
              ((go_at_call 14; refine (mem_Store (P6.out.two.ext (by repeat (first | with_reducible exact Ext.refl _ | with_reducible refine Ext.drew ?_ | with_reducible refine Ext.drewN ?_ _ | with_reducible refine Ext.alloc ?_ _))) A64'.out HR.out).mono ?_; rintro e w7 ⟨rfl, hc7, hm7⟩; have e1 := hc7.cell (p := ⟨ab, ao + k * 5 + 1, none⟩) n2 d1; have e2 := hc7.cell (p := ⟨ab, ao + k * 5 + 2, none⟩) n2 d2; have e4 := hc7.cell (p := ⟨ab, ao + k * 5 + 4, none⟩) n2 d4; have P7 := Lib.hid ((P6.out.go (by repeat (first | with_reducible exact Ext.refl _ | with_reducible refine Ext.drew ?_ | with_reducible refine Ext.drewN ?_ _ | with_reducible refine Ext.alloc ?_ _))).second hc7 hm7)))
            all_goals
              clear hc7 hm7
              go_wp2_with fail
              go_roundw
              case rel => exact ⟨k + 1, ws', by omega, by omega, by go_num, P7⟩
              case measure => simp [intOf] <;> omega
        all_goals
          clear hk hk40 xw
          obtain ⟨wm, rfl⟩ : ∃ wm : World, wm = wr := ⟨_, rfl⟩
          have x0 := PR.out.ext.cell (BX.out 0 _ rfl)
          have x1 := PR.out.ext.cell (BX.out 1 _ rfl)
          have x2 := PR.out.ext.cell (BX.out 2 _ rfl)
          have x3 := PR.out.ext.cell (BX.out 3 _ rfl)
          have x4 := PR.out.ext.cell (BX.out 4 _ rfl)
          obtain ⟨kt, hkt⟩ : ∃ kt, regErr c t = kt := ⟨_, rfl⟩
          have KT := Lib.hid hkt
          have HP := Lib.hid PR.out
          clear PR
          go_wp2_with fail
          refine (mem_Words HP.out.one KT.out).mono ?_
          rintro e w5 ⟨sv, rfl, hw, y5⟩
          have HW := Lib.hid hw
          have P5 := Lib.hid (HP.out.go y5)
          replace x1 := y5.cell x1; replace x2 := y5.cell x2; replace x3 := y5.cell x3; replace x4 := y5.cell x4
          clear hw x0 y5
          by_cases hk0 : kt = 0
          · subst hk0
            obtain ⟨i, rfl, hi⟩ : ∃ i : Nat, t = i ∧ i < c.ts.length := by
              have h1 := KT.out
              unfold regErr at h1
              split at h1
              · cases h1
              · exact ⟨t.toNat, by omega, by omega⟩
            obtain ⟨a5, c5, rfl, hn5⟩ := HW.out.got
            have WLN := Lib.hid P5.out.one.len
            have RL := Lib.hid (regionL_len HO.out hi WLN.out)
            have win := HO.out.region_in hi
            obtain ⟨g5, rfl, lo5, hi5, f5⟩ := hn5.own (by rw [RL.out]; exact HO.out.words_pos hi)
            have R5 := Lib.hid hn5.row
            have N5 : Hid (gw ≠ g5 ∧ gw' ≠ g5) := Lib.hid (by have := HP.out.one.lt; have := HP.out.two.lt; omega)
            have wp := HO.out.words_pos hi
            rw [RL.out]
            obtain ⟨ws', kf, hr⟩ : ∃ ws' kf, zeroR c ws i a n = (ws', kf) := ⟨_, _, rfl⟩
            have HR := Lib.hid hr
            clear hn5 HW hkt KT lo5 hi5 f5 HP
            by_cases hf : kf = 0
            · subst hf
              obtain ⟨j, m, rfl, rfl, hj⟩ : ∃ j m : Nat, a = j ∧ n = m ∧ j + m ≤ wordsN c i := by
                have h1 := HR.out
                unfold zeroR at h1
                split at h1
                · rename_i hp
                  obtain ⟨i', j, m, e1, rfl, rfl, hi', hj⟩ := partErr_ok hp
                  obtain rfl : i = i' := by omega
                  exact ⟨j, m, rfl, rfl, hj⟩
                · rename_i hp
                  injection h1 with _ e2
                  exact absurd e2 hp
              have EZ := hr.symm.trans (zeroR_ok hi hj)
              obtain ⟨rfl, _⟩ : ws' = zeroL ws (baseN c i + j) m ∧ True := ⟨by injection EZ, trivial⟩
              clear EZ hr
              go_wp2_with fail
              refine (mem_Zero P5.out.one A64.out N64.out HR.out).mono ?_
              rintro e w6 ⟨rfl, hc6, hm6⟩
              have P6 := Lib.hid (P5.out.first hc6 hm6)
              have nx : ¬ isB gw (w.heap.size + 1) := by have := P5.out.l1; simp at this; unfold isB; omega
              have ny : ¬ isB gw' (w.heap.size + 1) := by have := P5.out.l2; simp at this; unfold isB; omega
              have R6 : Hid (At .u64 w6 (some ⟨g5, 0, none⟩) (regionL c ws i)) := Lib.hid (R5.out.chg hc6 fun b o e _ hb => by cases e; unfold isB at hb; exact N5.out.1 hb.symm)
              replace x1 := hc6.cell (p := ⟨w.heap.size + 1, 1, none⟩) nx x1; replace x2 := hc6.cell (p := ⟨w.heap.size + 1, 2, none⟩) nx x2; replace x3 := hc6.cell (p := ⟨w.heap.size + 1, 3, none⟩) nx x3; replace x4 := hc6.cell (p := ⟨w.heap.size + 1, 4, none⟩) nx x4
              clear hc6 hm6
              obtain ⟨q, hq, hqm⟩ : ∃ q : Nat, v % ((m : Int) + 1) = q ∧ q ≤ m := by
                have := cut_bd (n := (m : Int)) v0 (Int.natCast_nonneg _)
                exact ⟨(v % ((m : Int) + 1)).toNat, by omega, by omega⟩
              have k1 : IntKind.i64.wrap ((m : Int) + 1) = (m : Int) + 1 := IntWalk.i64_in _ (by omega)
              have k2 : IntKind.i64.wrap ((j : Int) + (q : Int)) = (j : Int) + (q : Int) := IntWalk.i64_in _ (by omega)
              have k3 : IntKind.i64.wrap ((m : Int) - (q : Int)) = (m : Int) - (q : Int) := IntWalk.i64_in _ (by omega)
              have k4 : ¬ (m : Int) + 1 = 0 := by omega
              have Z1 := Lib.hid (zeroR_ok (ws := ws) hi (show j + q ≤ wordsN c i by omega))
              have Z2 : Hid (zeroR c (zeroL ws (baseN c i + j) q) i ((j : Int) + (q : Int)) ((m : Int) - (q : Int)) = (zeroL ws (baseN c i + j) m, 0)) := Lib.hid (by
                have h := zeroR_ok (ws := zeroL ws (baseN c i + j) q) hi (show (j + q) + (m - q) ≤ wordsN c i by omega)
                rw [← Nat.add_assoc, zeroL_parts hqm (by rw [WLN.out]; omega)] at h
                rw [show (j : Int) + (q : Int) = ((j + q : Nat) : Int) by omega, show (m : Int) - (q : Int) = ((m - q : Nat) : Int) by omega]
                exact h)
              have Q64 := Lib.hid (show is64 (q : Int) from ⟨by omega, by omega⟩)
              have J64 := Lib.hid (show is64 ((j : Int) + (q : Int)) from ⟨by omega, by omega⟩)
              have M64 := Lib.hid (show is64 ((m : Int) - (q : Int)) from ⟨by omega, by omega⟩)
              go_wp2_with fail
              clear hq k1 k4 x4
              go_region_held3 (fun w' => w'.cell? ⟨w.heap.size + 1, 1, none⟩ = some (.int .i64 i) ∧ w'.cell? ⟨w.heap.size + 1, 2, none⟩ = some (.int .i64 j) ∧ w'.cell? ⟨w.heap.size + 1, 3, none⟩ = some (.int .i64 m))
                ((first | with_reducible exact ⟨d1, d2, d3⟩ | with_reducible exact ⟨e1, e2, e3⟩ | go_keep))
                ((first
                  | (go_at_call 13; refine (mem_Zero (P6.out.two.ext (by repeat (first | with_reducible exact Ext.refl _ | with_reducible refine Ext.drew ?_ | with_reducible refine Ext.drewN ?_ _ | with_reducible refine Ext.alloc ?_ _))) A64.out Q64.out Z1.out).mono ?_; rintro e w7 ⟨rfl, hc7, hm7⟩; have d1 := hc7.cell (p := ⟨w.heap.size + 1, 1, none⟩) ny x1; have d2 := hc7.cell (p := ⟨w.heap.size + 1, 2, none⟩) ny x2; have d3 := hc7.cell (p := ⟨w.heap.size + 1, 3, none⟩) ny x3; have P7 := Lib.hid ((P6.out.go (by repeat (first | with_reducible exact Ext.refl _ | with_reducible refine Ext.drew ?_ | with_reducible refine Ext.drewN ?_ _ | with_reducible refine Ext.alloc ?_ _))).second hc7 hm7); have R7 := Lib.hid ((R6.out.ext (by repeat (first | with_reducible exact Ext.refl _ | with_reducible refine Ext.drew ?_ | with_reducible refine Ext.drewN ?_ _ | with_reducible refine Ext.alloc ?_ _))).chg hc7 fun b o e _ hb => by cases e; unfold isB at hb; exact N5.out.2 hb.symm))
                  | (go_at_call 13; refine (mem_Zero (P7.out.two.ext (by repeat (first | with_reducible exact Ext.refl _ | with_reducible refine Ext.drew ?_ | with_reducible refine Ext.drewN ?_ _ | with_reducible refine Ext.alloc ?_ _))) J64.out M64.out Z2.out).mono ?_; rintro e w8 ⟨rfl, hc8, hm8⟩; have e1 := hc8.cell (p := ⟨w.heap.size + 1, 1, none⟩) ny d1; have e2 := hc8.cell (p := ⟨w.heap.size + 1, 2, none⟩) ny d2; have e3 := hc8.cell (p := ⟨w.heap.size + 1, 3, none⟩) ny d3; have P8 := Lib.hid ((P7.out.go (by repeat (first | with_reducible exact Ext.refl _ | with_reducible refine Ext.drew ?_ | with_reducible refine Ext.drewN ?_ _ | with_reducible refine Ext.alloc ?_ _))).second hc8 hm8); have R8 := Lib.hid ((R7.out.ext (by repeat (first | with_reducible exact Ext.refl _ | with_reducible refine Ext.drew ?_ | with_reducible refine Ext.drewN ?_ _ | with_reducible refine Ext.alloc ?_ _))).chg hc8 fun b o e _ hb => by cases e; unfold isB at hb; exact N5.out.2 hb.symm))))
              all_goals
                clear hc7 hm7 hc8 hm8 x1 x2 x3 d1 d2 d3 k2 k3 Z1 Z2 Q64 J64 M64 P7 R7
                have RE := Lib.hid (regErr_ok hi)
                have RZ := Lib.hid (regionL_len HO.out hi P8.out.one.len)
                go_wp2_with fail
                refine (mem_Words P8.out.one RE.out).mono ?_
                rintro e w9 ⟨sv9, rfl, hw9, x9⟩
                obtain ⟨a9, c9, rfl, hn9⟩ := hw9.got
                obtain ⟨g9, rfl, lo9, hi9, f9⟩ := hn9.own (by rw [RZ.out]; exact wp)
                have R9 := Lib.hid hn9.row
                have P9 := Lib.hid (P8.out.go x9)
                have R9b := Lib.hid (R8.out.ext x9)
                replace e2 := x9.cell e2; replace e3 := x9.cell e3
                rw [RZ.out]
                clear hw9 hn9 x9 lo9 hi9 f9 e1 P8 R8
                go_wp2_with fail
                go_loopw [22] (fun kv wq => ∃ s : Nat, s ≤ wordsN c i ∧ kv = .int .i64 s ∧ Ext w9 wq) (fun kv _ => wordsN c i - (intOf kv).toNat)
                case atStart => exact ⟨0, Nat.zero_le _, rfl, Ext.refl _⟩
                case round =>
                  obtain ⟨s, hs, rfl, h9⟩ := hrel
                  have X := Lib.hid h9
                  replace e2 := h9.cell e2; replace e3 := h9.cell e3
                  clear h9
                  by_cases hst : s < wordsN c i
                  · have z1 := (R9.out.ext X.out).at0 (by rw [RZ.out]; exact hst)
                    have z2 := (R9b.out.ext X.out).at0 (by rw [RL.out]; exact hst)
                    rw [nth_region_zero HO.out hi WLN.out hj hst] at z1
                    have k5 : IntKind.i64.wrap ((j : Int) + (m : Int)) = (j : Int) + (m : Int) := IntWalk.i64_in _ (by omega)
                    have hs0 : (0 : Int) ≤ (s : Int) := Int.natCast_nonneg _
                    have hs1 : (s : Int) < (wordsN c i : Int) := by omega
                    by_cases hin : j ≤ s ∧ s < j + m
                    · rw [if_pos hin] at z1
                      have u1 : decide (j ≤ s) = true := by simpa using hin.1
                      have u2 : decide ((s : Int) < (j : Int) + (m : Int)) = true := by simp; omega
                      clear hin
                      go_wp2_with fail
                      go_quiet (fail)
                      go_wp2_with fail
                      go_roundw
                      case rel => exact ⟨s + 1, by omega, by go_num, X.out.drewN _⟩
                      case measure => simp [intOf]; omega
                    · rw [if_neg hin] at z1
                      by_cases hjs : j ≤ s
                      · have u1 : decide (j ≤ s) = true := by simpa using hjs
                        have u2 : decide ((s : Int) < (j : Int) + (m : Int)) = false := by simp; omega
                        clear hin hjs
                        go_wp2_with fail
                        go_quiet (fail)
                        go_wp2_with fail
                        go_roundw
                        case rel => exact ⟨s + 1, by omega, by go_num, X.out.drewN _⟩
                        case measure => simp [intOf]; omega
                      · have u1 : decide (j ≤ s) = false := by simpa using hjs
                        clear hin hjs
                        go_wp2_with fail
                        go_quiet (fail)
                        go_wp2_with fail
                        go_roundw
                        case rel => exact ⟨s + 1, by omega, by go_num, X.out.drewN _⟩
                        case measure => simp [intOf]; omega
                  · obtain rfl : s = wordsN c i := by omega
                    have HM1 := Lib.hid (P9.out.one.ext X.out)
                    have HM2 := Lib.hid (P9.out.two.ext X.out)
                    have WM : (zeroL ws (baseN c i + j) m).length ≤ maxLen := by rw [P9.out.one.len]; unfold maxLen; omega
                    have WM' := Lib.hid WM
                    clear WM
                    go_wp2_with fail
                    refine (mem_All HM1.out).mono ?_
                    rintro e w10 ⟨a10, c10, rfl, hn10, x10⟩
                    go_wp2_with fail
                    refine (mem_All (HM2.out.ext x10)).mono ?_
                    rintro e w11 ⟨a11, c11, rfl, hn11, x11⟩
                    go_wp2_with fail
                    refine (ref03_Same _ _ true (by simp) (hn10.row.ext x11) hn11.row WM'.out WM'.out).mono ?_
                    rintro e w12 ⟨rfl, x12⟩
                    have XF := Lib.hid (hx.trans ((Ext.alloc (Ext.refl _) _).trans (P9.out.ext.trans (X.out.trans (x10.trans (x11.trans x12))))))
                    clear hn10 hn11 x10 x11 x12
                    go_wp2_with fail
                    refine (law07_awake _).mono ?_
                    rintro e w13 ⟨rfl, x13⟩
                    go_wp2_with fail
                    go_ret
                    exact ⟨rfl, XF.out.trans x13⟩
            · obtain rfl := zeroR_no hr hf
              have e1 : (kf != 0) = true := by simpa using hf
              have e4 : kf = 4 := by
                have h := HR.out
                unfold zeroR at h
                rcases partErr_in hi a n with g | g
                · rw [if_pos g] at h; injection h with _ e; exact absurd e.symm hf
                · rw [if_neg (by omega)] at h; injection h with _ e; omega
              subst e4
              clear hf hr e1
              go_wp2_with fail
              refine (mem_Zero P5.out.one A64.out N64.out HR.out).mono ?_
              rintro e w6 ⟨rfl, hc6, hm6⟩
              have P6 := Lib.hid (P5.out.first hc6 hm6)
              have nx : ¬ isB gw (w.heap.size + 1) := by have := P5.out.l1; simp at this; unfold isB; omega
              have R6 : Hid (At .u64 w6 (some ⟨g5, 0, none⟩) (regionL c ws' i)) := Lib.hid (R5.out.chg hc6 fun b o e _ hb => by cases e; unfold isB at hb; exact N5.out.1 hb.symm)
              have RE := Lib.hid (regErr_ok hi)
              replace x1 := hc6.cell (p := ⟨w.heap.size + 1, 1, none⟩) nx x1
              clear hc6 hm6 x2 x3 x4
              go_wp2_with fail
              refine (mem_Words P6.out.one RE.out).mono ?_
              rintro e w7 ⟨sv7, rfl, hw7, x7⟩
              obtain ⟨a7, c7, rfl, hn7⟩ := hw7.got
              have CS1 : Hid (Calls Try.prog 16 #[.slice a7 (regionL c ws' i).length c7, .slice (some ⟨g5, 0, none⟩) (wordsN c i) c5] w7 fun e w' => e = .returned (.bool true) ∧ Ext w7 w') := Lib.hid (by
                have := ref03_Same (ca := c7) (cb := c5) (regionL c ws' i) (regionL c ws' i) true (by simp) hn7.row (R6.out.ext x7) (by rw [RL.out]; unfold maxLen; omega) (by rw [RL.out]; unfold maxLen; omega)
                rwa [show Value.slice (some ⟨g5, 0, none⟩) (regionL c ws' i).length c5 = .slice (some ⟨g5, 0, none⟩) (wordsN c i) c5 by rw [RL.out]] at this)
              clear hw7 hn7
              go_wp2_with fail
              refine CS1.out.mono ?_
              rintro e w8 ⟨rfl, x8⟩
              have XF := Lib.hid (hx.trans ((Ext.alloc (Ext.refl _) _).trans (P6.out.ext.trans (x7.trans x8))))
              clear x7 x8
              go_wp2_with fail
              refine (law07_awake _).mono ?_
              rintro e w13 ⟨rfl, x13⟩
              go_wp2_with fail
              go_ret
              exact ⟨rfl, XF.out.trans x13⟩
          · obtain ⟨rfl, hr⟩ := regErr_zero (ws := ws) (a := a) (n := n) KT.out hk0
            have HR := Lib.hid hr
            clear hr hkt hk0
            obtain rfl := HW.out.none (by decide)
            go_wp2_with fail
            refine (mem_Zero P5.out.one A64.out N64.out HR.out).mono ?_
            rintro e w6 ⟨rfl, hc6, hm6⟩
            have P6 := Lib.hid (P5.out.first hc6 hm6)
            have XF := Lib.hid (hx.trans ((Ext.alloc (Ext.refl _) _).trans P6.out.ext))
            clear hc6 hm6
            go_wp2_with fail
            refine (law07_awake _).mono ?_
            rintro e w13 ⟨rfl, x13⟩
            go_wp2_with fail
            go_ret
            exact ⟨rfl, XF.out.trans x13⟩
    · have H2 := Lib.hid (show kcheck c = 2 by rcases kcheck_01 c with e | e; exact absurd e h0; exact e)
      clear h0
      obtain ⟨b0, b1, b2, b3, b4, b5⟩ := box6 h1
      go_enter Try.func5, Try.ntmps5
      go_wp2_with fail
      try clear b0 b1 b2 b3 b4 b5
      refine (law07_great c false HG.out (H.out.ext (hx.trans h1))).mono ?_
      rintro e wX ⟨rfl, h2⟩
      replace h1 := h1.trans h2
      replace X2 := Lib.hid (X2.out.trans h2)
      clear h2
      obtain ⟨b0, b1, b2, b3, b4, b5⟩ := box6 h1
      go_wp2_with fail
      try clear b0 b1 b2 b3 b4 b5
      refine (ref06_Check c 2 H2.out (H.out.ext (hx.trans h1))).mono ?_
      rintro e wX ⟨rfl, h2⟩
      replace h1 := h1.trans h2
      replace X2 := Lib.hid (X2.out.trans h2)
      clear h2
      obtain ⟨b0, b1, b2, b3, b4, b5⟩ := box6 h1
      go_wp2_with fail
      try clear b0 b1 b2 b3 b4 b5
      refine (law07_awake _).mono ?_
      rintro e w8 ⟨rfl, x8⟩
      go_wp2_with fail
      go_ret
      exact ⟨rfl, hx.trans (h1.trans x8)⟩
  · have HG := Lib.hid hg
    clear hg
    obtain ⟨b0, b1, b2, b3, b4, b5⟩ := box6 h1
    go_enter Try.func5, Try.ntmps5
    go_wp2_with fail
    refine (law07_great c true HG.out (H.out.ext (hx.trans h1))).mono ?_
    rintro e wX ⟨rfl, h2⟩
    replace h1 := h1.trans h2
    clear h2 b0 b1 b2 b3 b4 b5
    go_wp2_with fail
    refine (law07_awake _).mono ?_
    rintro e w8 ⟨rfl, x8⟩
    go_wp2_with fail
    go_ret
    exact ⟨rfl, hx.trans (h1.trans x8)⟩

end Go.Proofs.Yteopbobhphghhaa
