/-
  The walk of commonagelaw07.MemApart.
-/
import Derived.Test.YteopbobhphghhaaLaw07c
import Derived.Test.YteopbobhphghhaaMemL
namespace Go.Proofs.Yteopbobhphghhaa
open Go.RowKit

/-- A row of slices that grows: what each region's words were. -/
structure WasR (w0 : World) (c : Conf) (ws : List Int) (k : Nat) (sv : Value) (vs : List Value) (wr : World) : Prop where
  ok : KOk c
  len : ws.length = totalN c
  own : wr.ownsRow w0.heap.size 38 1 sv k vs
  rows : ∀ t, t < k → t < c.ts.length ∧ ∃ g rc, vs[t]? = some (.slice (some ⟨g, 0, none⟩) (wordsN c t) rc) ∧ w0.heap.size ≤ g ∧ g < wr.heap.size ∧ At .u64 wr (some ⟨g, 0, none⟩) (regionL c ws t)
  ext : Ext w0 wr
  nil0 : k = 0 → sv = .slice none 0 0
theorem WasR.go {w0 wr w' : World} {c : Conf} {ws : List Int} {k : Nat} {sv : Value} {vs : List Value} (h : WasR w0 c ws k sv vs wr) (hx : Ext wr w') : WasR w0 c ws k sv vs w' :=
  ⟨h.ok, h.len, own_ext h.own hx, fun t ht => by
    obtain ⟨h0, g, rc, h1, h2, h3, h4⟩ := h.rows t ht
    exact ⟨h0, g, rc, h1, h2, Nat.lt_of_lt_of_le h3 hx.size, h4.ext hx⟩, h.ext.trans hx, h.nil0⟩
theorem WasR.ne {w0 wr : World} {c : Conf} {ws : List Int} {k g : Nat} {sv : Value} {vs : List Value} {x : Int} (h : WasR w0 c ws k sv vs wr) (hc : wr.cell? ⟨g, 0, none⟩ = some (.int .u64 x)) : some g ≠ sv.ownBlock := by
  refine own_slice_ne h.own h.nil0 (fun v hv => ?_) hc
  rcases Nat.eq_zero_or_pos k with hk | hk
  · obtain ⟨hl, _⟩ := h.own
    have := (List.getElem?_eq_some_iff.1 hv).1
    omega
  · obtain ⟨_, g, rc, e, _⟩ := h.rows 0 hk
    rw [hv] at e
    exact ⟨_, _, _, by injection e⟩
theorem WasR.push {w0 w3 W w4 : World} {c : Conf} {ws : List Int} {k g rc : Nat} {sv V : Value} {vs : List Value} (h : WasR w0 c ws k sv vs w3) (hx : Ext w3 W) (hg : W.grownBy w4 sv.ownBlock)
    (hown : w4.ownsRow w0.heap.size 38 1 V (k + 1) (vs ++ [.slice (some ⟨g, 0, none⟩) (wordsN c k) rc])) (lo : w0.heap.size ≤ g) (hr : At .u64 W (some ⟨g, 0, none⟩) (regionL c ws k)) (hk : k < c.ts.length) :
    WasR w0 c ws (k + 1) V (vs ++ [.slice (some ⟨g, 0, none⟩) (wordsN c k) rc]) w4 := by
  have hW := h.go hx
  have hl : vs.length = k := by have := h.own.1; omega
  have keep : ∀ g' xs, 0 < xs.length → At .u64 W (some ⟨g', 0, none⟩) xs → At .u64 w4 (some ⟨g', 0, none⟩) xs ∧ g' < w4.heap.size := by
    intro g' xs h0 ha
    obtain ⟨b0, o0, e0, c0⟩ := ha 0 h0
    cases e0
    have ng := hW.ne c0
    refine ⟨fun i hi => ?_, cell_lt (grow_cell hg (Ext.refl W) c0 ng)⟩
    obtain ⟨b1, o1, e1, c1⟩ := ha i hi
    cases e1
    exact ⟨g', 0, rfl, grow_cell hg (Ext.refl W) c1 ng⟩
  have pos : ∀ t, t < c.ts.length → 0 < (regionL c ws t).length := fun t ht => by rw [regionL_len h.ok ht h.len]; exact h.ok.words_pos ht
  refine ⟨h.ok, h.len, hown, fun t ht => ?_, (h.ext.trans hx).grown hg fun k' e => (h.own.lt k' e).1, fun e => by omega⟩
  rcases Nat.lt_or_ge t k with ht | ht
  · obtain ⟨h0, g', rc', h1, h2, h3, h4⟩ := hW.rows t ht
    have := keep g' _ (pos t h0) h4
    exact ⟨h0, g', rc', by rw [List.getElem?_append_left (by omega)]; exact h1, h2, this.2, this.1⟩
  · obtain rfl : t = k := by omega
    have := keep g _ (pos t hk) hr
    exact ⟨hk, g, rc, by rw [← hl]; simp, lo, this.2, this.1⟩
theorem WasR.doc {P : Nat → Prop} {w0 wr : World} {c : Conf} {ws : List Int} {sv : Value} {vs : List Value} (h : WasR w0 c ws c.ts.length sv vs wr) (hP : ∀ k, P k → k < w0.heap.size) :
    ∃ d cap, sv = .slice (some ⟨d, 0, none⟩) c.ts.length cap ∧ DocAt P wr d c ws := by
  obtain ⟨d, cap, rfl, hd, _⟩ := h.own.form (by have := h.ok.head.2.2.1; omega)
  refine ⟨d, cap, rfl, h.ok, h.len, fun q => by have := hP _ q; omega, fun t ht => ?_⟩
  obtain ⟨_, g, rc, h1, h2, h3, h4⟩ := h.rows t ht
  exact ⟨g, rc, fun q => by have := hP _ q; omega, by rw [h.own.cellAt _ (by omega)]; exact h1, h4⟩

set_option maxRecDepth 100000 in
set_option maxHeartbeats 32000000 in
theorem law07_MemApart {ca ta la : Option Addr} {cc tc lc : Nat} (c : Conf) (tn : Int) (l : List MAct) (w : World) (htn : 0 ≤ tn ∧ tn ≤ 255) (h : CfgAt w ca ta cc tc c) (hl : MActAt w la l) (hlm : l.length ≤ maxLen) :
    Calls Try.prog 3 #[.agg #[.slice ca c.cl.length cc, .int .i64 c.page, .slice ta c.ts.length tc, .int .i64 c.wk, .int .i64 c.gr, .int .i64 c.gens], .int .u8 tn, .slice la l.length lc] w fun e w' => e = .returned (.bool true) ∧ Ext w w' := by
  obtain ⟨i0, hi0, hz0, hz1, hz2⟩ := info_parts info_rows
  have h1 := Ext.refl (w.alloc (.cells #[.slice ca c.cl.length cc, .int .i64 c.page, .slice ta c.ts.length tc, .int .i64 c.wk, .int .i64 c.gr, .int .i64 c.gens] 25))
  have hx := (Ext.refl w).alloc (.cells #[.slice ca c.cl.length cc, .int .i64 c.page, .slice ta c.ts.length tc, .int .i64 c.wk, .int .i64 c.gr, .int .i64 c.gens] 25)
  obtain ⟨t0, t255⟩ := htn
  have tm := h.tm
  have H := Lib.hid h; have HL := Lib.hid hl
  unfold maxLen at hlm tm
  clear h hl
  cases hg : bigM c
  · have HG := Lib.hid hg
    clear hg
    by_cases h0 : kcheck c = 0
    · have ho := kcheck_ok h0
      have H0 := Lib.hid h0
      have HO := Lib.hid ho
      have t1 := ho.head.2.2.1
      have t8 := ho.head.2.2.2.1
      have tl := ho.total_le
      obtain ⟨i, hmod, hi⟩ := mod_nat (tn := tn) t1
      clear h0 ho
      go_enter Try.func3, Try.ntmps3
      go_wp2_with fail
      try clear b0 b1 b2 b3 b4 b5
      refine (law07_great c false HG.out (H.out.ext (hx.trans h1))).mono ?_
      rintro e w1 ⟨rfl, h2⟩
      replace h1 := h1.trans h2
      clear h2
      obtain ⟨b0, b1, b2, b3, b4, b5⟩ := box6 h1
      go_wp2_with fail
      try clear b0 b1 b2 b3 b4 b5
      refine (ref06_Check c 0 H0.out (H.out.ext (hx.trans h1))).mono ?_
      rintro e w2 ⟨rfl, h2⟩
      replace h1 := h1.trans h2
      clear h2
      obtain ⟨b0, b1, b2, b3, b4, b5⟩ := box6 h1
      go_wp2_with fail
      try clear b0 b1 b2 b3 b4 b5
      refine (mem_New c H0.out (H.out.ext (hx.trans h1))).mono ?_
      rintro e w3 ⟨b, gw, gb, rfl, hm, lb, lg, lgb, x⟩
      have LG := Lib.hid (Nat.le_trans (hx.trans h1).size lg)
      have CS : Hid ((w.alloc (.cells #[.slice ca c.cl.length cc, .int .i64 c.page, .slice ta c.ts.length tc, .int .i64 c.wk, .int .i64 c.gr, .int .i64 c.gens] 25)).heap.size ≤ gw) := Lib.hid (Nat.le_trans h1.size lg)
      replace h1 := h1.trans x
      have HM := Lib.hid hm
      clear hm x lb lg lgb
      obtain ⟨b0, b1, b2, b3, b4, b5⟩ := box6 h1
      go_wp2_with fail
      clear b0 b1 b2 b3 b4 b5
      rw [hmod]
      clear hmod
      go_loopw [10] (fun kv wr => ∃ (k : Nat) (ws : List Int), k ≤ l.length ∧ k ≤ 40 ∧ kv = .int .i64 k ∧ Hid (MemAt wr b gw gb c ws) ∧ Ext (w.alloc (.cells #[.slice ca c.cl.length cc, .int .i64 c.page, .slice ta c.ts.length tc, .int .i64 c.wk, .int .i64 c.gr, .int .i64 c.gens] 25)) wr) (fun kv _ => 40 - (intOf kv).toNat)
      case atStart => exact ⟨0, _, Nat.zero_le _, Nat.zero_le _, rfl, HM, h1⟩
      case round =>
        clear HM h1
        obtain ⟨k, ws, hk, hk40, rfl, HM, h1⟩ := hrel
        rcases (show (k < l.length ∧ k < 40) ∨ (k < l.length ∧ k = 40) ∨ k = l.length by omega) with ⟨hlt, h40⟩ | ⟨hlt, rfl⟩ | rfl
        · obtain ⟨ok, ab, ao, rfl, c0, c1, c2, c3, c4⟩ := HL.out k hlt
          have x0 := hx.trans h1
          replace c0 := x0.cell c0; replace c1 := x0.cell c1; replace c2 := x0.cell c2; replace c3 := x0.cell c3; replace c4 := x0.cell c4
          generalize mActnth l k = y at *
          obtain ⟨wh, tt, a, n, v⟩ := y
          obtain ⟨ok1, ok2, ok3, ok4, ok5⟩ := ok
          dsimp only at ok1 ok2 ok3 ok4 ok5 c0 c1 c2 c3 c4
          have A64 := Lib.hid (show is64 a from ok3); have N64 := Lib.hid (show is64 n from ok4)
          obtain ⟨wh0, wh255⟩ := ok1
          have WLN := Lib.hid HM.out.len
          have d40 : decide ((k : Int) < 40) = true := by simp; omega
          clear x0 ok2 ok3 ok4 ok5
          go_wp2_with fail
          have xb := (Ext.refl wr).alloc (.cells #[.int .u8 wh, .int .i64 tt, .int .i64 a, .int .i64 n, .int .u64 v] 36)
          have BX : Hid (∀ i u, #[Value.int .u8 wh, .int .i64 tt, .int .i64 a, .int .i64 n, .int .u64 v][i]? = some u → (wr.alloc (.cells #[.int .u8 wh, .int .i64 tt, .int .i64 a, .int .i64 n, .int .u64 v] 36)).cell? ⟨wr.heap.size, i, none⟩ = some u) := Lib.hid fun i u hu => by
            rw [cell_newN]; exact hu
          have XC := Lib.hid (h1.trans xb)
          have LM := Lib.hid (Nat.lt_of_lt_of_le HM.out.lt.2.1 xb.size)
          have LX := Lib.hid (show wr.heap.size < (wr.alloc (.cells #[.int .u8 wh, .int .i64 tt, .int .i64 a, .int .i64 n, .int .u64 v] 36)).heap.size by simp)
          have GX := Lib.hid (HM.out.lt.2.1)
          replace HM := Lib.hid (HM.out.ext xb)
          clear h1 xb c0 c1 c2 c3 c4
          generalize wr.heap.size = zx at *
          generalize wr.alloc (.cells #[.int .u8 wh, .int .i64 tt, .int .i64 a, .int .i64 n, .int .u64 v] 36) = w0 at *
          have W0 : Hid (WasR w0 c ws 0 (.slice none 0 0) [] w0) := Lib.hid ⟨HO.out, HM.out.len, World.ownsRow_nil _ _ _ _, fun _ ht => absurd ht (Nat.not_lt_zero _), Ext.refl _, fun _ => rfl⟩
          go_loopw [12, 13] (fun sv kv wq => ∃ (j : Nat) (vs : List Value), j ≤ c.ts.length ∧ kv = .int .i64 j ∧ Hid (WasR w0 c ws j sv vs wq)) (fun _ kv _ => c.ts.length - (intOf kv).toNat)
          case atStart => exact ⟨0, _, Nat.zero_le _, rfl, W0⟩
          case round =>
            clear W0
            obtain ⟨j, vs, hj, rfl, WR⟩ := hrel
            by_cases hjt : j < c.ts.length
            · obtain ⟨b0, b1, b2, b3, b4, b5⟩ := box6 (XC.out.trans WR.out.ext)
              have RE := Lib.hid (regErr_ok hjt)
              have RL := Lib.hid (regionL_len HO.out hjt WLN.out)
              have WP := HO.out.words_pos hjt
              have win := HO.out.region_in hjt
              go_wp2_with fail
              clear b0 b1 b2 b3 b4 b5
              refine (mem_Words (HM.out.ext WR.out.ext) RE.out).mono ?_
              rintro e w4 ⟨sv2, rfl, hw, x4⟩
              obtain ⟨a2, c2, rfl, hn⟩ := hw.got
              obtain ⟨g2, rfl, lo2, hi2, f2⟩ := hn.own (by rw [RL.out]; exact WP)
              have HR2 := Lib.hid hn.row
              have WR2 := Lib.hid (WR.out.go x4)
              have G2 := Lib.hid (Nat.le_trans WR.out.ext.size lo2)
              have S4 := WR2.out.ext.size
              rw [RL.out]
              clear hw hn x4 lo2 hi2 f2 WR
              go_wp2_with (at_builtin; refine wpList_append_lies _ rfl (.tmp 74) (.tmp 76) 37 rfl w0.heap.size 38 i0 (.slice none 0 0) 1 24 Try.underlying37 hi0 hz0 hz1 hz2 rfl (by decide) u12 j vs rfl (own_ext WR2.out.own ((Ext.refl _).alloc _)) ⟨w4.heap.size, 0, none⟩ 1 1 [.slice (some ⟨g2, 0, none⟩) (wordsN c j) c2] rfl rfl (newsb _ _ rfl) (one1 rfl) (by decide) (by unfold maxLen; omega) (by omega) (by simp; omega) (w4.heap.size + 1) (by simp) ?_; intro gg cap w5 hown hgrow hat hlt5; have WR5 := Lib.hid (WR2.out.push ((Ext.refl _).alloc _) hgrow hown G2.out (HR2.out.ext ((Ext.refl _).alloc _)) hjt); clear hown hgrow hat hlt5)
              go_roundw
              case rel => exact ⟨j + 1, _, by omega, by go_num, WR5⟩
              case measure => simp [intOf]; omega
            · obtain rfl : j = c.ts.length := by omega
              obtain ⟨d, dc, rfl, hd⟩ := WR.out.doc (P := isB gw) (fun k hk => by unfold isB at hk; rw [hk]; exact LM.out)
              obtain ⟨wm, rfl⟩ : ∃ wm : World, wm = wr := ⟨_, rfl⟩
              have HD := Lib.hid hd
              have X0 := Lib.hid WR.out.ext
              have HMm := Lib.hid (HM.out.ext X0.out)
              obtain ⟨b0, b1, b2, b3, b4, b5⟩ := box6 (XC.out.trans X0.out)
              have q0 := X0.out.cell (BX.out 0 _ rfl)
              have q2 := X0.out.cell (BX.out 2 _ rfl)
              have q3 := X0.out.cell (BX.out 3 _ rfl)
              have q4 := X0.out.cell (BX.out 4 _ rfl)
              clear hd WR HM
              have nx : ¬ isB gw zx := by have := GX.out; unfold isB; omega
              obtain ⟨y, hy⟩ : ∃ y, wh % 4 = y := ⟨_, rfl⟩
              have FIN : Hid (∀ (w9 : World), Chg (isB gw) wm w9 → Ext (w.alloc (.cells #[.slice ca c.cl.length cc, .int .i64 c.page, .slice ta c.ts.length tc, .int .i64 c.wk, .int .i64 c.gr, .int .i64 c.gens] 25)) w9) := Lib.hid fun w9 hc => hc.over (XC.out.trans X0.out) fun k hk => by unfold isB at hk; rw [hk]; exact CS.out
              by_cases y3 : y = 3
              · subst y3
                obtain ⟨ws', kf, hr⟩ : ∃ ws' kf, zeroR c ws i a n = (ws', kf) := ⟨_, _, rfl⟩
                have HR := Lib.hid hr
                have FAR : Hid (∀ s, s < c.ts.length → (s ≠ i ∨ kf ≠ 0) → regionL c ws' s = regionL c ws s) := Lib.hid fun s hs hne => zeroR_far HO.out hs WLN.out hr hne
                clear hr
                go_wp2_with fail
                refine (mem_Zero HMm.out A64.out N64.out HR.out).mono ?_
                rintro e w9 ⟨rfl, hc9, hm9⟩
                have HM9 := Lib.hid hm9
                have HD9 := Lib.hid (HD.out.chg hc9 fun _ h => h)
                have X9 := Lib.hid (FIN.out w9 hc9)
                clear hc9 hm9 q0 q2 q3 q4 hy b0 b1 b2 b3 b4 b5
                go_wp2_with fail
                clear FIN
                go_loopw [19] (fun kv wq => ∃ s : Nat, s ≤ c.ts.length ∧ kv = .int .i64 s ∧ Ext w9 wq) (fun kv _ => c.ts.length - (intOf kv).toNat)
                case atStart => exact ⟨0, Nat.zero_le _, rfl, Ext.refl _⟩
                case round =>
                  obtain ⟨s, hs, rfl, h9⟩ := hrel
                  have X := Lib.hid h9
                  clear h9
                  obtain ⟨b0, b1, b2, b3, b4, b5⟩ := box6 (X9.out.trans X.out)
                  by_cases hst : s < c.ts.length
                  · have RE := Lib.hid (regErr_ok hst)
                    have RL := Lib.hid (regionL_len HO.out hst WLN.out)
                    have RL9 := Lib.hid (regionL_len HO.out hst HM9.out.len)
                    have win := HO.out.region_in hst
                    obtain ⟨g, rc, g0⟩ := HD9.out.row s hst
                    have GR := Lib.hid g0
                    clear g0
                    go_wp2_with fail
                    clear b0 b1 b2 b3 b4 b5
                    refine (mem_Words (HM9.out.ext X.out) RE.out).mono ?_
                    rintro e w10 ⟨sv2, rfl, hw, x10⟩
                    obtain ⟨a2, c2, rfl, hn⟩ := hw.got
                    have HR2 := Lib.hid hn.row
                    replace X := Lib.hid (X.out.trans x10)
                    rw [RL9.out]
                    clear hw hn x10
                    have z1 := X.out.cell GR.out.2.1
                    by_cases hc0 : s = i ∧ kf = 0
                    · obtain ⟨e1, e2⟩ := hc0
                      have u1 : ((s : Int) != (i : Int)) = false := by simp [e1]
                      have u2 : (kf != 0) = false := by simp [e2]
                      clear e1 e2
                      go_wp2_with fail
                      go_roundw
                      case rel => exact ⟨s + 1, by omega, by go_num, X.out⟩
                      case measure => simp [intOf]; omega
                    · have E9 := FAR.out s hst (by omega)
                      have HS := Lib.hid (show At .u64 w10 a2 (regionL c ws s) by have := HR2.out; rwa [E9] at this)
                      have CS1 : Hid (Calls Try.prog 16 #[.slice a2 (wordsN c s) c2, .slice (some ⟨g, 0, none⟩) (wordsN c s) rc] w10 fun e w' => e = .returned (.bool true) ∧ Ext w10 w') := Lib.hid (by
                        have := ref03_Same (ca := c2) (cb := rc) (regionL c ws s) (regionL c ws s) true (by simp) HS.out (GR.out.2.2.ext X.out) (by rw [RL.out]; unfold maxLen; omega) (by rw [RL.out]; unfold maxLen; omega)
                        rwa [RL.out] at this)
                      clear E9
                      by_cases hsi : s = i
                      · have u1 : ((s : Int) != (i : Int)) = false := by simp [hsi]
                        have u2 : (kf != 0) = true := by simp; exact fun e => hc0 ⟨hsi, e⟩
                        clear hsi hc0
                        go_wp2_with fail
                        refine CS1.out.mono ?_
                        rintro e w11 ⟨rfl, x11⟩
                        go_wp2_with fail
                        go_roundw
                        case rel => exact ⟨s + 1, by omega, by go_num, X.out.trans x11⟩
                        case measure => simp [intOf]; omega
                      · have u1 : ((s : Int) != (i : Int)) = true := by simp; omega
                        clear hsi hc0
                        go_wp2_with fail
                        refine CS1.out.mono ?_
                        rintro e w11 ⟨rfl, x11⟩
                        go_wp2_with fail
                        go_roundw
                        case rel => exact ⟨s + 1, by omega, by go_num, X.out.trans x11⟩
                        case measure => simp [intOf]; omega
                  · obtain rfl : s = c.ts.length := by omega
                    go_wp2_with fail
                    go_roundw
                    case rel => exact ⟨k + 1, ws', by omega, by omega, by go_num, HM9.out.ext X.out, X9.out.trans X.out⟩
                    case measure => simp [intOf] <;> omega
              · have u3 : (y == 3) = false := by simpa using y3
                obtain ⟨ws', kf, hr⟩ : ∃ ws' kf, storeR c ws i a v = (ws', kf) := ⟨_, _, rfl⟩
                have HR := Lib.hid hr
                obtain ⟨v2, hl2, hv2⟩ := load_stored HO.out WLN.out hr
                have HL2 := Lib.hid hl2
                have FAR : Hid (∀ s, s < c.ts.length → (s ≠ i ∨ kf ≠ 0) → regionL c ws' s = regionL c ws s) := Lib.hid fun s hs hne => storeR_far HO.out hs WLN.out hr hne
                clear hr hl2 y3
                go_wp2_with fail
                refine (mem_Store HMm.out A64.out HR.out).mono ?_
                rintro e w8 ⟨rfl, hc8, hm8⟩
                have HM8 := Lib.hid hm8
                have HD8 := Lib.hid (HD.out.chg hc8 fun _ h => h)
                have X8 := Lib.hid (FIN.out w8 hc8)
                have Q4 := Lib.hid (hc8.cell nx q4)
                replace q2 := hc8.cell nx q2
                clear hc8 hm8 q0 q3 q4 hy b0 b1 b2 b3 b4 b5
                go_wp2_with fail
                refine (mem_Load v2 kf HM8.out A64.out HL2.out).mono ?_
                rintro e w9 ⟨rfl, x9⟩
                have HM9 := Lib.hid (HM8.out.ext x9)
                have HD9 := Lib.hid (HD8.out.ext x9)
                have X9 := Lib.hid (X8.out.trans x9)
                have q4 := x9.cell Q4.out
                clear q2 HM8 HD8 X8 Q4 x9
                by_cases hk0 : kf = 0
                · have e2 := hv2 hk0
                  subst e2
                  have e1 : (kf == 0) = true := by simp [hk0]
                  clear hv2 hk0
                  go_wp2_with fail
                  clear FIN
                  go_loopw [19] (fun kv wq => ∃ s : Nat, s ≤ c.ts.length ∧ kv = .int .i64 s ∧ Ext w9 wq) (fun kv _ => c.ts.length - (intOf kv).toNat)
                  case atStart => exact ⟨0, Nat.zero_le _, rfl, Ext.refl _⟩
                  case round =>
                    obtain ⟨s, hs, rfl, h9⟩ := hrel
                    have X := Lib.hid h9
                    clear h9
                    obtain ⟨b0, b1, b2, b3, b4, b5⟩ := box6 (X9.out.trans X.out)
                    by_cases hst : s < c.ts.length
                    · have RE := Lib.hid (regErr_ok hst)
                      have RL := Lib.hid (regionL_len HO.out hst WLN.out)
                      have RL9 := Lib.hid (regionL_len HO.out hst HM9.out.len)
                      have win := HO.out.region_in hst
                      obtain ⟨g, rc, g0⟩ := HD9.out.row s hst
                      have GR := Lib.hid g0
                      clear g0
                      go_wp2_with fail
                      clear b0 b1 b2 b3 b4 b5
                      refine (mem_Words (HM9.out.ext X.out) RE.out).mono ?_
                      rintro e w10 ⟨sv2, rfl, hw, x10⟩
                      obtain ⟨a2, c2, rfl, hn⟩ := hw.got
                      have HR2 := Lib.hid hn.row
                      replace X := Lib.hid (X.out.trans x10)
                      rw [RL9.out]
                      clear hw hn x10
                      have z1 := X.out.cell GR.out.2.1
                      by_cases hc0 : s = i ∧ kf = 0
                      · obtain ⟨e1, e2⟩ := hc0
                        have u1 : ((s : Int) != (i : Int)) = false := by simp [e1]
                        have u2 : (kf != 0) = false := by simp [e2]
                        clear e1 e2
                        go_wp2_with fail
                        go_roundw
                        case rel => exact ⟨s + 1, by omega, by go_num, X.out⟩
                        case measure => simp [intOf]; omega
                      · have E9 := FAR.out s hst (by omega)
                        have HS := Lib.hid (show At .u64 w10 a2 (regionL c ws s) by have := HR2.out; rwa [E9] at this)
                        have CS1 : Hid (Calls Try.prog 16 #[.slice a2 (wordsN c s) c2, .slice (some ⟨g, 0, none⟩) (wordsN c s) rc] w10 fun e w' => e = .returned (.bool true) ∧ Ext w10 w') := Lib.hid (by
                          have := ref03_Same (ca := c2) (cb := rc) (regionL c ws s) (regionL c ws s) true (by simp) HS.out (GR.out.2.2.ext X.out) (by rw [RL.out]; unfold maxLen; omega) (by rw [RL.out]; unfold maxLen; omega)
                          rwa [RL.out] at this)
                        clear E9
                        by_cases hsi : s = i
                        · have u1 : ((s : Int) != (i : Int)) = false := by simp [hsi]
                          have u2 : (kf != 0) = true := by simp; exact fun e => hc0 ⟨hsi, e⟩
                          clear hsi hc0
                          go_wp2_with fail
                          refine CS1.out.mono ?_
                          rintro e w11 ⟨rfl, x11⟩
                          go_wp2_with fail
                          go_roundw
                          case rel => exact ⟨s + 1, by omega, by go_num, X.out.trans x11⟩
                          case measure => simp [intOf]; omega
                        · have u1 : ((s : Int) != (i : Int)) = true := by simp; omega
                          clear hsi hc0
                          go_wp2_with fail
                          refine CS1.out.mono ?_
                          rintro e w11 ⟨rfl, x11⟩
                          go_wp2_with fail
                          go_roundw
                          case rel => exact ⟨s + 1, by omega, by go_num, X.out.trans x11⟩
                          case measure => simp [intOf]; omega
                    · obtain rfl : s = c.ts.length := by omega
                      go_wp2_with fail
                      go_roundw
                      case rel => exact ⟨k + 1, ws', by omega, by omega, by go_num, HM9.out.ext X.out, X9.out.trans X.out⟩
                      case measure => simp [intOf] <;> omega
                · have e1 : (kf == 0) = false := by simpa using hk0
                  clear hv2 hk0
                  go_wp2_with fail
                  clear FIN
                  go_loopw [19] (fun kv wq => ∃ s : Nat, s ≤ c.ts.length ∧ kv = .int .i64 s ∧ Ext w9 wq) (fun kv _ => c.ts.length - (intOf kv).toNat)
                  case atStart => exact ⟨0, Nat.zero_le _, rfl, Ext.refl _⟩
                  case round =>
                    obtain ⟨s, hs, rfl, h9⟩ := hrel
                    have X := Lib.hid h9
                    clear h9
                    obtain ⟨b0, b1, b2, b3, b4, b5⟩ := box6 (X9.out.trans X.out)
                    by_cases hst : s < c.ts.length
                    · have RE := Lib.hid (regErr_ok hst)
                      have RL := Lib.hid (regionL_len HO.out hst WLN.out)
                      have RL9 := Lib.hid (regionL_len HO.out hst HM9.out.len)
                      have win := HO.out.region_in hst
                      obtain ⟨g, rc, g0⟩ := HD9.out.row s hst
                      have GR := Lib.hid g0
                      clear g0
                      go_wp2_with fail
                      clear b0 b1 b2 b3 b4 b5
                      refine (mem_Words (HM9.out.ext X.out) RE.out).mono ?_
                      rintro e w10 ⟨sv2, rfl, hw, x10⟩
                      obtain ⟨a2, c2, rfl, hn⟩ := hw.got
                      have HR2 := Lib.hid hn.row
                      replace X := Lib.hid (X.out.trans x10)
                      rw [RL9.out]
                      clear hw hn x10
                      have z1 := X.out.cell GR.out.2.1
                      by_cases hc0 : s = i ∧ kf = 0
                      · obtain ⟨e1, e2⟩ := hc0
                        have u1 : ((s : Int) != (i : Int)) = false := by simp [e1]
                        have u2 : (kf != 0) = false := by simp [e2]
                        clear e1 e2
                        go_wp2_with fail
                        go_roundw
                        case rel => exact ⟨s + 1, by omega, by go_num, X.out⟩
                        case measure => simp [intOf]; omega
                      · have E9 := FAR.out s hst (by omega)
                        have HS := Lib.hid (show At .u64 w10 a2 (regionL c ws s) by have := HR2.out; rwa [E9] at this)
                        have CS1 : Hid (Calls Try.prog 16 #[.slice a2 (wordsN c s) c2, .slice (some ⟨g, 0, none⟩) (wordsN c s) rc] w10 fun e w' => e = .returned (.bool true) ∧ Ext w10 w') := Lib.hid (by
                          have := ref03_Same (ca := c2) (cb := rc) (regionL c ws s) (regionL c ws s) true (by simp) HS.out (GR.out.2.2.ext X.out) (by rw [RL.out]; unfold maxLen; omega) (by rw [RL.out]; unfold maxLen; omega)
                          rwa [RL.out] at this)
                        clear E9
                        by_cases hsi : s = i
                        · have u1 : ((s : Int) != (i : Int)) = false := by simp [hsi]
                          have u2 : (kf != 0) = true := by simp; exact fun e => hc0 ⟨hsi, e⟩
                          clear hsi hc0
                          go_wp2_with fail
                          refine CS1.out.mono ?_
                          rintro e w11 ⟨rfl, x11⟩
                          go_wp2_with fail
                          go_roundw
                          case rel => exact ⟨s + 1, by omega, by go_num, X.out.trans x11⟩
                          case measure => simp [intOf]; omega
                        · have u1 : ((s : Int) != (i : Int)) = true := by simp; omega
                          clear hsi hc0
                          go_wp2_with fail
                          refine CS1.out.mono ?_
                          rintro e w11 ⟨rfl, x11⟩
                          go_wp2_with fail
                          go_roundw
                          case rel => exact ⟨s + 1, by omega, by go_num, X.out.trans x11⟩
                          case measure => simp [intOf]; omega
                    · obtain rfl : s = c.ts.length := by omega
                      go_wp2_with fail
                      go_roundw
                      case rel => exact ⟨k + 1, ws', by omega, by omega, by go_num, HM9.out.ext X.out, X9.out.trans X.out⟩
                      case measure => simp [intOf] <;> omega
        · go_wp2_with fail
          refine (law07_awake _).mono ?_
          rintro e w8 ⟨rfl, x8⟩
          go_wp2_with fail
          go_ret
          exact ⟨rfl, hx.trans (h1.trans x8)⟩
        · go_wp2_with fail
          refine (law07_awake _).mono ?_
          rintro e w8 ⟨rfl, x8⟩
          go_wp2_with fail
          go_ret
          exact ⟨rfl, hx.trans (h1.trans x8)⟩
    · have H2 := Lib.hid (show kcheck c = 2 by rcases kcheck_01 c with e | e; exact absurd e h0; exact e)
      clear h0
      go_enter Try.func3, Try.ntmps3
      go_wp2_with fail
      try clear b0 b1 b2 b3 b4 b5
      refine (law07_great c false HG.out (H.out.ext (hx.trans h1))).mono ?_
      rintro e w3 ⟨rfl, h2⟩
      replace h1 := h1.trans h2
      clear h2
      obtain ⟨b0, b1, b2, b3, b4, b5⟩ := box6 h1
      go_wp2_with fail
      try clear b0 b1 b2 b3 b4 b5
      refine (ref06_Check c 2 H2.out (H.out.ext (hx.trans h1))).mono ?_
      rintro e w4 ⟨rfl, h2⟩
      replace h1 := h1.trans h2
      clear h2
      obtain ⟨b0, b1, b2, b3, b4, b5⟩ := box6 h1
      go_wp2_with fail
      try clear b0 b1 b2 b3 b4 b5
      refine (law07_awake _).mono ?_
      rintro e w8 ⟨rfl, x8⟩
      go_wp2_with fail
      go_ret
      exact ⟨rfl, hx.trans (h1.trans x8)⟩
  · have HG := Lib.hid hg
    clear hg
    go_enter Try.func3, Try.ntmps3
    go_wp2_with fail
    try clear b0 b1 b2 b3 b4 b5
    refine (law07_great c true HG.out (H.out.ext (hx.trans h1))).mono ?_
    rintro e w5 ⟨rfl, h2⟩
    replace h1 := h1.trans h2
    clear h2
    obtain ⟨b0, b1, b2, b3, b4, b5⟩ := box6 h1
    go_wp2_with fail
    try clear b0 b1 b2 b3 b4 b5
    refine (law07_awake _).mono ?_
    rintro e w8 ⟨rfl, x8⟩
    go_wp2_with fail
    go_ret
    exact ⟨rfl, hx.trans (h1.trans x8)⟩

end Go.Proofs.Yteopbobhphghhaa
