/-
  Merged texts: Ref10b, Law10a, Law10b, Law10c, Law10d.
-/
import Derived.Test.YtlhajoamebfniaaDoorG10
import Derived.Deep.RegionHeld3
import Derived.Test.YtlhajoamebfniaaDoorG03
import Derived.Test.YtlhajoamebfniaaDoorG13
set_option linter.unusedVariables false
set_option linter.unusedSimpArgs false
/-! commonageref10: GiveAll, New. -/
namespace Go.Proofs.YtlhajoamebfniaaDoor
open Go.RowKit
variable {P : Nat → Prop} {w w' : World} {lb lc fb fc mb mc cc t qc rc : Nat} {ca qa ra : Option Addr} {c : Conf} {bs bs' r : List Bool}

/-- What GiveAll's loop has done of i slots. -/
def glTo (bs r : List Bool) (i : Nat) : List Bool := (List.range bs.length).map fun j => bnth bs j && !(decide (j < i) && bnth r j)
theorem glTo_len (bs r : List Bool) (i : Nat) : (glTo bs r i).length = bs.length := by unfold glTo; simp
theorem glTo_nth (bs r : List Bool) (i j : Nat) : bnth (glTo bs r i) j = (bnth bs j && !(decide (j < i) && bnth r j)) := by
  by_cases h : j < bs.length
  · unfold glTo bnth; simp [List.getD, h]
  · rw [bnth_out (by rw [glTo_len]; omega), bnth_out (bs := bs) (by omega)]; rfl
theorem glTo_zero (bs r : List Bool) : glTo bs r 0 = bs := bext (glTo_len _ _ _) fun j _ => by rw [glTo_nth]; simp
theorem glTo_all (bs r : List Bool) : glTo bs r bs.length = bless bs r := bext (by rw [glTo_len, bless_len]) fun j hj => by
  rw [glTo_len] at hj
  rw [glTo_nth, bless_nth]; simp [hj]
theorem glTo_step {bs r : List Bool} {i : Nat} (h : i < bs.length) : (glTo bs r i).set i (bnth bs i && !bnth r i) = glTo bs r (i + 1) := bext (by rw [List.length_set, glTo_len, glTo_len]) fun j _ => by
  rw [bnth_set (by rw [glTo_len]; exact h), glTo_nth, glTo_nth]
  by_cases e : j = i
  · subst e; simp
  · rw [if_neg e]
    have : decide (j < i + 1) = decide (j < i) := by
      by_cases g : j < i
      · rw [decide_eq_true g, decide_eq_true (by omega)]
      · rw [decide_eq_false g, decide_eq_false (by omega)]
    rw [this]
theorem glTo_at (bs r : List Bool) (i : Nat) : bnth (glTo bs r i) i = bnth bs i := by rw [glTo_nth]; simp

set_option maxRecDepth 100000 in
set_option maxHeartbeats 8000000 in
theorem ref10_GiveAll {k : Int} (h : DArn P w lb fb mb ca c t qa bs) (hP : ∀ k, P k → k < w.heap.size) (hra : BAt w ra r) (hrl : r.length = bs.length) (hr : giveAllR bs r = (bs', k)) :
    Calls Tryd.prog 62 #[dav lb lc fb fc mb mc ca cc c t qa bs.length qc, .slice ra r.length rc] w (DMade P qa lb lc fb fc mb mc ca cc c t bs' [.int .i64 k] w) := by
  obtain ⟨i0, hi0, hz0, hz1, hz2⟩ := info_parts info_bool
  have nb := h.plan.ok.nS_le h.plan.ti
  have hq64 : bs.length ≤ 16384 := by rw [h.len]; exact nb
  have H := Lib.hid h; have HP := Lib.hid hP
  unfold dav
  obtain ⟨z, hz⟩ : ∃ z, w.heap.size = z := ⟨_, rfl⟩
  have HZ := Lib.hid hz
  have tw := two6 w [.slice (some ⟨lb, 0, none⟩) (nS c t) lc, .slice (some ⟨fb, 0, none⟩) (nG c t) fc, .slice (some ⟨mb, 0, none⟩) (nG c t) mc, .int .i64 (wordsOf c t), .slice ca c.cl.length cc, .slice qa bs.length qc] [.slice none 0 0, .slice none 0 0, .slice none 0 0, .int .i64 0, .slice none 0 0, .slice none 0 0] 53 53 hz
  obtain ⟨W0, hW0⟩ : ∃ W0, (w.alloc (.cells #[.slice (some ⟨lb, 0, none⟩) (nS c t) lc, .slice (some ⟨fb, 0, none⟩) (nG c t) fc, .slice (some ⟨mb, 0, none⟩) (nG c t) mc, .int .i64 (wordsOf c t), .slice ca c.cl.length cc, .slice qa bs.length qc] 53)).alloc (.cells #[.slice none 0 0, .slice none 0 0, .slice none 0 0, .int .i64 0, .slice none 0 0, .slice none 0 0] 53) = W0 := ⟨_, rfl⟩
  change Two6 w ((w.alloc (.cells #[_, _, _, _, _, _] _)).alloc (.cells #[_, _, _, _, _, _] _)) z _ _ at tw
  rw [hW0] at tw
  have TW := Lib.hid tw
  have v0 := tw.v 0 _ rfl; have v1 := tw.v 1 _ rfl; have v2 := tw.v 2 _ rfl; have v3 := tw.v 3 _ rfl; have v4 := tw.v 4 _ rfl; have v5 := tw.v 5 _ rfl
  have rz0 := tw.u 0 _ rfl; have rz1 := tw.u 1 _ rfl; have rz2 := tw.u 2 _ rfl; have rz3 := tw.u 3 _ rfl; have rz4 := tw.u 4 _ rfl; have rz5 := tw.u 5 _ rfl
  have f0 := tw.fz 0; have f1 := tw.fz 1; have f2 := tw.fz 2; have f3 := tw.fz 3; have f4 := tw.fz 4; have f5 := tw.fz 5
  have SZ := Lib.hid tw.size
  have bz : z < W0.heap.size := cell_lt v0
  have bz1 : z + 1 < W0.heap.size := cell_lt rz0
  have hx := tw.ext
  have HM := Lib.hid (show bs.length ≤ maxLen by unfold maxLen; omega)
  have HR := Lib.hid hr
  rw [hrl]
  have RL := Lib.hid hrl
  have HRA := Lib.hid (hra.ext hx)
  have hpos := H.out.plan.ok.nS_pos H.out.plan.ti
  have hbp : 0 < bs.length := by rw [H.out.len]; omega
  obtain ⟨gq, oq, rfl, hcells⟩ := H.out.row.pos hbp
  have HNW := Lib.hid (bcs_news (fun i hi => hx.cell (hcells i hi)))
  obtain ⟨gr, og, rfl, rcells⟩ := hra.pos (by omega)
  have RC := Lib.hid (fun i (hi : i < bs.length) => hx.cell (rcells i (by omega)))
  have tb : ((bs.length : Int) != (bs.length : Int)) = false := by simp
  have tb2 : (bs.length != bs.length) = false := by simp
  clear h hP tw hr hrl hra hcells rcells hpos
  go_enter Tryd.func62, Tryd.ntmps62
  go_wp2_with (at_builtin; (refine wpList_append_own _ rfl (.tmp 15) (.tmp 17) 31 rfl W0.heap.size 4 i0 (.bool false) 1 1 Tryd.underlying31 hi0 hz0 hz1 hz2 rfl (by decide) (.slice (some ⟨W0.heap.size, 0, none⟩) 0 0) 0 [] rfl (World.ownsRow_made _ #[] 0 (Nat.le_refl _) (by decide) rfl) ⟨gq, oq, none⟩ bs.length qc (bcs bs) rfl (by rw [bcs_len, Nat.mul_one]) (fun j u hj => cell_alloc (HNW.out j u hj) _) (bcs_one _) (by rw [Nat.zero_add]; exact HM.out) (by omega) (by simp) ?_; intro v' w1 hown hgrow hnil; rw [Nat.zero_add, List.nil_append] at hown; obtain ⟨a', c', rfl, hnb⟩ := newBits_of hown; have hx1 := grown_alloc hgrow (Ext.refl W0); obtain ⟨g', rfl, g1, g2, g3⟩ := hnb.own (by omega); have HB := Lib.hid hnb.row; have g6 := hnb.cap1; have g7 := hnb.cap2; have X1 := Lib.hid hx1; have FZ := Lib.hid g3; have sz := SZ.out; have zg : z + 2 ≤ g' := (by omega); have gl := g2; clear sz hnb hown hgrow hnil g3 hx1 v0 v1 v2 v3 v4 v5 rz0 rz1 rz2 rz3 rz4 rz5 f0 f1 f2 f3 f4 f5))
  have LX : Hid (BAt w1 (some ⟨g', 0, none⟩) bs) := HB
  go_loopw [7] (fun iv wr => ∃ i : Nat, i ≤ bs.length ∧ iv = .int .i64 i ∧ Hid (BAt wr (some ⟨g', 0, none⟩) (glTo bs r i)) ∧ Hid (∀ j, j < i → bnth r j = true → bnth bs j = true) ∧ Hid (Chg (fun k => k = g') w1 wr) ∧ Hid (∀ o, wr.frozen? ⟨g', o, none⟩ = false)) (fun iv _ => bs.length - (intOf iv).toNat)
  case atStart => exact ⟨0, Nat.zero_le _, rfl, Lib.hid (by rw [glTo_zero]; exact LX.out), Lib.hid fun j hj => absurd hj (Nat.not_lt_zero _), Lib.hid (Chg.refl _ _), FZ⟩
  case round =>
    obtain ⟨n, hi, rfl, HG, HA, HC, HF⟩ := hrel
    have e2 : Ext W0 wr := HC.out.over X1.out (fun k e => by omega)
    obtain ⟨_, vv, uu, ff⟩ := TW.out.go e2
    have X2 := Lib.hid (hx.trans e2)
    have v0 := vv 0 _ rfl; have v1 := vv 1 _ rfl; have v2 := vv 2 _ rfl; have v3 := vv 3 _ rfl; have v4 := vv 4 _ rfl; have v5 := vv 5 _ rfl; have rz0 := uu 0 _ rfl; have rz1 := uu 1 _ rfl; have rz2 := uu 2 _ rfl; have rz3 := uu 3 _ rfl; have rz4 := uu 4 _ rfl; have rz5 := uu 5 _ rfl; have f0 := ff 0; have f1 := ff 1; have f2 := ff 2; have f3 := ff 3; have f4 := ff 4; have f5 := ff 5
    clear vv uu ff
    by_cases hn : n < bs.length
    · have hrk := e2.cell (RC.out n hn)
      have hck : wr.cell? ⟨g', n, none⟩ = some (.bool (bnth bs n)) := by
        obtain ⟨x, y, e, hc⟩ := HG.out n (by rw [glTo_len]; exact hn)
        cases e
        rw [Nat.zero_add, glTo_at] at hc; exact hc
      have fz : wr.frozen? ⟨g', n, none⟩ = false := HF.out n
      have GS := Lib.hid (glTo_step (r := r) hn)
      have E2 := Lib.hid e2
      clear e2
      cases hbr : bnth r n
      · rw [hbr] at hrk GS
        have BR := Lib.hid hbr
        clear hbr
        cases hb : bnth bs n
        · rw [hb] at hck GS
          clear hb
          go_wp2_with fail
          go_roundw
          case rel => exact ⟨n + 1, by omega, by go_num, Lib.hid (by rw [← GS.out]; exact HG.out.set (by rw [glTo_len]; exact hn) _), Lib.hid (fun j hj hr => by
            rcases Nat.lt_or_ge j n with g | g
            · exact HA.out j g hr
            · obtain rfl : j = n := by omega
              rw [BR.out] at hr; cases hr), Lib.hid (HC.out.setCell (p := ⟨g', n, none⟩) (.inl rfl) _), Lib.hid (fun o => by rw [World.frozen?_setCell]; exact HF.out o)⟩
          case measure => simp [intOf]; omega
        · rw [hb] at hck GS
          clear hb
          go_wp2_with fail
          go_roundw
          case rel => exact ⟨n + 1, by omega, by go_num, Lib.hid (by rw [← GS.out]; exact HG.out.set (by rw [glTo_len]; exact hn) _), Lib.hid (fun j hj hr => by
            rcases Nat.lt_or_ge j n with g | g
            · exact HA.out j g hr
            · obtain rfl : j = n := by omega
              rw [BR.out] at hr; cases hr), Lib.hid (HC.out.setCell (p := ⟨g', n, none⟩) (.inl rfl) _), Lib.hid (fun o => by rw [World.frozen?_setCell]; exact HF.out o)⟩
          case measure => simp [intOf]; omega
      · rw [hbr] at hrk GS
        have BR := Lib.hid hbr
        clear hbr
        cases hb : bnth bs n
        · rw [hb] at hck GS
          have BB := Lib.hid hb
          clear hb
          obtain ⟨rfl, rfl⟩ : bs = bs' ∧ 9 = k := by
            have h := HR.out
            unfold giveAllR at h
            rw [if_neg (fun hh => by have := hh n hn BR.out; rw [BB.out] at this; cases this)] at h
            cases h; exact ⟨rfl, rfl⟩
          go_wp2_with fail
          obtain ⟨⟨q0, q1, q2, q3, q4, q5⟩, qc6⟩ := set6 (.slice (some ⟨lb, 0, none⟩) (nS c t) lc) (.slice (some ⟨fb, 0, none⟩) (nG c t) fc) (.slice (some ⟨mb, 0, none⟩) (nG c t) mc) (.int .i64 (wordsOf c t)) (.slice ca c.cl.length cc) (.slice (some ⟨gq, oq, none⟩) bs.length qc) rz0 rz1 rz2 rz3 rz4 rz5 _ rfl
          refine bodyPost_ret (v := .tuple #[.agg #[.slice (some ⟨lb, 0, none⟩) (nS c t) lc, .slice (some ⟨fb, 0, none⟩) (nG c t) fc, .slice (some ⟨mb, 0, none⟩) (nG c t) mc, .int .i64 (wordsOf c t), .slice ca c.cl.length cc, .slice (some ⟨gq, oq, none⟩) bs.length qc], .int .i64 9]) (by simp [results, Tryd.results62, go_sem, q0, q1, q2, q3, q4, q5]) rfl ⟨_, _, rfl, H.out.made X2.out qc6 (by omega) (H.out.row.ext X2.out) (fun x o e => ⟨H.out.nq x o e, by have := H.out.lt.2.2.2.2 x o e; omega⟩) (rfl), qc6.over X2.out (fun k e => by omega), fun x o e => .inl ⟨_, e⟩⟩
        · have BT := Lib.hid hb
          rw [hb] at hck GS
          clear hb
          go_wp2_with fail
          go_roundw
          case rel => exact ⟨n + 1, by omega, by go_num, Lib.hid (by rw [← GS.out]; exact HG.out.set (by rw [glTo_len]; exact hn) _), Lib.hid (fun j hj hr => by
            rcases Nat.lt_or_ge j n with g | g
            · exact HA.out j g hr
            · obtain rfl : j = n := by omega
              exact BT.out), Lib.hid (HC.out.setCell (p := ⟨g', n, none⟩) (.inl rfl) _), Lib.hid (fun o => by rw [World.frozen?_setCell]; exact HF.out o)⟩
          case measure => simp [intOf]; omega
    · obtain rfl : n = bs.length := by omega
      obtain ⟨rfl, rfl⟩ : bless bs r = bs' ∧ 0 = k := by
        have h := HR.out
        unfold giveAllR at h
        rw [if_pos (fun i h1 h2 => HA.out i h1 h2)] at h
        cases h; exact ⟨rfl, rfl⟩
      have HG2 := Lib.hid (glTo_all bs r ▸ HG.out)
      go_wp2_with fail
      obtain ⟨⟨q0, q1, q2, q3, q4, q5⟩, qc6⟩ := set6 (.slice (some ⟨lb, 0, none⟩) (nS c t) lc) (.slice (some ⟨fb, 0, none⟩) (nG c t) fc) (.slice (some ⟨mb, 0, none⟩) (nG c t) mc) (.int .i64 (wordsOf c t)) (.slice ca c.cl.length cc) (.slice (some ⟨g', 0, none⟩) bs.length c') rz0 rz1 rz2 rz3 rz4 rz5 _ rfl
      refine bodyPost_ret (v := .tuple #[.agg #[.slice (some ⟨lb, 0, none⟩) (nS c t) lc, .slice (some ⟨fb, 0, none⟩) (nG c t) fc, .slice (some ⟨mb, 0, none⟩) (nG c t) mc, .int .i64 (wordsOf c t), .slice ca c.cl.length cc, .slice (some ⟨g', 0, none⟩) bs.length c'], .int .i64 0]) (by simp [results, Tryd.results62, go_sem, q0, q1, q2, q3, q4, q5]) rfl ⟨_, _, by rw [bless_len], H.out.made X2.out qc6 (by omega) (HG2.out) (fun x o e => by cases e; exact ⟨fun hp => by have := HP.out _ hp; omega, by omega⟩) (bless_len ..), qc6.over X2.out (fun k e => by omega), fun x o e => by cases e; exact .inr (by omega)⟩

/-- What New hands back. -/
def DNew (P : Nat → Prop) (lb lc fb fc mb mc : Nat) (ca : Option Addr) (cc : Nat) (c : Conf) (t : Nat) (w : World) (e : Ending) (w' : World) : Prop :=
  ∃ qa qc, e = .returned (dav lb lc fb fc mb mc ca cc c t qa (nS c t) qc) ∧ DArn P w' lb fb mb ca c t qa (List.replicate (nS c t) false) ∧ Ext w w' ∧ ∀ x o, qa = some ⟨x, o, none⟩ → w.heap.size ≤ x
set_option maxRecDepth 100000 in
set_option maxHeartbeats 4000000 in
theorem ref10_New (h : DPlan w lb fb mb ca c t) (hP : ∀ k, P k → k < w.heap.size) (h1 : ¬ P lb ∧ ¬ P fb ∧ ¬ P mb) (h2 : ∀ x o, ca = some ⟨x, o, none⟩ → ¬ P x) :
    Calls Tryd.prog 59 #[dpv lb lc fb fc mb mc ca cc c t] w (DNew P lb lc fb fc mb mc ca cc c t w) := by
  have nb := h.ok.nS_le h.ti
  have hmk : ∀ W : World, (Instr.makeSlice 31 (.int .i64 (nS c t : Int)) (.int .i64 (nS c t : Int))).run Tryd.prog W = .ok (.slice (some ⟨W.heap.size, 0, none⟩) (nS c t) (nS c t)) (W.alloc (.cells (madeCells #[.bool false] (nS c t)) 4)) := fun W =>
    run_make_row' 31 4 (.bool false) 1 Tryd.underlying31 info_bool rfl .i64 .i64 (nS c t) (by omega) (by omega) W
  have H := Lib.hid h
  unfold dpv
  obtain ⟨z, hz⟩ : ∃ z, w.heap.size = z := ⟨_, rfl⟩
  have HZ := Lib.hid hz
  have tw := two6 w [.slice (some ⟨lb, 0, none⟩) (nS c t) lc, .slice (some ⟨fb, 0, none⟩) (nG c t) fc, .slice (some ⟨mb, 0, none⟩) (nG c t) mc, .int .i64 (wordsOf c t), .slice ca c.cl.length cc] [.slice none 0 0, .slice none 0 0, .slice none 0 0, .int .i64 0, .slice none 0 0, .slice none 0 0] 30 53 hz
  obtain ⟨W0, hW0⟩ : ∃ W0, (w.alloc (.cells #[.slice (some ⟨lb, 0, none⟩) (nS c t) lc, .slice (some ⟨fb, 0, none⟩) (nG c t) fc, .slice (some ⟨mb, 0, none⟩) (nG c t) mc, .int .i64 (wordsOf c t), .slice ca c.cl.length cc] 30)).alloc (.cells #[.slice none 0 0, .slice none 0 0, .slice none 0 0, .int .i64 0, .slice none 0 0, .slice none 0 0] 53) = W0 := ⟨_, rfl⟩
  change Two6 w ((w.alloc (.cells #[_, _, _, _, _] _)).alloc (.cells #[_, _, _, _, _, _] _)) z _ _ at tw
  rw [hW0] at tw
  have v0 := tw.v 0 _ rfl; have v1 := tw.v 1 _ rfl; have v2 := tw.v 2 _ rfl; have v3 := tw.v 3 _ rfl; have v4 := tw.v 4 _ rfl
  have rz0 := tw.u 0 _ rfl; have rz1 := tw.u 1 _ rfl; have rz2 := tw.u 2 _ rfl; have rz3 := tw.u 3 _ rfl; have rz4 := tw.u 4 _ rfl; have rz5 := tw.u 5 _ rfl
  have f0 := tw.fz 0; have f1 := tw.fz 1; have f2 := tw.fz 2; have f3 := tw.fz 3; have f4 := tw.fz 4; have f5 := tw.fz 5
  have SZ := Lib.hid tw.size
  have bz : z < W0.heap.size := cell_lt v0
  have bz1 : z + 1 < W0.heap.size := cell_lt rz0
  have hx := tw.ext
  have TW := Lib.hid tw
  have LT := Lib.hid (And.intro (cell_lt (h.l 0 (by have := h.ok.nS_pos h.ti; omega) 0 _ rfl)) h)
  clear h tw
  go_enter Tryd.func59, Tryd.ntmps59
  go_wp2_with fail
  go_region
  go_wp2_with fail
  obtain ⟨W5, hW5⟩ : ∃ W5, (((((W0.setCell ⟨z + 1, 0, none⟩ (.slice (some ⟨lb, 0, none⟩) (nS c t) lc)).setCell ⟨z + 1, 1, none⟩ (.slice (some ⟨fb, 0, none⟩) (nG c t) fc)).setCell ⟨z + 1, 2, none⟩ (.slice (some ⟨mb, 0, none⟩) (nG c t) mc)).setCell ⟨z + 1, 3, none⟩ (.int .i64 (wordsOf c t))).setCell ⟨z + 1, 4, none⟩ (.slice ca c.cl.length cc)).setCell ⟨z + 1, 5, none⟩ (.slice (some ⟨W0.heap.size, 0, none⟩) (nS c t) (nS c t)) = W5 := ⟨_, rfl⟩
  obtain ⟨⟨q0, q1, q2, q3, q4, q5⟩, qc6⟩ := set6 (.slice (some ⟨lb, 0, none⟩) (nS c t) lc) (.slice (some ⟨fb, 0, none⟩) (nG c t) fc) (.slice (some ⟨mb, 0, none⟩) (nG c t) mc) (.int .i64 (wordsOf c t)) (.slice ca c.cl.length cc) (.slice (some ⟨W0.heap.size, 0, none⟩) (nS c t) (nS c t)) rz0 rz1 rz2 rz3 rz4 rz5 _ hW5.symm
  have s5 : W5.heap.size = W0.heap.size := by rw [← hW5]; simp
  rw [hW5]
  have x3 : Ext W5 (W5.alloc (.cells (madeCells #[.bool false] (nS c t)) 4)).drew := ((Ext.refl W5).alloc _).drew
  have row : BAt (W5.alloc (.cells (madeCells #[.bool false] (nS c t)) 4)).drew (some ⟨W0.heap.size, 0, none⟩) (List.replicate (nS c t) false) := by
    refine BAt.mk fun i hi => ?_
    rw [List.length_replicate] at hi
    rw [Nat.zero_add, bnth_rep0, ← s5]
    refine (Ext.refl _).drew.cell ?_
    rw [cell_newN, made_at hi]
  replace q0 := x3.cell q0; replace q1 := x3.cell q1; replace q2 := x3.cell q2; replace q3 := x3.cell q3; replace q4 := x3.cell q4; replace q5 := x3.cell q5
  have sz := SZ.out
  have hlt : lb < w.heap.size ∧ fb < w.heap.size ∧ mb < w.heap.size ∧ (∀ x o, ca = some ⟨x, o, none⟩ → x < w.heap.size) := by
    have h := H.out
    have hs := h.ok.nS_pos h.ti
    have hg := h.ok.nG_pos h.ti
    refine ⟨cell_lt (h.l 0 (by omega) 0 _ rfl), ?_, ?_, fun x o e => ?_⟩
    · obtain ⟨b, o, e, hc⟩ := h.f 0 (by simp [firsts]; omega)
      cases e; exact cell_lt hc
    · obtain ⟨b, o, e, hc⟩ := h.m 0 (by simp [manys]; omega)
      cases e; exact cell_lt hc
    · obtain ⟨b, o', e', hc⟩ := h.k 0 h.ok.cl.pos
      rw [e] at e'; cases e'; exact cell_lt hc
  refine bodyPost_ret (v := .agg #[.slice (some ⟨lb, 0, none⟩) (nS c t) lc, .slice (some ⟨fb, 0, none⟩) (nG c t) fc, .slice (some ⟨mb, 0, none⟩) (nG c t) mc, .int .i64 (wordsOf c t), .slice ca c.cl.length cc, .slice (some ⟨W0.heap.size, 0, none⟩) (nS c t) (nS c t)]) (by simp [results, Tryd.results59, go_sem, q0, q1, q2, q3, q4, q5]) rfl ⟨_, _, rfl, ⟨((H.out.ext hx).at qc6 (by omega) (by omega) (by omega) (fun x o e q => by have := hlt.2.2.2 x o e; omega)).ext x3, h1, h2, row, fun x o e hp => ?_, List.length_replicate ..⟩, (qc6.over hx (fun k e => by omega)).trans x3, fun x o e => by cases e; omega⟩
  cases e
  have := hP _ hp
  omega
end Go.Proofs.YtlhajoamebfniaaDoor

/-! commonagelaw10: great, example, awake, made. -/
namespace Go.Proofs.YtlhajoamebfniaaDoor
open Go.RowKit

/-- More than a statement looks at. -/
def bigA (c : Conf) : Bool := !(decide (c.cl.length ≤ 50 ∧ c.ts.length ≤ 50)) || decide (4000 < (ktotal c).1)

set_option maxHeartbeats 2000000 in
theorem law10_great {ca ta : Option Addr} {cc tc : Nat} (c : Conf) (b : Bool) {w : World} (hb : bigA c = b) (h : CfgAt w ca ta cc tc c) :
    Calls Tryd.prog 58 #[.agg #[.slice ca c.cl.length cc, .int .i64 c.page, .slice ta c.ts.length tc, .int .i64 c.wk, .int .i64 c.gr, .int .i64 c.gens]] w fun e w' => e = .returned (.bool b) ∧ Ext w w' := by
  have h1 := Ext.refl (w.alloc (.cells #[.slice ca c.cl.length cc, .int .i64 c.page, .slice ta c.ts.length tc, .int .i64 c.wk, .int .i64 c.gr, .int .i64 c.gens] 25))
  have hx := (Ext.refl w).alloc (.cells #[.slice ca c.cl.length cc, .int .i64 c.page, .slice ta c.ts.length tc, .int .i64 c.wk, .int .i64 c.gr, .int .i64 c.gens] 25)
  obtain ⟨⟨p, q⟩, hpq⟩ : ∃ pq, ktotal c = pq := ⟨_, rfl⟩
  have PQ := Lib.hid hpq
  have H := Lib.hid h; clear h
  unfold bigA at hb
  rw [hpq] at hb
  by_cases hs : c.cl.length ≤ 50 ∧ c.ts.length ≤ 50
  · have HS := Lib.hid (show decide (c.cl.length ≤ 50 ∧ c.ts.length ≤ 50) = true by simpa using hs)
    have hp : decide (4000 < p) = b := by rw [← hb, decide_eq_true hs]; rfl
    clear hs hb hpq
    go_enter Tryd.func58, Tryd.ntmps58
    go_wp2_with fail
    try clear b0 b1 b2 b3 b4 b5
    refine (ref06_Total c p q PQ.out (H.out.ext (hx.trans h1))).mono ?_
    rintro e w1 ⟨rfl, h2⟩
    replace h1 := h1.trans h2
    clear h2
    obtain ⟨b0, b1, b2, b3, b4, b5⟩ := box6 h1
    go_wp2_with fail
    refine (ref06_Small c true HS.out (H.out.ext (hx.trans h1))).mono ?_
    rintro e w2 ⟨rfl, h2⟩
    replace h1 := h1.trans h2
    clear h2
    obtain ⟨b0, b1, b2, b3, b4, b5⟩ := box6 h1
    go_wp2_with fail
    all_goals (try clear b0 b1 b2 b3 b4 b5)
    go_ret
    exact ⟨rfl, hx.trans h1⟩
  · have HS := Lib.hid (show decide (c.cl.length ≤ 50 ∧ c.ts.length ≤ 50) = false by simpa using hs)
    have hp : b = true := by rw [← hb, decide_eq_false hs]; rfl
    subst hp
    clear hs hb hpq
    go_enter Tryd.func58, Tryd.ntmps58
    go_wp2_with fail
    try clear b0 b1 b2 b3 b4 b5
    refine (ref06_Total c p q PQ.out (H.out.ext (hx.trans h1))).mono ?_
    rintro e w3 ⟨rfl, h2⟩
    replace h1 := h1.trans h2
    clear h2
    obtain ⟨b0, b1, b2, b3, b4, b5⟩ := box6 h1
    go_wp2_with fail
    refine (ref06_Small c false HS.out (H.out.ext (hx.trans h1))).mono ?_
    rintro e w4 ⟨rfl, h2⟩
    replace h1 := h1.trans h2
    clear h2
    obtain ⟨b0, b1, b2, b3, b4, b5⟩ := box6 h1
    go_wp2_with fail
    all_goals (try clear b0 b1 b2 b3 b4 b5)
    go_ret
    exact ⟨rfl, hx.trans h1⟩

set_option maxHeartbeats 2000000 in
theorem law10_example (w : World) : Calls Tryd.prog 60 #[] w (IsExample w) := by
  go_enter Tryd.func60, Tryd.ntmps60
  go_wp2_with fail
  refine bodyPost_ret (v := .agg #[.slice (some ⟨w.heap.size + 1, 0, none⟩) 2 2, .int .i64 8, .slice (some ⟨w.heap.size + 1 + 1, 0, none⟩) 2 2, .int .i64 1, .int .i64 2, .int .i64 3]) (by simp [results, Tryd.results60, go_sem]) rfl ⟨_, _, rfl, ?_, ?_⟩
  · refine ⟨(At.newb .i64 _ [2, 4] 3 _ (by simp)).ext ((Ext.refl _).alloc _), TenAt.newb _ _ _ _ _ (by simp) ?_, by decide, by decide, by decide, by decide, by decide, by decide⟩
    intro i hi
    have h2 : i < 2 := hi
    match i, h2 with
    | 0, _ => exact ⟨rfl, rfl, rfl, rfl⟩
    | 1, _ => exact ⟨rfl, rfl, rfl, rfl⟩
  · exact (((Ext.refl w).alloc _).alloc _).alloc _

/-! ### The example's slots -/
def exB (l : List Nat) : List Bool := (List.range 15).map fun i => l.contains i
theorem ex_n : nS exC 0 = 15 := by decide +kernel
theorem ex_s0 : sS exC 0 0 = 0 := by decide +kernel
theorem ex_s1 : sS exC 0 (0 + 1) = 10 := by decide +kernel
theorem ex_s1' : sS exC 0 1 = 10 := by decide +kernel
theorem ex_s2 : sS exC 0 (1 + 1) = 15 := by decide +kernel
theorem ex_b0 : List.replicate (nS exC 0) false = exB [] := by decide +kernel
theorem ex_t1 : TakeR exC 0 (exB []) 0 (exB [0]) 0 0 := .inr ⟨0, rfl, by decide, .inl ⟨0, ⟨by decide +kernel, by decide +kernel⟩, by decide, fun i _ h => absurd h (Nat.not_lt_zero _), by decide, rfl, rfl⟩⟩
theorem ex_t2 : TakeR exC 0 (exB [0]) 0 (exB [0, 1]) 1 0 := .inr ⟨0, rfl, by decide, .inl ⟨1, ⟨by decide +kernel, by decide +kernel⟩, by decide, fun i _ h => by
  obtain rfl : i = 0 := by omega
  decide, by decide, rfl, rfl⟩⟩
theorem ex_t3 : TakeR exC 0 (exB [0, 1]) 1 (exB [0, 1, 10]) 10 0 := .inr ⟨1, rfl, by decide, .inl ⟨10, ⟨by decide +kernel, by decide +kernel⟩, by decide, fun i h1 h2 => by
  have := h1.1; rw [ex_s1'] at this; omega, by decide, rfl, rfl⟩⟩
theorem ex_t4 : TakeR exC 0 (exB [1, 10]) 0 (exB [0, 1, 10]) 0 0 := .inr ⟨0, rfl, by decide, .inl ⟨0, ⟨by decide +kernel, by decide +kernel⟩, by decide, fun i _ h => absurd h (Nat.not_lt_zero _), by decide, rfl, rfl⟩⟩
theorem ex_t5 : TakeR exC 0 (exB [0, 1, 10]) 2 (exB [0, 1, 10]) 0 2 := .inl ⟨by decide, rfl, rfl, rfl⟩
theorem ex_u : usedOf exC 0 (exB [0, 1, 10]) = 8 := by decide +kernel
theorem ex_c : bcnt (exB [0, 1, 10]) (exB [0, 1, 10]).length = 3 := by decide
theorem ex_g1 : giveR (exB [0, 1, 10]) 0 = (exB [1, 10], 0) := by decide
theorem ex_g2 : giveR (exB [1, 10]) 0 = (exB [1, 10], 9) := by decide
theorem ex_g3 : giveR (exB [0, 1, 10]) 15 = (exB [0, 1, 10], 2) := by decide

/-- An arena of the law's own. -/
structure OwnA (w0 w : World) (b pb gp rb rg : Nat) (c : Conf) (t : Nat) (bs : List Bool) : Prop where
  ar : ArenaAt w b pb gp rb rg c t bs
  tab : Tab w
  ext : Ext w0 w
  lb : w0.heap.size ≤ b
  lg : w0.heap.size ≤ rg
variable {w0 w w' : World} {b pb gp rb rg : Nat} {c : Conf} {t : Nat} {bs bs' : List Bool}
theorem OwnA.go (h : OwnA w0 w b pb gp rb rg c t bs) (hx : Ext w w') : OwnA w0 w' b pb gp rb rg c t bs := ⟨h.ar.ext hx, h.tab.ext hx, h.ext.trans hx, h.lb, h.lg⟩
theorem OwnA.turn (h : OwnA w0 w b pb gp rb rg c t bs) (ha : ArenaAt w' b pb gp rb rg c t bs') (hc : Chg (arB b rg) w w') : OwnA w0 w' b pb gp rb rg c t bs' :=
  ⟨ha, h.tab.chg hc (h.ar.tab h.tab), hc.over h.ext fun k hk => by have := h.lb; have := h.lg; rcases hk with rfl | rfl <;> assumption, h.lb, h.lg⟩

/-- Behind a store into a box that held nothing. -/
theorem ArenaU.far {x : Nat} {u : Int} (h : ArenaU w b pb gp rb rg c t bs u) (hc : w.cell? ⟨x, 0, none⟩ = some (.slice none 0 0)) (hx : Chg (fun k => k = x) w w') : ArenaU w' b pb gp rb rg c t bs u := by
  refine h.chg hx ?_ ⟨?_, ?_⟩ ⟨?_, ?_⟩
  · rintro rfl
    have := h.c0; rw [hc] at this; cases this
  · rintro rfl
    obtain ⟨cap, h0⟩ := h.plan.parts
    rw [hc] at h0; cases h0
  · rintro rfl
    have := h.plan.row 0 h.plan.ok.cl.pos 0 _ rfl
    rw [Nat.zero_mul, Nat.add_zero, hc] at this; cases this
  · rintro rfl
    obtain ⟨a, cap, h0, _, _, _, hg⟩ := h.row.ex
    rw [(hg h.pos).1, hc] at h0; cases h0
  · rintro rfl
    have := h.row.word h.pos 0 (wlen_pos h.pos)
    rw [hc] at this; cases this
theorem Tab.far {x : Nat} (h : Tab w) (hc : w.cell? ⟨x, 0, none⟩ = some (.slice none 0 0)) (hx : Chg (fun k => k = x) w w') : Tab w' := h.chg hx (by
  rintro e
  have := h 0 (by decide)
  rw [← e] at hc
  rw [hc] at this; cases this)
theorem OwnA.far {x : Nat} (h : OwnA w0 w b pb gp rb rg c t bs) (hc : w.cell? ⟨x, 0, none⟩ = some (.slice none 0 0)) (hx : Chg (fun k => k = x) w w') (hl : w0.heap.size ≤ x) : OwnA w0 w' b pb gp rb rg c t bs :=
  ⟨h.ar.far hc hx, h.tab.far hc hx, hx.over h.ext fun k e => by rw [e]; exact hl, h.lb, h.lg⟩

set_option maxRecDepth 100000 in
set_option maxHeartbeats 8000000 in
theorem law10_awake (w : World) (hT : Tab w) : Calls Tryd.prog 21 #[] w fun e w' => e = .returned (.bool true) ∧ Ext w w' := by
  have K0 := Lib.hid (show kcheck exC = 0 by decide)
  have HT := Lib.hid hT
  clear hT
  go_enter Tryd.func21, Tryd.ntmps21
  go_wp2_with fail
  refine (law10_example w).mono ?_
  rintro e w0 ⟨ca, ta, rfl, hc, hx⟩
  have HC := Lib.hid hc; have X := Lib.hid hx
  clear hc hx
  go_wp2_with fail
  refine (slot_New exC 0 K0.out (by decide) HC.out).mono ?_
  rintro e w1 ⟨pb, gp, rfl, hp, x1⟩
  have HP := Lib.hid hp
  have X1 := Lib.hid (X.out.trans x1)
  clear hp x1
  go_wp2_with fail
  refine (arena_New HP.out).mono ?_
  rintro e w2 ⟨r2, rfl, b, rb, rg, rfl, ha, l1, l2, l3, x2⟩
  have O := Lib.hid (show OwnA w w2 b pb gp rb rg exC 0 (exB []) from ⟨by rw [← ex_b0]; exact ha, HT.out.ext (X1.out.trans x2), X1.out.trans x2, Nat.le_trans X1.out.size l1, Nat.le_trans X1.out.size l3⟩)
  clear ha l1 l2 l3 x2
  go_wp2_with fail
  refine (arena_Take O.out.ar O.out.tab ex_t1).mono ?_
  rintro e w3 ⟨rfl, ha, hc⟩
  have O2 := Lib.hid (O.out.turn ha hc)
  clear ha hc O
  go_wp2_with fail
  refine (arena_Take O2.out.ar O2.out.tab ex_t2).mono ?_
  rintro e w4 ⟨rfl, ha, hc⟩
  have O3 := Lib.hid (O2.out.turn ha hc)
  clear ha hc O2
  go_wp2_with fail
  refine (arena_Take O3.out.ar O3.out.tab ex_t3).mono ?_
  rintro e w5 ⟨rfl, ha, hc⟩
  have O4 := Lib.hid (O3.out.turn ha hc)
  clear ha hc O3
  go_wp2_with fail
  refine (arena_Used O4.out.ar ex_u).mono ?_
  rintro e w' ⟨rfl, rfl⟩
  go_wp2_with fail
  refine (arena_Count 3 O4.out.ar ex_c).mono ?_
  rintro e w' ⟨rfl, rfl⟩
  go_wp2_with fail
  refine (arena_Give O4.out.ar ex_g1).mono ?_
  rintro e w6 ⟨rfl, ha, hc⟩
  have O5 := Lib.hid (O4.out.turn ha hc)
  clear ha hc O4
  go_wp2_with fail
  refine (arena_Give O5.out.ar ex_g2).mono ?_
  rintro e w7 ⟨rfl, ha, hc⟩
  have O6 := Lib.hid (O5.out.turn ha hc)
  clear ha hc O5
  go_wp2_with fail
  refine (arena_Take O6.out.ar O6.out.tab ex_t4).mono ?_
  rintro e w8 ⟨rfl, ha, hc⟩
  have O7 := Lib.hid (O6.out.turn ha hc)
  clear ha hc O6
  go_wp2_with fail
  refine (arena_Take O7.out.ar O7.out.tab ex_t5).mono ?_
  rintro e w9 ⟨rfl, ha, hc⟩
  have O8 := Lib.hid (O7.out.turn ha hc)
  clear ha hc O7
  go_wp2_with fail
  refine (arena_Give O8.out.ar ex_g3).mono ?_
  rintro e w10 ⟨rfl, ha, hc⟩
  have O9 := Lib.hid (O8.out.turn ha hc)
  clear ha hc O8
  go_wp2_with fail
  go_ret
  exact ⟨rfl, O9.out.ext⟩

end Go.Proofs.YtlhajoamebfniaaDoor

/-! commonagelaw10: made. -/
namespace Go.Proofs.YtlhajoamebfniaaDoor
open Go.RowKit
variable {w0 w w' : World} {c : Conf} {t : Nat}

/-- What made hands back where there is an arena. -/
def MadeA (c : Conf) (t : Nat) (w : World) (e : Ending) (w' : World) : Prop :=
  ∃ b pb gp rb rg lb lc fb fc mb mc ca cc qa qc, e = .returned (.tuple #[.pointer (some ⟨b, 0, none⟩), .agg #[.slice (some ⟨lb, 0, none⟩) (nS c t) lc, .slice (some ⟨fb, 0, none⟩) (nG c t) fc, .slice (some ⟨mb, 0, none⟩) (nG c t) mc, .int .i64 (wordsOf c t), .slice ca c.cl.length cc, .slice qa (nS c t) qc]]) ∧ OwnA w w' b pb gp rb rg c t (List.replicate (nS c t) false) ∧ DArn (arB b rg) w' lb fb mb ca c t qa (List.replicate (nS c t) false)
set_option maxRecDepth 100000 in
set_option maxHeartbeats 8000000 in
theorem law10_made_no {ca ta : Option Addr} {cc tc : Nat} (c : Conf) (tn : Int) {w : World} (hb : bigA c = true ∨ kcheck c ≠ 0) (h : CfgAt w ca ta cc tc c) :
    Calls Tryd.prog 20 #[.agg #[.slice ca c.cl.length cc, .int .i64 c.page, .slice ta c.ts.length tc, .int .i64 c.wk, .int .i64 c.gr, .int .i64 c.gens], .int .u8 tn] w fun e w' => e = .returned (.tuple #[.pointer none, .agg #[.slice none 0 0, .slice none 0 0, .slice none 0 0, .int .i64 0, .slice none 0 0, .slice none 0 0]]) ∧ Ext w w' := by
  have H := Lib.hid h
  obtain ⟨z, hz⟩ : ∃ z, w.heap.size = z := ⟨_, rfl⟩
  have HZ := Lib.hid hz
  have tw := two6 w [.slice ca c.cl.length cc, .int .i64 c.page, .slice ta c.ts.length tc, .int .i64 c.wk, .int .i64 c.gr, .int .i64 c.gens] [.slice none 0 0, .slice none 0 0, .slice none 0 0, .int .i64 0, .slice none 0 0, .slice none 0 0] 25 53 hz
  obtain ⟨W0, hW0⟩ : ∃ W0, (w.alloc (.cells #[.slice ca c.cl.length cc, .int .i64 c.page, .slice ta c.ts.length tc, .int .i64 c.wk, .int .i64 c.gr, .int .i64 c.gens] 25)).alloc (.cells #[.slice none 0 0, .slice none 0 0, .slice none 0 0, .int .i64 0, .slice none 0 0, .slice none 0 0] 53) = W0 := ⟨_, rfl⟩
  change Two6 w ((w.alloc (.cells #[_, _, _, _, _, _] _)).alloc (.cells #[_, _, _, _, _, _] _)) z _ _ at tw
  rw [hW0] at tw
  have TW := Lib.hid tw
  have SZ := Lib.hid tw.size
  have X0 := Lib.hid tw.ext
  clear h tw
  have X := Lib.hid (Ext.refl W0)
  obtain ⟨_, vv, uu, ff⟩ := TW.out.go X.out
  have v0 := vv 0 _ rfl; have v1 := vv 1 _ rfl; have v2 := vv 2 _ rfl; have v3 := vv 3 _ rfl; have v4 := vv 4 _ rfl; have v5 := vv 5 _ rfl
  clear vv uu ff
  cases hg : bigA c
  · have HG := Lib.hid hg
    have H2 := Lib.hid (show kcheck c = 2 by
      rcases hb with hb | hb
      · rw [hg] at hb; cases hb
      · rcases kcheck_01 c with e | e
        · exact absurd e hb
        · exact e)
    clear hg hb
    go_enter Tryd.func20, Tryd.ntmps20
    go_wp2_with fail
    clear v0 v1 v2 v3 v4 v5
    refine (law10_great c false HG.out (H.out.ext X0.out)).mono ?_
    rintro e w1 ⟨rfl, x⟩
    replace X := Lib.hid (X.out.trans x)
    clear x
    obtain ⟨_, vv, uu, ff⟩ := TW.out.go X.out
    have v0 := vv 0 _ rfl; have v1 := vv 1 _ rfl; have v2 := vv 2 _ rfl; have v3 := vv 3 _ rfl; have v4 := vv 4 _ rfl; have v5 := vv 5 _ rfl
    clear vv uu ff
    go_wp2_with fail
    clear v0 v1 v2 v3 v4 v5
    refine (ref06_Check c 2 H2.out (H.out.ext (X0.out.trans X.out))).mono ?_
    rintro e w2 ⟨rfl, x⟩
    replace X := Lib.hid (X.out.trans x)
    clear x
    obtain ⟨_, vv, uu, ff⟩ := TW.out.go X.out
    have rz0 := uu 0 _ rfl; have rz1 := uu 1 _ rfl; have rz2 := uu 2 _ rfl; have rz3 := uu 3 _ rfl; have rz4 := uu 4 _ rfl; have rz5 := uu 5 _ rfl
    have f0 := ff 0; have f1 := ff 1; have f2 := ff 2; have f3 := ff 3; have f4 := ff 4; have f5 := ff 5
    clear vv uu ff
    go_wp2_with fail
    obtain ⟨⟨q0, q1, q2, q3, q4, q5⟩, qc6⟩ := set6 (.slice none 0 0) (.slice none 0 0) (.slice none 0 0) (.int .i64 0) (.slice none 0 0) (.slice none 0 0) rz0 rz1 rz2 rz3 rz4 rz5 _ rfl
    have sz := HZ.out
    refine bodyPost_ret (v := .tuple #[.pointer none, .agg #[.slice none 0 0, .slice none 0 0, .slice none 0 0, .int .i64 0, .slice none 0 0, .slice none 0 0]]) (by simp [results, Tryd.results20, go_sem, q0, q1, q2, q3, q4, q5]) rfl ⟨rfl, qc6.over (X0.out.trans X.out) (fun k e => by omega)⟩
  · have HG := Lib.hid hg
    clear hg hb
    go_enter Tryd.func20, Tryd.ntmps20
    go_wp2_with fail
    clear v0 v1 v2 v3 v4 v5
    refine (law10_great c true HG.out (H.out.ext X0.out)).mono ?_
    rintro e w1 ⟨rfl, x⟩
    replace X := Lib.hid (X.out.trans x)
    clear x
    obtain ⟨_, vv, uu, ff⟩ := TW.out.go X.out
    have rz0 := uu 0 _ rfl; have rz1 := uu 1 _ rfl; have rz2 := uu 2 _ rfl; have rz3 := uu 3 _ rfl; have rz4 := uu 4 _ rfl; have rz5 := uu 5 _ rfl
    have f0 := ff 0; have f1 := ff 1; have f2 := ff 2; have f3 := ff 3; have f4 := ff 4; have f5 := ff 5
    clear vv uu ff
    go_wp2_with fail
    obtain ⟨⟨q0, q1, q2, q3, q4, q5⟩, qc6⟩ := set6 (.slice none 0 0) (.slice none 0 0) (.slice none 0 0) (.int .i64 0) (.slice none 0 0) (.slice none 0 0) rz0 rz1 rz2 rz3 rz4 rz5 _ rfl
    have sz := HZ.out
    refine bodyPost_ret (v := .tuple #[.pointer none, .agg #[.slice none 0 0, .slice none 0 0, .slice none 0 0, .int .i64 0, .slice none 0 0, .slice none 0 0]]) (by simp [results, Tryd.results20, go_sem, q0, q1, q2, q3, q4, q5]) rfl ⟨rfl, qc6.over (X0.out.trans X.out) (fun k e => by omega)⟩

set_option maxRecDepth 100000 in
set_option maxHeartbeats 8000000 in
theorem law10_made {ca ta : Option Addr} {cc tc i : Nat} (c : Conf) (tn : Int) {w : World} (hT : Tab w) (hb : bigA c = false) (h0 : kcheck c = 0) (htn : 0 ≤ tn ∧ tn ≤ 255) (hi : i < c.ts.length) (hmod : tn % (c.ts.length : Int) = i) (h : CfgAt w ca ta cc tc c) :
    Calls Tryd.prog 20 #[.agg #[.slice ca c.cl.length cc, .int .i64 c.page, .slice ta c.ts.length tc, .int .i64 c.wk, .int .i64 c.gr, .int .i64 c.gens], .int .u8 tn] w (MadeA c i w) := by
  have H := Lib.hid h
  have HT := Lib.hid hT
  have ho := kcheck_ok h0
  have t1 := ho.head.2.2.1
  have t8 := ho.head.2.2.2.1
  obtain ⟨t0, t255⟩ := htn
  have n0 : ¬ c.ts.length = 0 := by omega
  have nz : ¬ (c.ts.length : Int) = 0 := by omega
  have hmt : tn.tmod c.ts.length = i := by rw [Int.tmod_eq_emod_of_nonneg t0]; exact hmod
  have hwi : IntKind.i64.wrap (i : Int) = i := IntWalk.i64_in _ (by omega)
  have hwt : IntKind.i64.wrap tn = tn := IntWalk.i64_in _ (by omega)
  have H0 := Lib.hid h0; have HG := Lib.hid hb; have HI := Lib.hid hi
  obtain ⟨z, hz⟩ : ∃ z, w.heap.size = z := ⟨_, rfl⟩
  have HZ := Lib.hid hz
  have tw := two6 w [.slice ca c.cl.length cc, .int .i64 c.page, .slice ta c.ts.length tc, .int .i64 c.wk, .int .i64 c.gr, .int .i64 c.gens] [.slice none 0 0, .slice none 0 0, .slice none 0 0, .int .i64 0, .slice none 0 0, .slice none 0 0] 25 53 hz
  obtain ⟨W0, hW0⟩ : ∃ W0, (w.alloc (.cells #[.slice ca c.cl.length cc, .int .i64 c.page, .slice ta c.ts.length tc, .int .i64 c.wk, .int .i64 c.gr, .int .i64 c.gens] 25)).alloc (.cells #[.slice none 0 0, .slice none 0 0, .slice none 0 0, .int .i64 0, .slice none 0 0, .slice none 0 0] 53) = W0 := ⟨_, rfl⟩
  change Two6 w ((w.alloc (.cells #[_, _, _, _, _, _] _)).alloc (.cells #[_, _, _, _, _, _] _)) z _ _ at tw
  rw [hW0] at tw
  have TW := Lib.hid tw
  have SZ := Lib.hid tw.size
  have X0 := Lib.hid tw.ext
  clear h tw hT ho h0 hb
  have X := Lib.hid (Ext.refl W0)
  obtain ⟨_, vv, uu, ff⟩ := TW.out.go X.out
  have v0 := vv 0 _ rfl; have v1 := vv 1 _ rfl; have v2 := vv 2 _ rfl; have v3 := vv 3 _ rfl; have v4 := vv 4 _ rfl; have v5 := vv 5 _ rfl
  clear vv uu ff
  go_enter Tryd.func20, Tryd.ntmps20
  go_wp2_with fail
  clear v0 v1 v2 v3 v4 v5
  refine (law10_great c false HG.out (H.out.ext X0.out)).mono ?_
  rintro e w1 ⟨rfl, x⟩
  replace X := Lib.hid (X.out.trans x)
  clear x
  obtain ⟨_, vv, uu, ff⟩ := TW.out.go X.out
  have v0 := vv 0 _ rfl; have v1 := vv 1 _ rfl; have v2 := vv 2 _ rfl; have v3 := vv 3 _ rfl; have v4 := vv 4 _ rfl; have v5 := vv 5 _ rfl
  clear vv uu ff
  go_wp2_with fail
  clear v0 v1 v2 v3 v4 v5
  refine (ref06_Check c 0 H0.out (H.out.ext (X0.out.trans X.out))).mono ?_
  rintro e w2 ⟨rfl, x⟩
  replace X := Lib.hid (X.out.trans x)
  clear x
  obtain ⟨_, vv, uu, ff⟩ := TW.out.go X.out
  have v0 := vv 0 _ rfl; have v1 := vv 1 _ rfl; have v2 := vv 2 _ rfl; have v3 := vv 3 _ rfl; have v4 := vv 4 _ rfl; have v5 := vv 5 _ rfl
  clear vv uu ff
  go_wp2_with fail
  clear v0 v1 v2 v3 v4 v5
  refine (slot_New c i H0.out HI.out (H.out.ext (X0.out.trans X.out))).mono ?_
  rintro e w3 ⟨pb, gp, rfl, hp, x⟩
  have HP := Lib.hid hp
  replace X := Lib.hid (X.out.trans x)
  clear x hp
  obtain ⟨_, vv, uu, ff⟩ := TW.out.go X.out
  have v0 := vv 0 _ rfl; have v1 := vv 1 _ rfl; have v2 := vv 2 _ rfl; have v3 := vv 3 _ rfl; have v4 := vv 4 _ rfl; have v5 := vv 5 _ rfl
  clear vv uu ff
  go_wp2_with fail
  clear v0 v1 v2 v3 v4 v5
  refine (ref09_NewC c i H0.out HI.out (H.out.ext (X0.out.trans X.out))).mono ?_
  rintro e w4 ⟨lb, lc, fb, fc, mb, mc, rfl, hd, x⟩
  have HD := Lib.hid hd
  replace HP := Lib.hid (HP.out.ext x)
  replace X := Lib.hid (X.out.trans x)
  have bz1 : z + 1 < w4.heap.size := by have := SZ.out; have := X.out.size; omega
  have KL : Hid (∀ y o, ca = some ⟨y, o, none⟩ → y ≠ z + 1) := Lib.hid fun y o e => by
    obtain ⟨b', o', e', hc⟩ := H.out.cl 0 (kcheck_ok H0.out).cl.pos
    rw [e] at e'; cases e'
    have hb : y < w.heap.size := cell_lt hc
    have := HZ.out
    omega
  clear x hd
  unfold dpv
  go_wp2_with fail
  obtain ⟨y, hy⟩ : ∃ y, w4.heap.size = y := ⟨_, rfl⟩
  obtain ⟨W5, hW5⟩ : ∃ W, w4.alloc (.cells #[.slice (some ⟨lb, 0, none⟩) (nS c i) lc, .slice (some ⟨fb, 0, none⟩) (nG c i) fc, .slice (some ⟨mb, 0, none⟩) (nG c i) mc, .int .i64 (wordsOf c i), .slice ca c.cl.length cc] 30) = W := ⟨_, rfl⟩
  have x5 : Ext w4 W5 := by rw [← hW5]; exact (Ext.refl _).alloc _
  have PB : Hid (∀ j u, (#[Value.slice (some ⟨lb, 0, none⟩) (nS c i) lc, .slice (some ⟨fb, 0, none⟩) (nG c i) fc, .slice (some ⟨mb, 0, none⟩) (nG c i) mc, .int .i64 (wordsOf c i), .slice ca c.cl.length cc] : Array Value)[j]? = some u → W5.cell? ⟨y, j, none⟩ = some u) := Lib.hid fun j u hu => by rw [← hW5, ← hy, cell_newN]; exact hu
  rw [hW5, hy]
  replace HP := Lib.hid (HP.out.ext x5); replace HD := Lib.hid (HD.out.ext x5)
  have X5 := Lib.hid (X.out.trans x5)
  clear x5 hW5 hy X bz1
  refine (arena_New HP.out).mono ?_
  rintro e w6 ⟨r2, rfl, b, rb, rg, rfl, ha, l1, l2, l3, x⟩
  have LT : Hid (lb < W5.heap.size ∧ fb < W5.heap.size ∧ mb < W5.heap.size ∧ ∀ x o, ca = some ⟨x, o, none⟩ → x < W5.heap.size) := Lib.hid HD.out.lt
  have D6 := Lib.hid (HD.out.ext x)
  have X6 := Lib.hid (X5.out.trans x)
  have XX := Lib.hid x
  have OA := Lib.hid (show OwnA w w6 b pb gp rb rg c i (List.replicate (nS c i) false) from ⟨ha, HT.out.ext (X0.out.trans X6.out), X0.out.trans X6.out, Nat.le_trans (X0.out.trans X5.out).size l1, Nat.le_trans (X0.out.trans X5.out).size l3⟩)
  have LB := Lib.hid (show W5.heap.size ≤ b ∧ W5.heap.size ≤ rg ∧ w.heap.size ≤ rb from ⟨l1, l3, Nat.le_trans (X0.out.trans X5.out).size l2⟩)
  have p0 := x.cell (PB.out 0 _ rfl); have p1 := x.cell (PB.out 1 _ rfl); have p2 := x.cell (PB.out 2 _ rfl); have p3 := x.cell (PB.out 3 _ rfl); have p4 := x.cell (PB.out 4 _ rfl)
  clear ha l1 l2 l3 x
  go_wp2_with fail
  clear p0 p1 p2 p3 p4
  have CN := Lib.hid (ref10_New (P := arB b rg) (lc := lc) (fc := fc) (mc := mc) (cc := cc) D6.out (fun k hk => by have := OA.out.ar.lt; rcases hk with rfl | rfl <;> omega)
    (by have := LT.out; have := LB.out; unfold arB; omega) (fun x o e hk => by have h1 := LT.out.2.2.2 x o e; have h2 := LB.out; rcases hk with rfl | rfl <;> omega))
  unfold dpv at CN
  refine CN.out.mono ?_
  rintro e w7 ⟨qa, qc, rfl, hdn, x, ql⟩
  have DN := Lib.hid hdn
  replace OA := Lib.hid (OA.out.go x)
  replace X6 := Lib.hid (X6.out.trans x)
  clear hdn x CN
  obtain ⟨_, vv, uu, ff⟩ := TW.out.go X6.out
  have rz0 := uu 0 _ rfl; have rz1 := uu 1 _ rfl; have rz2 := uu 2 _ rfl; have rz3 := uu 3 _ rfl; have rz4 := uu 4 _ rfl; have rz5 := uu 5 _ rfl
  have f0 := ff 0; have f1 := ff 1; have f2 := ff 2; have f3 := ff 3; have f4 := ff 4; have f5 := ff 5
  clear vv uu ff
  unfold dav
  go_wp2_with fail
  obtain ⟨⟨q0, q1, q2, q3, q4, q5⟩, qc6⟩ := set6 (.slice (some ⟨lb, 0, none⟩) (nS c i) lc) (.slice (some ⟨fb, 0, none⟩) (nG c i) fc) (.slice (some ⟨mb, 0, none⟩) (nG c i) mc) (.int .i64 (wordsOf c i)) (.slice ca c.cl.length cc) (.slice qa (nS c i) qc) rz0 rz1 rz2 rz3 rz4 rz5 _ rfl
  have sz := HZ.out
  have l5 := X5.out.size
  have s0 := SZ.out
  have xs := XX.out.size
  refine bodyPost_ret (v := .tuple #[.pointer (some ⟨b, 0, none⟩), .agg #[.slice (some ⟨lb, 0, none⟩) (nS c i) lc, .slice (some ⟨fb, 0, none⟩) (nG c i) fc, .slice (some ⟨mb, 0, none⟩) (nG c i) mc, .int .i64 (wordsOf c i), .slice ca c.cl.length cc, .slice qa (nS c i) qc]]) (by simp [results, Tryd.results20, go_sem, q0, q1, q2, q3, q4, q5]) rfl
    ⟨b, pb, gp, rb, rg, lb, lc, fb, fc, mb, mc, ca, cc, qa, qc, rfl, OA.out.far rz0 qc6 (by omega), DN.out.far rz0 qc6 (fun y o e => KL.out y o e) (fun y o e => by have := ql y o e; omega)⟩
end Go.Proofs.YtlhajoamebfniaaDoor

/-! commonagelaw10: row. -/
namespace Go.Proofs.YtlhajoamebfniaaDoor
open Go.RowKit
variable {P : Nat → Prop} {w w' : World} {lb lc fb fc mb mc cc t qc : Nat} {ca qa : Option Addr} {c : Conf} {bs bs' : List Bool}

/-- What row hands back: a row, and the document's. -/
def RowMade (bs : List Bool) (n : Int) (w : World) (e : Ending) (w' : World) : Prop :=
  ∃ xb xg g cap r, e = .returned (.tuple #[.pointer (some ⟨xb, 0, none⟩), .slice (some ⟨g, 0, none⟩) bs.length cap]) ∧ RowAt w' xb xg r ∧ BAt w' (some ⟨g, 0, none⟩) r ∧ r.length = bs.length ∧ w.heap.size ≤ xb ∧ w.heap.size ≤ xg ∧ w.heap.size ≤ g ∧ (0 ≤ n → ∀ i, bnth r i = true → bnth bs i = true) ∧ Ext w w'

set_option maxRecDepth 100000 in
set_option maxHeartbeats 8000000 in
theorem law10_row {n : Int} (h : DArn P w lb fb mb ca c t qa bs) (hn : -9223372036854775808 ≤ n ∧ n ≤ 9223372036854775807) :
    Calls Tryd.prog 34 #[.agg #[.slice (some ⟨lb, 0, none⟩) (nS c t) lc, .slice (some ⟨fb, 0, none⟩) (nG c t) fc, .slice (some ⟨mb, 0, none⟩) (nG c t) mc, .int .i64 (wordsOf c t), .slice ca c.cl.length cc, .slice qa bs.length qc], .int .i64 n] w (RowMade bs n w) := by
  have nb := h.plan.ok.nS_le h.plan.ti
  have np := h.plan.ok.nS_pos h.plan.ti
  have hq64 : bs.length ≤ 16384 := by rw [h.len]; exact nb
  have hpos : 0 < bs.length := by rw [h.len]; omega
  obtain ⟨gq, oq, rfl, hcells⟩ := h.row.pos hpos
  obtain ⟨z, hz⟩ : ∃ z, w.heap.size = z := ⟨_, rfl⟩
  have HZ := Lib.hid hz
  obtain ⟨W0, hW0⟩ : ∃ W0, w.alloc (.cells #[.slice (some ⟨lb, 0, none⟩) (nS c t) lc, .slice (some ⟨fb, 0, none⟩) (nG c t) fc, .slice (some ⟨mb, 0, none⟩) (nG c t) mc, .int .i64 (wordsOf c t), .slice ca c.cl.length cc, .slice (some ⟨gq, oq, none⟩) bs.length qc] 53) = W0 := ⟨_, rfl⟩
  have x0 : Ext w W0 := by rw [← hW0]; exact (Ext.refl _).alloc _
  have v5 : W0.cell? ⟨z, 5, none⟩ = some (.slice (some ⟨gq, oq, none⟩) bs.length qc) := by rw [← hW0, ← hz, cell_newN]; rfl
  have V5 := Lib.hid v5
  have HC := Lib.hid (fun i hi => x0.cell (hcells i hi))
  have X0 := Lib.hid x0
  have hmk : ∀ W : World, (Instr.makeSlice 31 (.int .i64 (bs.length : Int)) (.int .i64 (bs.length : Int))).run Tryd.prog W = .ok (.slice (some ⟨W.heap.size, 0, none⟩) bs.length bs.length) (W.alloc (.cells (madeCells #[.bool false] bs.length) 4)) := fun W =>
    run_make_row' 31 4 (.bool false) 1 Tryd.underlying31 info_bool rfl .i64 .i64 bs.length (by omega) (by omega) W
  have HN := Lib.hid hn
  clear h hcells hn x0 nb np
  go_enter Tryd.func34, Tryd.ntmps34
  go_wp2_with fail
  refine (bits_New bs.length (by omega)).mono ?_
  rintro e w1 ⟨xb, xg, rfl, hr, l1, l2, x1⟩
  have R1 := Lib.hid hr
  replace l2 := l2 hpos
  have X1 := Lib.hid x1
  have v5 := x1.cell V5.out
  clear hr x1
  go_wp2_with fail
  obtain ⟨W2, hW2⟩ : ∃ W, w1.alloc (.cells (madeCells #[.bool false] bs.length) 4) = W := ⟨_, rfl⟩
  obtain ⟨g, hg⟩ : ∃ g, w1.heap.size = g := ⟨_, rfl⟩
  rw [hW2, hg]
  have x2 : Ext w1 W2 := by rw [← hW2]; exact (Ext.refl _).alloc _
  have G0 : Hid (BAt W2 (some ⟨g, 0, none⟩) (List.replicate bs.length false)) := Lib.hid (by
    refine BAt.mk fun i hi => ?_
    rw [List.length_replicate] at hi
    rw [Nat.zero_add, bnth_rep0, ← hW2, ← hg, cell_newN, made_at hi])
  have F0 : Hid (∀ o, W2.frozen? ⟨g, o, none⟩ = false) := Lib.hid fun o => by rw [← hW2]; exact World.frozen?_alloc_at _ _ _ _ hg.symm
  have R2 := Lib.hid (R1.out.ext x2)
  have V2 := Lib.hid (x2.cell (X1.out.cell V5.out))
  have X2 := Lib.hid (X1.out.trans x2)
  have gl : w1.heap.size ≤ g := by omega
  have gx : xg < g := by have := R1.out.glt (by rw [List.length_replicate]; exact hpos); omega
  have gb : xb < g := by have := R1.out.lt; omega
  have C2 := Lib.hid (fun i hi => X2.out.cell (HC.out i hi))
  have z0 : z < W0.heap.size := cell_lt V5.out
  have W0l := X0.out.size
  have X1l := X1.out.size
  have gq0 : gq < W0.heap.size := cell_lt (HC.out 0 hpos)
  clear hW2 hg x2 v5 R1
  obtain ⟨n0, n1⟩ := HN.out
  go_loopw [9] (fun iv wr => ∃ (i : Nat) (r : List Bool), i ≤ bs.length ∧ iv = .int .i64 i ∧ r.length = bs.length ∧ Hid (RowAt wr xb xg r) ∧ Hid (BAt wr (some ⟨g, 0, none⟩) r) ∧ Hid (∀ o, wr.frozen? ⟨g, o, none⟩ = false) ∧ Hid (0 ≤ n → ∀ i, bnth r i = true → bnth bs i = true) ∧ Hid (Chg (fun k => k = xg ∨ k = g) W2 wr)) (fun iv _ => bs.length - (intOf iv).toNat)
  case atStart => exact ⟨0, _, Nat.zero_le _, rfl, List.length_replicate .., R2, G0, F0, Lib.hid (fun _ i h => by rw [bnth_rep0] at h; cases h), Lib.hid (Chg.refl _ _)⟩
  case round =>
    obtain ⟨i, r, hi, rfl, hrl, HR, HB, HF, HS, HX⟩ := hrel
    have v5 := HX.out.cell (p := ⟨z, 5, none⟩) (by show ¬ (z = xg ∨ z = g); omega) V2.out
    by_cases hlt : i < bs.length
    · have ck := HX.out.cell (p := ⟨gq, oq + i, none⟩) (by show ¬ (gq = xg ∨ gq = g); omega) (C2.out i hlt)
      have m8 : (i : Int).tmod 8 = ((i % 8 : Nat) : Int) := by rw [Int.tmod_eq_emod_of_nonneg (Int.natCast_nonneg _)]; rfl
      obtain ⟨k8, hk8⟩ : ∃ k, i % 8 = k := ⟨_, rfl⟩
      rw [hk8] at m8
      have k8l : k8 < 8 := by omega
      clear hk8
      obtain ⟨q, te⟩ : ∃ q, (bits .and .i64 (n / 2 ^ k8) 1 == 1) = q := ⟨_, rfl⟩
      obtain ⟨i0, te0⟩ : ∃ q, ((i : Int) == 0) = q := ⟨_, rfl⟩
      obtain ⟨n0', tn⟩ : ∃ q, decide (n < 0) = q := ⟨_, rfl⟩
      have te1 : (i == 0) = i0 := by
        rw [← te0]
        rcases i with _ | i
        · rfl
        · exact (by simp : (i + 1 == 0) = false).trans (by symm; simpa using (by omega : ¬ ((i : Int) + 1 = 0)))
      have NN : Hid (n0' = true → ¬ 0 ≤ n) := Lib.hid (fun e => by rw [e] at tn; have := of_decide_eq_true tn; omega)
      cases hb : bnth bs i
      · have HBB := Lib.hid hb
        rw [hb] at ck
        clear hb
        cases i0
        · go_wp2_with fail
          go_roundw
          case rel => exact ⟨i + 1, r, by omega, by go_num, hrl, HR, HB, HF, HS, HX⟩
          case measure => simp [intOf]; omega
        · cases n0'
          · go_wp2_with fail
            go_roundw
            case rel => exact ⟨i + 1, r, by omega, by go_num, hrl, HR, HB, HF, HS, HX⟩
            case measure => simp [intOf]; omega
          · have BR := Lib.hid (bsetR_yes (is := true) (show i < r.length by omega))
            go_wp2_with fail
            refine (row_Set r _ 0 HR.out BR.out).mono ?_
            rintro e w3 ⟨rfl, hr3, hc3⟩
            have R3 := Lib.hid hr3
            have HB3 := Lib.hid (HB.out.chg hc3 (fun b o e q => by cases e; have := q.2; omega))
            have HF3 : Hid (∀ o, w3.frozen? ⟨g, o, none⟩ = false) := Lib.hid fun o => by
              obtain ⟨x, y, e, hc⟩ := HB.out 0 (by omega)
              cases e
              rw [hc3.frozen (p := ⟨g, o, none⟩) (by have := cell_lt hc; exact this) (fun q => by have h : g = xg := q.2; omega)]; exact HF.out o
            have fz := HF3.out i
            have ck3 : w3.cell? ⟨g, i, none⟩ = some (.bool (bnth r i)) := by
              obtain ⟨x, y, e, hc⟩ := HB3.out i (by omega)
              cases e
              rw [Nat.zero_add] at hc; exact hc
            have HX3 := Lib.hid (HX.out.trans (hc3.mono fun k q => Or.inl q.2))
            clear hr3 hc3
            go_wp2_with fail
            go_roundw
            case rel => exact ⟨i + 1, r.set i true, by omega, by go_num, by rw [List.length_set]; exact hrl, Lib.hid (R3.out.chg (P := fun k => k = g) (Chg.setCell (P := fun k => k = g) (p := ⟨g, i, none⟩) (Chg.refl _ _) (.inl rfl) _) (by omega) (fun _ => by omega)), Lib.hid (HB3.out.set (by omega) true), Lib.hid (fun o => by rw [World.frozen?_setCell]; exact HF3.out o), Lib.hid (fun hn j hj => by
              rw [bnth_set (by omega)] at hj
              by_cases e : j = i
              · subst e; exact absurd (NN.out (by first | trivial | rfl)) (by omega)
              · rw [if_neg e] at hj; exact HS.out hn j hj), Lib.hid (HX3.out.setCell (p := ⟨g, i, none⟩) (.inl (.inr rfl)) _)⟩
            case measure => simp [intOf]; omega
      · have HBB := Lib.hid hb
        rw [hb] at ck
        clear hb
        cases q
        · cases i0
          · go_wp2_with fail
            go_roundw
            case rel => exact ⟨i + 1, r, by omega, by go_num, hrl, HR, HB, HF, HS, HX⟩
            case measure => simp [intOf]; omega
          · cases n0'
            · go_wp2_with fail
              go_roundw
              case rel => exact ⟨i + 1, r, by omega, by go_num, hrl, HR, HB, HF, HS, HX⟩
              case measure => simp [intOf]; omega
            · have BR := Lib.hid (bsetR_yes (is := true) (show i < r.length by omega))
              go_wp2_with fail
              refine (row_Set r _ 0 HR.out BR.out).mono ?_
              rintro e w3 ⟨rfl, hr3, hc3⟩
              have R3 := Lib.hid hr3
              have HB3 := Lib.hid (HB.out.chg hc3 (fun b o e q => by cases e; have := q.2; omega))
              have HF3 : Hid (∀ o, w3.frozen? ⟨g, o, none⟩ = false) := Lib.hid fun o => by
                obtain ⟨x, y, e, hc⟩ := HB.out 0 (by omega)
                cases e
                rw [hc3.frozen (p := ⟨g, o, none⟩) (by have := cell_lt hc; exact this) (fun q => by have h : g = xg := q.2; omega)]; exact HF.out o
              have fz := HF3.out i
              have ck3 : w3.cell? ⟨g, i, none⟩ = some (.bool (bnth r i)) := by
                obtain ⟨x, y, e, hc⟩ := HB3.out i (by omega)
                cases e
                rw [Nat.zero_add] at hc; exact hc
              have HX3 := Lib.hid (HX.out.trans (hc3.mono fun k q => Or.inl q.2))
              clear hr3 hc3
              go_wp2_with fail
              go_roundw
              case rel => exact ⟨i + 1, r.set i true, by omega, by go_num, by rw [List.length_set]; exact hrl, Lib.hid (R3.out.chg (P := fun k => k = g) (Chg.setCell (P := fun k => k = g) (p := ⟨g, i, none⟩) (Chg.refl _ _) (.inl rfl) _) (by omega) (fun _ => by omega)), Lib.hid (HB3.out.set (by omega) true), Lib.hid (fun o => by rw [World.frozen?_setCell]; exact HF3.out o), Lib.hid (fun hn j hj => by
                rw [bnth_set (by omega)] at hj
                by_cases e : j = i
                · subst e; exact absurd (NN.out (by first | trivial | rfl)) (by omega)
                · rw [if_neg e] at hj; exact HS.out hn j hj), Lib.hid (HX3.out.setCell (p := ⟨g, i, none⟩) (.inl (.inr rfl)) _)⟩
              case measure => simp [intOf]; omega
        · have BR := Lib.hid (bsetR_yes (is := true) (show i < r.length by omega))
          go_wp2_with fail
          refine (row_Set r _ 0 HR.out BR.out).mono ?_
          rintro e w3 ⟨rfl, hr3, hc3⟩
          have R3 := Lib.hid hr3
          have HB3 := Lib.hid (HB.out.chg hc3 (fun b o e q => by cases e; have := q.2; omega))
          have HF3 : Hid (∀ o, w3.frozen? ⟨g, o, none⟩ = false) := Lib.hid fun o => by
            obtain ⟨x, y, e, hc⟩ := HB.out 0 (by omega)
            cases e
            rw [hc3.frozen (p := ⟨g, o, none⟩) (by have := cell_lt hc; exact this) (fun q => by have h : g = xg := q.2; omega)]; exact HF.out o
          have fz := HF3.out i
          have ck3 : w3.cell? ⟨g, i, none⟩ = some (.bool (bnth r i)) := by
            obtain ⟨x, y, e, hc⟩ := HB3.out i (by omega)
            cases e
            rw [Nat.zero_add] at hc; exact hc
          have HX3 := Lib.hid (HX.out.trans (hc3.mono fun k q => Or.inl q.2))
          clear hr3 hc3
          go_wp2_with fail
          go_roundw
          case rel => exact ⟨i + 1, r.set i true, by omega, by go_num, by rw [List.length_set]; exact hrl, Lib.hid (R3.out.chg (P := fun k => k = g) (Chg.setCell (P := fun k => k = g) (p := ⟨g, i, none⟩) (Chg.refl _ _) (.inl rfl) _) (by omega) (fun _ => by omega)), Lib.hid (HB3.out.set (by omega) true), Lib.hid (fun o => by rw [World.frozen?_setCell]; exact HF3.out o), Lib.hid (fun hn j hj => by
            rw [bnth_set (by omega)] at hj
            by_cases e : j = i
            · subst e; exact HBB.out
            · rw [if_neg e] at hj; exact HS.out hn j hj), Lib.hid (HX3.out.setCell (p := ⟨g, i, none⟩) (.inl (.inr rfl)) _)⟩
          case measure => simp [intOf]; omega
    · obtain rfl : i = bs.length := by omega
      go_wp2_with fail
      go_ret2
      have xe : Ext w wr := HX.out.over (X0.out.trans X2.out) (fun k e => by omega)
      exact ⟨xb, xg, g, _, r, rfl, HR.out, HB.out, hrl, by omega, by omega, by omega, HS.out, xe⟩
end Go.Proofs.YtlhajoamebfniaaDoor

/-! commonagelaw10: does. -/
namespace Go.Proofs.YtlhajoamebfniaaDoor
open Go.RowKit
variable {P : Nat → Prop} {w w' : World} {b pb gp rb rg : Nat} {lb lc fb fc mb mc cc t qc : Nat} {ca qa : Option Addr} {c : Conf} {bs bs' : List Bool}

structure AAct where
  what : Int
  n : Int
instance : Inhabited AAct := ⟨⟨0, 0⟩⟩
def aActnth (l : List AAct) (i : Nat) : AAct := l.getD i default
def AAct.Ok (t : AAct) : Prop := (0 ≤ t.what ∧ t.what ≤ 255) ∧ (-9223372036854775808 ≤ t.n ∧ t.n ≤ 9223372036854775807)
def AActAt (w : World) (a : Option Addr) (l : List AAct) : Prop := ∀ i, i < l.length → (aActnth l i).Ok ∧ ∃ b o, a = some ⟨b, o, none⟩ ∧ w.cell? ⟨b, o + i * 2, none⟩ = some (.int .u8 (aActnth l i).what) ∧ w.cell? ⟨b, o + i * 2 + 1, none⟩ = some (.int .i64 (aActnth l i).n)
theorem AActAt.ext {w w' : World} {a : Option Addr} {l : List AAct} (h : AActAt w a l) (hx : Ext w w') : AActAt w' a l := fun i hi => by
  obtain ⟨k, b, o, e, c0, c1⟩ := h i hi
  exact ⟨k, b, o, e, hx.cell c0, hx.cell c1⟩

/-- A box of some cells. -/
structure BoxAt (w : World) (z : Nat) (V : List Value) : Prop where
  c : ∀ i x, V[i]? = some x → w.cell? ⟨z, i, none⟩ = some x
  f : ∀ i, w.frozen? ⟨z, i, none⟩ = false
  lt : z < w.heap.size
theorem BoxAt.new (w : World) (V : List Value) (u : TypeId) {z : Nat} (hz : w.heap.size = z) : BoxAt (w.alloc (.cells V.toArray u)) z V := by
  subst hz
  refine ⟨fun i x hx => ?_, fun i => World.frozen?_alloc_at _ _ _ _ rfl, by simp⟩
  rw [cell_newN]; simpa using hx
theorem BoxAt.chg {Q : Nat → Prop} {z : Nat} {V : List Value} (h : BoxAt w z V) (hx : Chg Q w w') (hq : ¬ Q z) : BoxAt w' z V :=
  ⟨fun i x e => hx.cell hq (h.c i x e), fun i => by rw [hx.frozen (p := ⟨z, i, none⟩) h.lt hq]; exact h.f i, Nat.lt_of_lt_of_le h.lt hx.size⟩
theorem BoxAt.ext {z : Nat} {V : List Value} (h : BoxAt w z V) (hx : Ext w w') : BoxAt w' z V := h.chg (Q := fun _ => False) (Chg.of_ext hx) (fun a => a)

/-- What does hands back. -/
def DidA (P : Nat → Prop) (b pb gp rb rg lb lc fb fc mb mc : Nat) (ca : Option Addr) (cc : Nat) (c : Conf) (t : Nat) (qa0 : Option Addr) (n : Nat) (w : World) (e : Ending) (w' : World) : Prop :=
  ∃ bs' qa qc, e = .returned (.tuple #[.agg #[.slice (some ⟨lb, 0, none⟩) (nS c t) lc, .slice (some ⟨fb, 0, none⟩) (nG c t) fc, .slice (some ⟨mb, 0, none⟩) (nG c t) mc, .int .i64 (wordsOf c t), .slice ca c.cl.length cc, .slice qa bs'.length qc], .bool true]) ∧ ArenaAt w' b pb gp rb rg c t bs' ∧ DArn P w' lb fb mb ca c t qa bs' ∧ Chg (arB b rg) w w' ∧ bs'.length = n ∧ ∀ x o, qa = some ⟨x, o, none⟩ → (∃ o', qa0 = some ⟨x, o', none⟩) ∨ w.heap.size ≤ x

set_option maxRecDepth 100000 in
set_option maxHeartbeats 16000000 in
theorem law10_does (x : AAct) (h : ArenaAt w b pb gp rb rg c t bs) (hd : DArn P w lb fb mb ca c t qa bs) (hT : Tab w) (hP : ∀ k, P k → k < w.heap.size) (hPa : ∀ k, arB b rg k → P k) (hx : x.Ok) :
    Calls Tryd.prog 22 #[.pointer (some ⟨b, 0, none⟩), .agg #[.slice (some ⟨lb, 0, none⟩) (nS c t) lc, .slice (some ⟨fb, 0, none⟩) (nG c t) fc, .slice (some ⟨mb, 0, none⟩) (nG c t) mc, .int .i64 (wordsOf c t), .slice ca c.cl.length cc, .slice qa bs.length qc], .agg #[.int .u8 x.what, .int .i64 x.n]] w (DidA P b pb gp rb rg lb lc fb fc mb mc ca cc c t qa bs.length w) := by
  obtain ⟨wh, n⟩ := x
  obtain ⟨ok1, ok2⟩ := hx
  dsimp only at ok1 ok2 ⊢
  obtain ⟨z, hz⟩ : ∃ z, w.heap.size = z := ⟨_, rfl⟩
  have HZ := Lib.hid hz
  obtain ⟨W0, hW0⟩ : ∃ W0, ((w.alloc (.cells #[.slice (some ⟨lb, 0, none⟩) (nS c t) lc, .slice (some ⟨fb, 0, none⟩) (nG c t) fc, .slice (some ⟨mb, 0, none⟩) (nG c t) mc, .int .i64 (wordsOf c t), .slice ca c.cl.length cc, .slice qa bs.length qc] 53)).alloc (.cells #[.int .u8 wh, .int .i64 n] 59)).alloc (.cells #[.slice none 0 0, .slice none 0 0, .slice none 0 0, .int .i64 0, .slice none 0 0, .slice none 0 0] 53) = W0 := ⟨_, rfl⟩
  have B1 : Hid (BoxAt W0 z [.slice (some ⟨lb, 0, none⟩) (nS c t) lc, .slice (some ⟨fb, 0, none⟩) (nG c t) fc, .slice (some ⟨mb, 0, none⟩) (nG c t) mc, .int .i64 (wordsOf c t), .slice ca c.cl.length cc, .slice qa bs.length qc]) := Lib.hid (by rw [← hW0]; exact ((BoxAt.new w _ _ hz).ext ((Ext.refl _).alloc _)).ext ((Ext.refl _).alloc _))
  have B2 : Hid (BoxAt W0 (z + 1) [.int .u8 wh, .int .i64 n]) := Lib.hid (by rw [← hW0]; exact (BoxAt.new _ _ _ (by simp [hz])).ext ((Ext.refl _).alloc _))
  have B3 : Hid (BoxAt W0 (z + 1 + 1) [.slice none 0 0, .slice none 0 0, .slice none 0 0, .int .i64 0, .slice none 0 0, .slice none 0 0]) := Lib.hid (by rw [← hW0]; exact BoxAt.new _ _ _ (by simp [hz]))
  have X0 : Hid (Ext w W0) := Lib.hid (by rw [← hW0]; exact (((Ext.refl _).alloc _).alloc _).alloc _)
  have H := Lib.hid h; have HD := Lib.hid hd; have HT := Lib.hid hT; have HP := Lib.hid hP; have HA := Lib.hid hPa
  have SZ := Lib.hid (show W0.heap.size = z + 3 by rw [← hW0]; simp [hz])
  have NB := Lib.hid (show b < z ∧ rg < z by have := h.lt; omega)
  obtain ⟨w0, w255⟩ := ok1
  have hw0 := Int.emod_nonneg wh (show (4 : Int) ≠ 0 by decide)
  have hw1 := Int.emod_lt_of_pos wh (show (0 : Int) < 4 by decide)
  have v0 := B1.out.c 0 _ rfl; have v1 := B1.out.c 1 _ rfl; have v2 := B1.out.c 2 _ rfl; have v3 := B1.out.c 3 _ rfl; have v4 := B1.out.c 4 _ rfl; have v5 := B1.out.c 5 _ rfl
  have a0 := B2.out.c 0 _ rfl; have a1 := B2.out.c 1 _ rfl
  clear h hd hT hP hPa
  obtain ⟨y, hy⟩ : ∃ y, wh % 4 = y := ⟨_, rfl⟩
  rw [hy] at hw0 hw1
  have HY := Lib.hid hy
  rcases (show y = 2 ∨ y = 3 ∨ (y ≠ 2 ∧ y ≠ 3) by omega) with rfl | rfl | ⟨y2, y3⟩
  · obtain ⟨bs', k, hg⟩ : ∃ bs' k, giveR bs n = (bs', k) := ⟨_, _, rfl⟩
    have G := Lib.hid hg
    have GL := Lib.hid (show bs'.length = bs.length by have := giveR_len bs n; rw [hg] at this; exact this)
    have CG := Lib.hid (ref10_Give (lc := lc) (fc := fc) (mc := mc) (cc := cc) (qc := qc) (HD.out.ext X0.out) (fun k hk => Nat.lt_of_lt_of_le (HP.out k hk) X0.out.size) G.out)
    unfold dav at CG
    clear hg
    go_enter Tryd.func22, Tryd.ntmps22
    go_wp2_with fail
    clear v0 v1 v2 v3 v4 v5 a0 a1
    refine CG.out.mono ?_
    rintro e w1 ⟨qa', qc', rfl, hd1, x1, ql⟩
    have D1 := Lib.hid hd1; have X1 := Lib.hid x1; have QL := Lib.hid ql
    clear hd1 x1 ql CG
    have lz : z + 1 + 1 < w1.heap.size := by have := X1.out.size; have := SZ.out; omega
    go_wp2_with fail
    obtain ⟨y, hy⟩ : ∃ y, w1.heap.size = y := ⟨_, rfl⟩
    obtain ⟨W4, hW4⟩ : ∃ W, w1.alloc (.cells #[.slice (some ⟨lb, 0, none⟩) (nS c t) lc, .slice (some ⟨fb, 0, none⟩) (nG c t) fc, .slice (some ⟨mb, 0, none⟩) (nG c t) mc, .int .i64 (wordsOf c t), .slice ca c.cl.length cc, .slice qa' bs'.length qc'] 53) = W := ⟨_, rfl⟩
    have x4 : Ext w1 W4 := by rw [← hW4]; exact (Ext.refl _).alloc _
    have PB : Hid (BoxAt W4 y [.slice (some ⟨lb, 0, none⟩) (nS c t) lc, .slice (some ⟨fb, 0, none⟩) (nG c t) fc, .slice (some ⟨mb, 0, none⟩) (nG c t) mc, .int .i64 (wordsOf c t), .slice ca c.cl.length cc, .slice qa' bs'.length qc']) := Lib.hid (by rw [← hW4]; exact BoxAt.new w1 _ _ hy)
    have X4 := Lib.hid (X1.out.trans x4)
    have D4 := Lib.hid (D1.out.ext x4)
    have yl : z + 3 ≤ y := by have := X1.out.size; have := SZ.out; omega
    rw [hW4, hy]
    clear x4 hW4 hy lz D1 X1
    have H4 := Lib.hid (H.out.ext (X0.out.trans X4.out))
    have nz : ¬ arB b rg (z + 1 + 1) := by have := NB.out; unfold arB; omega
    have ny : ¬ arB b rg y := by have := NB.out; unfold arB; omega
    have a1 := X4.out.cell (B2.out.c 1 _ rfl)
    have p0 := PB.out.c 0 _ rfl; have p1 := PB.out.c 1 _ rfl; have p2 := PB.out.c 2 _ rfl; have p3 := PB.out.c 3 _ rfl; have p4 := PB.out.c 4 _ rfl; have p5 := PB.out.c 5 _ rfl
    go_region_with ((go_at_call 32; refine (arena_Give (H4.out.ext (Ext.refl _).drew) G.out).mono ?_; rintro e w3 ⟨rfl, ha3, hc3⟩; have pb3 := (PB.out.ext (Ext.refl _).drew).chg hc3 ny; have p0' := pb3.c 0 _ rfl; have p1' := pb3.c 1 _ rfl; have p2' := pb3.c 2 _ rfl; have p3' := pb3.c 3 _ rfl; have p4' := pb3.c 4 _ rfl; have p5' := pb3.c 5 _ rfl; have rb3 := (B3.out.ext (X4.out.trans (Ext.refl _).drew)).chg hc3 nz; have rz0 := rb3.c 0 _ rfl; have rz1 := rb3.c 1 _ rfl; have rz2 := rb3.c 2 _ rfl; have rz3 := rb3.c 3 _ rfl; have rz4 := rb3.c 4 _ rfl; have rz5 := rb3.c 5 _ rfl; have f0 := rb3.f 0; have f1 := rb3.f 1; have f2 := rb3.f 2; have f3 := rb3.f 3; have f4 := rb3.f 4; have f5 := rb3.f 5))
    all_goals
      clear p0 p1 p2 p3 p4 p5 p0' p1' p2' p3' p4' p5' a1
      go_wp2_with fail
      obtain ⟨⟨q0, q1, q2, q3, q4, q5⟩, qc6⟩ := set6 (.slice (some ⟨lb, 0, none⟩) (nS c t) lc) (.slice (some ⟨fb, 0, none⟩) (nG c t) fc) (.slice (some ⟨mb, 0, none⟩) (nG c t) mc) (.int .i64 (wordsOf c t)) (.slice ca c.cl.length cc) (.slice qa' bs'.length qc') rz0 rz1 rz2 rz3 rz4 rz5 _ rfl
      refine bodyPost_ret (v := .tuple #[.agg #[.slice (some ⟨lb, 0, none⟩) (nS c t) lc, .slice (some ⟨fb, 0, none⟩) (nG c t) fc, .slice (some ⟨mb, 0, none⟩) (nG c t) mc, .int .i64 (wordsOf c t), .slice ca c.cl.length cc, .slice qa' bs'.length qc'], .bool true]) (by simp [results, Tryd.results22, go_sem, Act.put, q0, q1, q2, q3, q4, q5]) rfl
        ⟨bs', qa', qc', rfl, ha3.far rz0 qc6, (D4.out.chg ((Chg.of_ext (P := arB b rg) (Ext.refl _).drew).trans hc3) HA.out).far rz0 qc6 (fun y o e => by have := HD.out.lt.2.2.2.1 y o e; omega) (fun y o e => by
          rcases QL.out y o e with ⟨o', e'⟩ | e'
          · have := HD.out.lt.2.2.2.2 y o' e'; omega
          · have := SZ.out; omega), ((Chg.of_ext (X0.out.trans (X4.out.trans (Ext.refl _).drew))).trans hc3).new (qc6.mono fun k e => by rw [e]; omega), GL.out, fun x o e => by
          rcases QL.out x o e with h | h
          · exact .inl h
          · have := SZ.out; exact .inr (by omega)⟩
  · have CR := Lib.hid (law10_row (lc := lc) (fc := fc) (mc := mc) (cc := cc) (qc := qc) (n := n) (HD.out.ext X0.out) ok2)
    go_enter Tryd.func22, Tryd.ntmps22
    go_wp2_with fail
    refine CR.out.mono ?_
    rintro e wr ⟨xb, xg, rr, rcap, r, rfl, hra, hrb, hrl, k1, k2, k3, _, xr⟩
    have RA := Lib.hid hra; have RB := Lib.hid hrb; have XR := Lib.hid xr
    have RL := Lib.hid hrl
    have DR := Lib.hid ((HD.out.ext X0.out).ext xr)
    obtain ⟨bs', k, hg⟩ : ∃ bs' k, giveAllR bs r = (bs', k) := ⟨_, _, rfl⟩
    have G := Lib.hid hg
    have GL := Lib.hid (show bs'.length = bs.length by
      unfold giveAllR at hg
      split at hg
      · injection hg with e1 _; rw [← e1]; exact bless_len ..
      · injection hg with e1 _; rw [← e1])
    have CG : Hid (Calls Tryd.prog 62 #[.agg #[.slice (some ⟨lb, 0, none⟩) (nS c t) lc, .slice (some ⟨fb, 0, none⟩) (nG c t) fc, .slice (some ⟨mb, 0, none⟩) (nG c t) mc, .int .i64 (wordsOf c t), .slice ca c.cl.length cc, .slice qa bs.length qc], .slice (some ⟨rr, 0, none⟩) bs.length rcap] wr (DMade P qa lb lc fb fc mb mc ca cc c t bs' [.int .i64 k] wr)) := Lib.hid (by
      have h := ref10_GiveAll (lc := lc) (fc := fc) (mc := mc) (cc := cc) (qc := qc) (rc := rcap) DR.out (fun k hk => Nat.lt_of_lt_of_le (HP.out k hk) (X0.out.trans XR.out).size) RB.out RL.out G.out
      rw [RL.out] at h
      exact h)
    have v0 := XR.out.cell (B1.out.c 0 _ rfl); have v1 := XR.out.cell (B1.out.c 1 _ rfl); have v2 := XR.out.cell (B1.out.c 2 _ rfl); have v3 := XR.out.cell (B1.out.c 3 _ rfl); have v4 := XR.out.cell (B1.out.c 4 _ rfl); have v5 := XR.out.cell (B1.out.c 5 _ rfl)
    clear hg hra hrb xr hrl a0 a1
    go_wp2_with fail
    clear v0 v1 v2 v3 v4 v5
    refine CG.out.mono ?_
    rintro e w1 ⟨qa', qc', rfl, hd1, x1, ql⟩
    have D1 := Lib.hid hd1; have X1 := Lib.hid (XR.out.trans x1); have XL := Lib.hid x1
    have QL : Hid (∀ x o, qa' = some ⟨x, o, none⟩ → (∃ o', qa = some ⟨x, o', none⟩) ∨ W0.heap.size ≤ x) := Lib.hid fun x o e => by
      rcases ql x o e with h | h
      · exact .inl h
      · exact .inr (Nat.le_trans XR.out.size h)
    clear hd1 x1 ql CG
    have lz : z + 1 + 1 < w1.heap.size := by have := X1.out.size; have := SZ.out; omega
    go_wp2_with fail
    obtain ⟨y, hy⟩ : ∃ y, w1.heap.size = y := ⟨_, rfl⟩
    obtain ⟨W4, hW4⟩ : ∃ W, w1.alloc (.cells #[.slice (some ⟨lb, 0, none⟩) (nS c t) lc, .slice (some ⟨fb, 0, none⟩) (nG c t) fc, .slice (some ⟨mb, 0, none⟩) (nG c t) mc, .int .i64 (wordsOf c t), .slice ca c.cl.length cc, .slice qa' bs'.length qc'] 53) = W := ⟨_, rfl⟩
    have x4 : Ext w1 W4 := by rw [← hW4]; exact (Ext.refl _).alloc _
    have PB : Hid (BoxAt W4 y [.slice (some ⟨lb, 0, none⟩) (nS c t) lc, .slice (some ⟨fb, 0, none⟩) (nG c t) fc, .slice (some ⟨mb, 0, none⟩) (nG c t) mc, .int .i64 (wordsOf c t), .slice ca c.cl.length cc, .slice qa' bs'.length qc']) := Lib.hid (by rw [← hW4]; exact BoxAt.new w1 _ _ hy)
    have X4 := Lib.hid (X1.out.trans x4)
    have D4 := Lib.hid (D1.out.ext x4)
    have yl : z + 3 ≤ y := by have := X1.out.size; have := SZ.out; omega
    rw [hW4, hy]
    have R4 := Lib.hid (RA.out.ext (XL.out.trans x4))
    have T4 := Lib.hid (HT.out.ext (X0.out.trans X4.out))
    have ng := Lib.hid (show xg ≠ rg by have := NB.out; have := SZ.out; omega)
    clear x4 hW4 hy lz D1 X1
    have H4 := Lib.hid (H.out.ext (X0.out.trans X4.out))
    have nz : ¬ arB b rg (z + 1 + 1) := by have := NB.out; unfold arB; omega
    have ny : ¬ arB b rg y := by have := NB.out; unfold arB; omega
    have p0 := PB.out.c 0 _ rfl; have p1 := PB.out.c 1 _ rfl; have p2 := PB.out.c 2 _ rfl; have p3 := PB.out.c 3 _ rfl; have p4 := PB.out.c 4 _ rfl; have p5 := PB.out.c 5 _ rfl
    go_region_with ((go_at_call 35; refine (arena_GiveAll (H4.out.ext (Ext.refl _).drew) (T4.out.ext (Ext.refl _).drew) (R4.out.ext (Ext.refl _).drew) ng.out RL.out G.out).mono ?_; rintro e w3 ⟨rfl, ha3, hc3⟩; have pb3 := (PB.out.ext (Ext.refl _).drew).chg hc3 ny; have p0' := pb3.c 0 _ rfl; have p1' := pb3.c 1 _ rfl; have p2' := pb3.c 2 _ rfl; have p3' := pb3.c 3 _ rfl; have p4' := pb3.c 4 _ rfl; have p5' := pb3.c 5 _ rfl; have rb3 := (B3.out.ext (X4.out.trans (Ext.refl _).drew)).chg hc3 nz; have rz0 := rb3.c 0 _ rfl; have rz1 := rb3.c 1 _ rfl; have rz2 := rb3.c 2 _ rfl; have rz3 := rb3.c 3 _ rfl; have rz4 := rb3.c 4 _ rfl; have rz5 := rb3.c 5 _ rfl; have f0 := rb3.f 0; have f1 := rb3.f 1; have f2 := rb3.f 2; have f3 := rb3.f 3; have f4 := rb3.f 4; have f5 := rb3.f 5))
    all_goals
      clear p0 p1 p2 p3 p4 p5 p0' p1' p2' p3' p4' p5'
      go_wp2_with fail
      obtain ⟨⟨q0, q1, q2, q3, q4, q5⟩, qc6⟩ := set6 (.slice (some ⟨lb, 0, none⟩) (nS c t) lc) (.slice (some ⟨fb, 0, none⟩) (nG c t) fc) (.slice (some ⟨mb, 0, none⟩) (nG c t) mc) (.int .i64 (wordsOf c t)) (.slice ca c.cl.length cc) (.slice qa' bs'.length qc') rz0 rz1 rz2 rz3 rz4 rz5 _ rfl
      refine bodyPost_ret (v := .tuple #[.agg #[.slice (some ⟨lb, 0, none⟩) (nS c t) lc, .slice (some ⟨fb, 0, none⟩) (nG c t) fc, .slice (some ⟨mb, 0, none⟩) (nG c t) mc, .int .i64 (wordsOf c t), .slice ca c.cl.length cc, .slice qa' bs'.length qc'], .bool true]) (by simp [results, Tryd.results22, go_sem, Act.put, q0, q1, q2, q3, q4, q5]) rfl
        ⟨bs', qa', qc', rfl, ha3.far rz0 qc6, (D4.out.chg ((Chg.of_ext (P := arB b rg) (Ext.refl _).drew).trans hc3) HA.out).far rz0 qc6 (fun y o e => by have := HD.out.lt.2.2.2.1 y o e; omega) (fun y o e => by
          rcases QL.out y o e with ⟨o', e'⟩ | e'
          · have := HD.out.lt.2.2.2.2 y o' e'; omega
          · have := SZ.out; omega), ((Chg.of_ext (X0.out.trans (X4.out.trans (Ext.refl _).drew))).trans hc3).new (qc6.mono fun k e => by rw [e]; omega), GL.out, fun x o e => by
          rcases QL.out x o e with h | h
          · exact .inl h
          · have := SZ.out; exact .inr (by omega)⟩
  · have ty2 : (y == 2) = false := by simpa using y2
    have ty3 : (y == 3) = false := by simpa using y3
    obtain ⟨bs', p, k, hg⟩ := take_exists H.out.plan.ok H.out.plan.ti bs n
    have G := Lib.hid hg
    have GL := Lib.hid hg.len
    have nz : ¬ arB b rg (z + 1 + 1) := by have := NB.out; unfold arB; omega
    have ny : ¬ arB b rg z := by have := NB.out; unfold arB; omega
    have na : ¬ arB b rg (z + 1) := by have := NB.out; unfold arB; omega
    clear hg
    go_enter Tryd.func22, Tryd.ntmps22
    go_wp2_with fail
    refine (arena_Take (H.out.ext X0.out) (HT.out.ext X0.out) G.out).mono ?_
    rintro e w1 ⟨rfl, ha1, hc1⟩
    have A1 := Lib.hid ha1; have C1 := Lib.hid hc1
    have D1 := Lib.hid ((HD.out.ext X0.out).chg hc1 HA.out)
    have bx1 := B1.out.chg hc1 ny; have bx2 := B2.out.chg hc1 na; have BX3 := Lib.hid (B3.out.chg hc1 nz)
    clear v0 v1 v2 v3 v4 v5 a0 a1
    have v0 := bx1.c 0 _ rfl; have v1 := bx1.c 1 _ rfl; have v2 := bx1.c 2 _ rfl; have v3 := bx1.c 3 _ rfl; have v4 := bx1.c 4 _ rfl; have v5 := bx1.c 5 _ rfl; have a1 := bx2.c 1 _ rfl
    have CG := Lib.hid (ref10_Take (lc := lc) (fc := fc) (mc := mc) (cc := cc) (qc := qc) D1.out (fun k hk => Nat.lt_of_lt_of_le (HP.out k hk) (Nat.le_trans X0.out.size hc1.size)) G.out)
    unfold dav at CG
    clear ha1 hc1 bx1 bx2
    go_wp2_with fail
    clear v0 v1 v2 v3 v4 v5 a1
    refine CG.out.mono ?_
    rintro e w2 ⟨qa', qc', rfl, hd2, x2, ql⟩
    have D2 := Lib.hid hd2; have X2 := Lib.hid x2
    have QL : Hid (∀ x o, qa' = some ⟨x, o, none⟩ → (∃ o', qa = some ⟨x, o', none⟩) ∨ W0.heap.size ≤ x) := Lib.hid fun x o e => by
      rcases ql x o e with h | h
      · exact .inl h
      · exact .inr (Nat.le_trans C1.out.size h)
    clear hd2 x2 ql CG
    have lz : z + 1 + 1 < w2.heap.size := by have := X2.out.size; have := C1.out.size; have := SZ.out; omega
    have rb3 := BX3.out.ext X2.out
    have rz0 := rb3.c 0 _ rfl; have rz1 := rb3.c 1 _ rfl; have rz2 := rb3.c 2 _ rfl; have rz3 := rb3.c 3 _ rfl; have rz4 := rb3.c 4 _ rfl; have rz5 := rb3.c 5 _ rfl; have f0 := rb3.f 0; have f1 := rb3.f 1; have f2 := rb3.f 2; have f3 := rb3.f 3; have f4 := rb3.f 4; have f5 := rb3.f 5
    clear rb3
    go_wp2_with fail
    obtain ⟨W9, hW9⟩ : ∃ W9, (((((w2.setCell ⟨z + 1 + 1, 0, none⟩ (.slice (some ⟨lb, 0, none⟩) (nS c t) lc)).setCell ⟨z + 1 + 1, 1, none⟩ (.slice (some ⟨fb, 0, none⟩) (nG c t) fc)).setCell ⟨z + 1 + 1, 2, none⟩ (.slice (some ⟨mb, 0, none⟩) (nG c t) mc)).setCell ⟨z + 1 + 1, 3, none⟩ (.int .i64 (wordsOf c t))).setCell ⟨z + 1 + 1, 4, none⟩ (.slice ca c.cl.length cc)).setCell ⟨z + 1 + 1, 5, none⟩ (.slice qa' bs'.length qc') = W9 := ⟨_, rfl⟩
    obtain ⟨⟨q0, q1, q2, q3, q4, q5⟩, qc6⟩ := set6 (.slice (some ⟨lb, 0, none⟩) (nS c t) lc) (.slice (some ⟨fb, 0, none⟩) (nG c t) fc) (.slice (some ⟨mb, 0, none⟩) (nG c t) mc) (.int .i64 (wordsOf c t)) (.slice ca c.cl.length cc) (.slice qa' bs'.length qc') rz0 rz1 rz2 rz3 rz4 rz5 _ hW9.symm
    rw [hW9]
    have x9 : Ext W9 (W9.alloc (.cells #[.slice (some ⟨lb, 0, none⟩) (nS c t) lc, .slice (some ⟨fb, 0, none⟩) (nG c t) fc, .slice (some ⟨mb, 0, none⟩) (nG c t) mc, .int .i64 (wordsOf c t), .slice ca c.cl.length cc, .slice qa' bs'.length qc'] 53)) := (Ext.refl _).alloc _
    replace q0 := x9.cell q0; replace q1 := x9.cell q1; replace q2 := x9.cell q2; replace q3 := x9.cell q3; replace q4 := x9.cell q4; replace q5 := x9.cell q5
    refine bodyPost_ret (v := .tuple #[.agg #[.slice (some ⟨lb, 0, none⟩) (nS c t) lc, .slice (some ⟨fb, 0, none⟩) (nG c t) fc, .slice (some ⟨mb, 0, none⟩) (nG c t) mc, .int .i64 (wordsOf c t), .slice ca c.cl.length cc, .slice qa' bs'.length qc'], .bool true]) (by simp [results, Tryd.results22, go_sem, q0, q1, q2, q3, q4, q5]) rfl
        ⟨bs', qa', qc', rfl, ((A1.out.ext X2.out).far rz0 qc6).ext x9, (D2.out.far rz0 qc6 (fun y o e => by have := HD.out.lt.2.2.2.1 y o e; omega) (fun y o e => by
          rcases QL.out y o e with ⟨o', e'⟩ | e'
          · have := HD.out.lt.2.2.2.2 y o' e'; omega
          · have := SZ.out; omega)).ext x9, ((((Chg.of_ext X0.out).trans C1.out).trans (Chg.of_ext X2.out)).new (qc6.mono fun k e => by rw [e]; omega)).trans (Chg.of_ext x9), GL.out, fun x o e => by
          rcases QL.out x o e with h | h
          · exact .inl h
          · have := SZ.out; exact .inr (by omega)⟩
end Go.Proofs.YtlhajoamebfniaaDoor
